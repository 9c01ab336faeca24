/- Matching: what a pattern makes of what is bound, in plain Lean; the walk's state. -/
import Derived.Test.YtcmfjnadjddboaaMatBack
import Derived.Test.YtcmfjnadjddboaaTSame
import Derived.Test.YtcmfjnadjddboaaSame
namespace Go.Proofs.Ytcmfjnadjddboaa
open Go.RowKit Go

mutual
def T.mt : T → List Bd → T → Option (List Bd)
  | .mk f l, st, t =>
    if f < 0 then (match subFind st (-1 - f) with | none => some (st ++ [⟨-1 - f, t⟩]) | some o => if T.same o t = true then some st else none)
    else if f = t.f ∧ l.length = t.args.length then T.mtL l st t.args else none
def T.mtL : List T → List Bd → List T → Option (List Bd)
  | [], st, _ => some st
  | _ :: _, st, [] => some st
  | p :: ps, st, t :: ts => match T.mt p st t with | none => none | some s => T.mtL ps s ts
end
def mts : List Bd → List (T × T) → Option (List Bd)
  | st, [] => some st
  | st, q :: r => match q.1.mt st q.2 with | none => none | some s => mts s r
theorem mts_append : ∀ (a b : List (T × T)) (st : List Bd), mts st (a ++ b) = match mts st a with | none => none | some s => mts s b
  | [], b, st => rfl
  | q :: a, b, st => by
    rw [List.cons_append, mts, mts]
    cases q.1.mt st q.2 with
    | none => rfl
    | some s => exact mts_append a b s
theorem mtL_mts : ∀ (ps ts : List T) (st : List Bd), ps.length = ts.length → T.mtL ps st ts = mts st (ps.zip ts)
  | [], _, st, _ => by rw [T.mtL]; rfl
  | p :: ps, [], st, h => by cases h
  | p :: ps, t :: ts, st, h => by
    rw [T.mtL, List.zip_cons_cons, mts]
    cases T.mt p st t with
    | none => rfl
    | some s => exact mtL_mts ps ts s (by simpa using h)
theorem mt_new {f : Int} {l : List T} {st : List Bd} {t : T} (hf : f < 0) (h : subFind st (-1 - f) = none) : (T.mk f l).mt st t = some (st ++ [⟨-1 - f, t⟩]) := by
  rw [T.mt, if_pos hf, h]
theorem mt_old {f : Int} {l : List T} {st : List Bd} {t o : T} (hf : f < 0) (h : subFind st (-1 - f) = some o) : (T.mk f l).mt st t = if T.same o t = true then some st else none := by
  rw [T.mt, if_pos hf, h]
theorem mt_sym {f : Int} {l : List T} {st : List Bd} {t : T} (hf : ¬ f < 0) (h1 : f = t.f) (h2 : l.length = t.args.length) : (T.mk f l).mt st t = mts st (l.zip t.args) := by
  rw [T.mt, if_neg hf, if_pos ⟨h1, h2⟩, mtL_mts _ _ _ h2]
theorem mt_off {f : Int} {l : List T} {st : List Bd} {t : T} (hf : ¬ f < 0) (h : ¬ (f = t.f ∧ l.length = t.args.length)) : (T.mk f l).mt st t = none := by
  rw [T.mt, if_neg hf, if_neg h]
theorem mts_one (p t : T) (st : List Bd) : mts st [(p, t)] = p.mt st t := by
  rw [mts]; cases p.mt st t <;> rfl
def ssz : List (T × T) → Nat
  | [] => 0
  | q :: r => q.1.size + ssz r
theorem ssz_append : ∀ (a b : List (T × T)), ssz (a ++ b) = ssz a + ssz b
  | [], b => by simp [ssz]
  | q :: a, b => by rw [List.cons_append, ssz, ssz, ssz_append a b]; omega
theorem ssz_zip : ∀ (ps ts : List T), ssz (ps.zip ts) ≤ T.sizeL ps
  | [], _ => by simp [ssz]
  | _ :: _, [] => by simp [ssz]
  | p :: ps, t :: ts => by rw [List.zip_cons_cons, ssz, T.sizeL]; have := ssz_zip ps ts; dsimp only; omega

/-- The walk's state: the steps that are to be done, the row of variables, what is bound, where it lies, the map. -/
structure MX where
  ta : Option Addr
  tc : Nat
  R : List (Addr × Addr)
  L : List (T × T)
  ra : Option Addr
  rc : Nat
  st : List Bd
  ps : List Value
  es : Array MapEntry
  cl : Nat
def zget (l : List (T × T)) (i : Nat) : T × T := l.getD i (.mk 0 [], .mk 0 [])
def aget (l : List (Addr × Addr)) (i : Nat) : Addr × Addr := l.getD i (⟨0, 0, none⟩, ⟨0, 0, none⟩)
structure TS (w0 : World) (g mb wt : Nat) (C Ps Ts : Nat → Prop) (st0 : List Bd) (w : World) (x : MX) : Prop where
  trow : RowE eltV2 w 0 69 x.ta x.tc x.L.length x.R
  tnew : ∀ b, (Value.slice x.ta x.L.length x.tc).ownBlock = some b → wt ≤ b
  mrow : RowE eltI w 0 3 x.ra x.rc x.st.length (x.st.map (·.var))
  mown : ∀ b, (Value.slice x.ra x.st.length x.rc).ownBlock = some b → (C b ∨ wt ≤ b) ∧ ¬ Ts b
  stk : ∀ i, i < x.L.length → InTp Ps w (zget x.L i).1 (.pointer (some (aget x.R i).1)) ∧ InTp Ts w (zget x.L i).2 (.pointer (some (aget x.R i).2))
  ptr : ∀ i, i < x.st.length → InTp Ts w (dget x.st i).t (x.ps.getD i undef)
  ent : ImE x.es x.cl ((x.st.map (·.var)).zip x.ps)
  nd : (x.st.map (·.var)).Nodup
  len : x.ps.length = x.st.length
  i64 : ∀ y ∈ x.st, I64 y.var
  sz : ∀ y ∈ x.st, y.t.size ≤ 4294967296
  psz : ∀ q ∈ x.L, q.1.size ≤ 4294967296 ∧ q.2.size ≤ 4294967296
  pre : x.st.take st0.length = st0
  chg : Chg C w0 w
  old : w0.heap.size ≤ wt
  now : wt ≤ w.heap.size
  hP : ∀ b, Ps b → b < wt ∧ ¬ C b
  hT : ∀ b, Ts b → b < wt ∧ b ≠ g ∧ b ≠ mb
  cg : C g ∧ C mb
  hC : ∀ b, C b → b < w0.heap.size
section
variable {w0 w w' : World} {g mb wt : Nat} {C Ps Ts S : Nat → Prop} {st0 : List Bd} {x : MX}
theorem TS.keep (h : TS w0 g mb wt C Ps Ts st0 w x) (hc : Chg S w w') (h0 : ∀ b, b < w0.heap.size → S b → C b) (h1 : ∀ b, Ps b → ¬ S b) (h2 : ∀ b, Ts b → ¬ S b) (h3 : ∀ b, (Value.slice x.ta x.L.length x.tc).ownBlock = some b → ¬ S b) (h4 : ∀ b, (Value.slice x.ra x.st.length x.rc).ownBlock = some b → ¬ S b) : TS w0 g mb wt C Ps Ts st0 w' x :=
  { h with
    trow := h.trow.chgOwn (fun _ _ _ _ _ q => q) hc h3
    mrow := h.mrow.chgOwn (fun _ _ _ _ _ q => q) hc h4
    stk := fun i hi => ⟨(h.stk i hi).1.chg hc h1, (h.stk i hi).2.chg hc h2⟩
    ptr := fun i hi => (h.ptr i hi).chg hc h2
    chg := h.chg.trans2 hc h0
    now := Nat.le_trans h.now hc.size }
theorem TS.below (h : TS w0 g mb wt C Ps Ts st0 w x) (hb : Below w.heap.size w w') : TS w0 g mb wt C Ps Ts st0 w' x := h.keep (S := fun _ => False) (.ofBelow hb) (fun _ _ q => q.elim) (fun _ _ => id) (fun _ _ => id) (fun _ _ => id) (fun _ _ => id)
/-- One step more. -/
theorem TS.push {ra : Option Addr} {rc : Nat} {r : Addr × Addr} {q : T × T} (h : TS w0 g mb wt C Ps Ts st0 w x) (hR : RowE eltV2 w' 0 69 ra rc (x.L.length + 1) (x.R ++ [r])) (hc : Chg (fun b => (Value.slice x.ta x.L.length x.tc).ownBlock = some b) w w')
    (ho : ∀ b, (Value.slice ra (x.L.length + 1) rc).ownBlock = some b → (Value.slice x.ta x.L.length x.tc).ownBlock = some b ∨ wt ≤ b) (h1 : InTp Ps w q.1 (.pointer (some r.1))) (h2 : InTp Ts w q.2 (.pointer (some r.2))) (hz : q.1.size ≤ 4294967296 ∧ q.2.size ≤ 4294967296) :
    TS w0 g mb wt C Ps Ts st0 w' { x with ta := ra, tc := rc, R := x.R ++ [r], L := x.L ++ [q] } := by
  have hS0 : ∀ b, (Value.slice x.ta x.L.length x.tc).ownBlock = some b → wt ≤ b := h.tnew
  have hlen : x.L.length = x.R.length := h.trow.len
  have hPs : ∀ b, Ps b → ¬ (Value.slice x.ta x.L.length x.tc).ownBlock = some b := fun b q e => by have := (h.hP b q).1; have := hS0 b e; omega
  have hTs : ∀ b, Ts b → ¬ (Value.slice x.ta x.L.length x.tc).ownBlock = some b := fun b q e => by have := (h.hT b q).1; have := hS0 b e; omega
  have hne := h.mrow.ne h.trow (by decide)
  refine { h with
    trow := by simpa using hR
    tnew := fun b e => (ho b (by simpa using e)).elim (hS0 b) id
    mrow := h.mrow.chgOwn (fun _ _ _ _ _ q => q) hc hne
    stk := fun i hi => ?_
    ptr := fun i hi => (h.ptr i hi).chg hc hTs
    psz := fun y hy => ?_
    chg := h.chg.trans2 hc (fun b hb e => by have := hS0 b e; have := h.old; omega)
    now := Nat.le_trans h.now hc.size }
  · simp only [List.length_append, List.length_singleton] at hi
    rcases Nat.lt_or_ge i x.L.length with hi2 | hi2
    · have e1 : zget (x.L ++ [q]) i = zget x.L i := by simp [zget, List.getD_eq_getElem?_getD, List.getElem?_append_left hi2]
      have e2 : aget (x.R ++ [r]) i = aget x.R i := by simp [aget, List.getD_eq_getElem?_getD, List.getElem?_append_left (show i < x.R.length by omega)]
      dsimp only
      rw [e1, e2]
      exact ⟨(h.stk i hi2).1.chg hc hPs, (h.stk i hi2).2.chg hc hTs⟩
    · obtain rfl : i = x.L.length := by omega
      have e1 : zget (x.L ++ [q]) x.L.length = q := by simp [zget, List.getD_eq_getElem?_getD]
      have e2 : aget (x.R ++ [r]) x.L.length = r := by rw [hlen]; simp [aget, List.getD_eq_getElem?_getD]
      dsimp only
      rw [e1, e2]
      exact ⟨h1.chg hc hPs, h2.chg hc hTs⟩
  · rcases List.mem_append.1 hy with hy | hy
    · exact h.psz y hy
    · simp only [List.mem_singleton] at hy; subst hy; exact hz
theorem own_len {a : Option Addr} {n m c d : Nat} : (Value.slice a n c).ownBlock = (Value.slice a m d).ownBlock := by cases a <;> rfl
theorem InRow.openV {S : Nat → Prop} {w : World} {l : List (Addr × Addr)} {a : Option Addr} {k : Nat} (h : InRow eltV2 S w l a) (hk : k < l.length) : ∃ b o : Nat, a = some ⟨b, o, none⟩ ∧ w.cell? ⟨b, o + k * 2, none⟩ = some (.pointer (some (aget l k).1)) ∧ w.cell? ⟨b, o + k * 2 + 1, none⟩ = some (.pointer (some (aget l k).2)) := by
  obtain ⟨b, o, cs, ha, _, h1, h2⟩ := h k hk
  have h1' : cs = [.pointer (some l[k].1), .pointer (some l[k].2)] := h1
  subst h1'
  have e : aget l k = l[k] := by simp [aget, hk]
  rw [e]
  exact ⟨b, o, ha, h2 0 (by decide), h2 1 (by decide)⟩
/-- The step that is to be done next. -/
theorem TS.top (h : TS w0 g mb wt C Ps Ts st0 w x) (hn : 0 < x.L.length) : ∃ (f : Int) (l : List T) (t : T) (L : List (T × T)) (R : List (Addr × Addr)) (tb to pb po qb qo : Nat) (pa qa : Option Addr) (pc qc : Nat),
    x.L = L ++ [(.mk f l, t)] ∧ x.L.length = L.length + 1 ∧ x.ta = some ⟨tb, to, none⟩ ∧ w.cell? ⟨tb, to + L.length * 2, none⟩ = some (.pointer (some ⟨pb, po, none⟩)) ∧ w.cell? ⟨tb, to + L.length * 2 + 1, none⟩ = some (.pointer (some ⟨qb, qo, none⟩)) ∧
    w.cell? ⟨pb, po, none⟩ = some (.int .i64 f) ∧ w.cell? ⟨pb, po + 1, none⟩ = some (.slice pa l.length pc) ∧ InT Ps w (.mk f l) (.agg #[.int .i64 f, .slice pa l.length pc]) ∧
    w.cell? ⟨qb, qo, none⟩ = some (.int .i64 t.f) ∧ w.cell? ⟨qb, qo + 1, none⟩ = some (.slice qa t.args.length qc) ∧ InT Ts w t (.agg #[.int .i64 t.f, .slice qa t.args.length qc]) ∧ InTp Ts w t (.pointer (some ⟨qb, qo, none⟩)) ∧ InTp Ps w (.mk f l) (.pointer (some ⟨pb, po, none⟩)) ∧
    x.L.length ≤ x.tc ∧ x.tc ≤ maxLen ∧ (T.mk f l).size ≤ 4294967296 ∧ t.size ≤ 4294967296 ∧ TS w0 g mb wt C Ps Ts st0 w { x with L := L, R := R } := by
  have hlen : x.L.length = x.R.length := h.trow.len
  obtain ⟨k, hk⟩ : ∃ k, x.L.length = k + 1 := ⟨x.L.length - 1, by omega⟩
  have hkl : k < x.L.length := by omega
  obtain ⟨hr1, hr2, hr3, hr4⟩ := h.trow.inRow
  obtain ⟨tb, to, e1, c1, c2⟩ := InRow.openV (k := k) hr1 (by omega)
  obtain ⟨s1, s2⟩ := h.stk k hkl
  have s2' := s2
  have s1' := s1
  obtain ⟨pb, po, pa, pc, f1, _, p1, p2, p3⟩ := s1
  obtain ⟨qb, qo, qa, qc, f2, _, q1, q2, q3⟩ := s2
  rw [f1] at c1 s1'
  rw [f2] at c2 s2'
  have hz : zget x.L k = x.L[k] := by simp [zget, hkl]
  have hmem : x.L[k] ∈ x.L := List.getElem_mem hkl
  have hL : x.L = x.L.take k ++ [x.L[k]] := by rw [← List.take_succ_eq_append_getElem hkl, List.take_of_length_le (by omega)]
  have hsz := h.psz _ hmem
  rw [hz] at p1 p2 p3 q1 q2 q3 s2' s1'
  generalize hq : x.L[k] = q at *
  obtain ⟨⟨f, l⟩, t⟩ := q
  have hll : (x.L.take k).length = k := by rw [List.length_take]; omega
  refine ⟨f, l, t, x.L.take k, x.R.take k, tb, to, pb, po, qb, qo, pa, qa, pc, qc, hL, by rw [hll]; omega, e1, by rw [hll]; exact c1, by rw [hll]; exact c2, p1, p2, p3, q1, q2, q3, s2', s1', hr3, hr4, hsz.1, hsz.2, ?_⟩
  exact { h with
    trow := by
      dsimp only
      rw [hll]; exact h.trow.take k (by omega) (fun _ _ _ _ q _ => q)
    tnew := fun b e => h.tnew b (own_len.trans e)
    stk := fun i hi => by
      dsimp only at hi ⊢
      rw [hll] at hi
      have e1 : zget (x.L.take k) i = zget x.L i := by simp [zget, List.getD_eq_getElem?_getD, List.getElem?_take, hi]
      have e2 : aget (x.R.take k) i = aget x.R i := by simp [aget, List.getD_eq_getElem?_getD, List.getElem?_take, hi]
      rw [e1, e2]; exact h.stk i (by omega)
    psz := fun y hy => h.psz y (List.mem_of_mem_take hy) }
theorem subFind_zip {v : Int} : ∀ {st : List Bd} {ps : List Value}, ps.length = st.length → ∀ j, (subFind st v = none ∧ imFind ((st.map (·.var)).zip ps) v j = none) ∨ ∃ i, i < st.length ∧ subFind st v = some (dget st i).t ∧ (dget st i).var = v ∧ imFind ((st.map (·.var)).zip ps) v j = some (j + i, ps.getD i undef)
  | [], [], _, j => .inl ⟨rfl, rfl⟩
  | b :: st, p :: ps, h, j => by
    by_cases hb : b.var = v
    · right
      refine ⟨0, by simp, by simp [subFind, hb, dget], by simp [dget, hb], ?_⟩
      simp [imFind, hb]
    · have e : subFind (b :: st) v = subFind st v := by simp [subFind, hb]
      have e2 : imFind (((b :: st).map (·.var)).zip (p :: ps)) v j = imFind ((st.map (·.var)).zip ps) v (j + 1) := by
        rw [List.map_cons, List.zip_cons_cons, imFind, if_neg (fun q => hb q.symm)]
      rw [e, e2]
      rcases subFind_zip (v := v) (st := st) (ps := ps) (by simpa using h) (j + 1) with q | ⟨i, h1, h2, h3, h4⟩
      · exact .inl q
      · exact .inr ⟨i + 1, by simpa using h1, by simpa [dget] using h2, by simpa [dget] using h3, by rw [h4]; simp; omega⟩
/-- What a variable is bound to. -/
theorem TS.look (h : TS w0 g mb wt C Ps Ts st0 w x) (v : Int) : (subFind x.st v = none ∧ imLook ((x.st.map (·.var)).zip x.ps) v = none) ∨
    ∃ (o : T) (b k : Nat) (a : Option Addr) (c : Nat), subFind x.st v = some o ∧ imLook ((x.st.map (·.var)).zip x.ps) v = some (.pointer (some ⟨b, k, none⟩)) ∧ w.cell? ⟨b, k, none⟩ = some (.int .i64 o.f) ∧ w.cell? ⟨b, k + 1, none⟩ = some (.slice a o.args.length c) ∧ IsT w o (.agg #[.int .i64 o.f, .slice a o.args.length c]) := by
  rcases subFind_zip (v := v) h.len 0 with ⟨h1, h2⟩ | ⟨i, h1, h2, h3, h4⟩
  · exact .inl ⟨h1, by unfold imLook; rw [h2]; rfl⟩
  · obtain ⟨b, k, a, c, e, _, q1, q2, q3⟩ := h.ptr i h1
    exact .inr ⟨_, b, k, a, c, h2, by unfold imLook; rw [h4, e]; rfl, q1, q2, q3.isT⟩
theorem subFind_none' {st : List Bd} {v : Int} (h : subFind st v = none) : ∀ b ∈ st, b.var ≠ v := by
  intro b hb e
  unfold subFind at h
  rw [Option.map_eq_none_iff, List.find?_eq_none] at h
  exact h b hb (by simpa using e)
/-- A variable is bound. -/
theorem TS.bind {ra : Option Addr} {rc : Nat} {v : Int} {t : T} {p : Value} {es : Array MapEntry} {cl : Nat} (h : TS w0 g mb wt C Ps Ts st0 w x) (hR : RowE eltI w' 0 3 ra rc (x.st.length + 1) (x.st.map (·.var) ++ [v]))
    (hc : Chg (fun b => b = g ∨ b = mb ∨ (Value.slice x.ra x.st.length x.rc).ownBlock = some b) w w') (hB : ∃ cs, Blk w g 64 cs) (hM : ∃ es cl, ObjAt w mb (.map es cl)) (ho : ∀ b, (Value.slice ra (x.st.length + 1) rc).ownBlock = some b → (Value.slice x.ra x.st.length x.rc).ownBlock = some b ∨ w.heap.size ≤ b)
    (hE : ImE es cl ((x.st.map (·.var)).zip x.ps ++ [(v, p)])) (hf : subFind x.st v = none) (ht : InTp Ts w t p) (hv : I64 v) (hz : t.size ≤ 4294967296) :
    TS w0 g mb wt C Ps Ts st0 w' { x with ra := ra, rc := rc, st := x.st ++ [⟨v, t⟩], ps := x.ps ++ [p], es := es, cl := cl } := by
  obtain ⟨cs, hB⟩ := hB
  obtain ⟨es0, cl0, hM⟩ := hM
  have k1 : ∀ b, b < w0.heap.size → (b = g ∨ b = mb ∨ (Value.slice x.ra x.st.length x.rc).ownBlock = some b) → C b := by
    rintro b hb (rfl | rfl | e)
    · exact h.cg.1
    · exact h.cg.2
    · rcases (h.mown b e).1 with q | q
      · exact q
      · have := h.old; omega
  have k2 : ∀ b, Ps b → ¬ (b = g ∨ b = mb ∨ (Value.slice x.ra x.st.length x.rc).ownBlock = some b) := by
    rintro b hb (rfl | rfl | e)
    · exact (h.hP _ hb).2 h.cg.1
    · exact (h.hP _ hb).2 h.cg.2
    · rcases (h.mown b e).1 with q | q
      · exact (h.hP _ hb).2 q
      · have := (h.hP _ hb).1; omega
  have k3 : ∀ b, Ts b → ¬ (b = g ∨ b = mb ∨ (Value.slice x.ra x.st.length x.rc).ownBlock = some b) := by
    rintro b hb (rfl | rfl | e)
    · exact (h.hT _ hb).2.1 rfl
    · exact (h.hT _ hb).2.2 rfl
    · exact (h.mown b e).2 hb
  have k4 : ∀ b, (Value.slice x.ta x.L.length x.tc).ownBlock = some b → ¬ (b = g ∨ b = mb ∨ (Value.slice x.ra x.st.length x.rc).ownBlock = some b) := by
    rintro b hb (rfl | rfl | e)
    · exact h.trow.neBlk hB (by decide) hb
    · exact h.trow.neMap hM hb
    · exact h.mrow.ne h.trow (by decide) b e hb
  have hl := h.len
  have hpre : st0.length ≤ x.st.length := by have := congrArg List.length h.pre; simp at this; omega
  refine { h with
    trow := h.trow.chgOwn (fun _ _ _ _ _ q => q) hc k4
    mrow := by simpa using hR
    mown := fun b e => ?_
    stk := fun i hi => ⟨(h.stk i hi).1.chg hc k2, (h.stk i hi).2.chg hc k3⟩
    ptr := fun i hi => ?_
    ent := by
      dsimp only
      rw [List.map_append, List.zip_append (by simp [hl])]; exact hE
    nd := by
      dsimp only
      rw [List.map_append, List.nodup_append]
      refine ⟨h.nd, by simp, fun a ha b hb e => ?_⟩
      obtain ⟨y, hy, rfl⟩ := List.mem_map.1 ha
      simp at hb
      exact subFind_none' hf y hy (by rw [e, hb])
    len := by simp [hl]
    i64 := fun y hy => ?_
    sz := fun y hy => ?_
    pre := by dsimp only; rw [List.take_append_of_le_length hpre]; exact h.pre
    chg := h.chg.trans2 hc k1
    now := Nat.le_trans h.now hc.size }
  · rcases ho b (by simpa using e) with q | q
    · exact h.mown b q
    · have := h.now
      exact ⟨.inr (by omega), fun hT => by have := (h.hT b hT).1; omega⟩
  · simp only [List.length_append, List.length_singleton] at hi
    rcases Nat.lt_or_ge i x.st.length with hi2 | hi2
    · have e1 : dget (x.st ++ [⟨v, t⟩]) i = dget x.st i := by simp [dget, List.getD_eq_getElem?_getD, List.getElem?_append_left hi2]
      have e2 : (x.ps ++ [p]).getD i undef = x.ps.getD i undef := by simp [List.getD_eq_getElem?_getD, List.getElem?_append_left (show i < x.ps.length by omega)]
      dsimp only
      rw [e1, e2]
      exact (h.ptr i hi2).chg hc k3
    · obtain rfl : i = x.st.length := by omega
      have e1 : dget (x.st ++ [⟨v, t⟩]) x.st.length = ⟨v, t⟩ := by simp [dget, List.getD_eq_getElem?_getD]
      have e2 : (x.ps ++ [p]).getD x.st.length undef = p := by rw [← hl]; simp [List.getD_eq_getElem?_getD]
      dsimp only
      rw [e1, e2]
      exact ht.chg hc k3
  · rcases List.mem_append.1 hy with hy | hy
    · exact h.i64 y hy
    · simp only [List.mem_singleton] at hy; subst hy; exact hv
  · rcases List.mem_append.1 hy with hy | hy
    · exact h.sz y hy
    · simp only [List.mem_singleton] at hy; subst hy; exact hz
/-- The matcher, as it is now. -/
theorem TS.mat (h : TS w0 g mb wt C Ps Ts st0 w x) (hB : Blk w g 64 #[.map (some mb), .slice x.ra x.st.length x.rc]) (hM : ObjAt w mb (.map x.es x.cl)) (hT0 : ∀ b, Ts b → C b ∨ w0.heap.size ≤ b) : MatAt w g x.st (fun b => C b ∨ (w0.heap.size ≤ b ∧ b < w.heap.size)) := by
  have hold := h.old
  have hnow := h.now
  refine ⟨mb, x.es, x.cl, x.ra, x.rc, x.ps, ⟨hB, hM, h.ent, h.nd, h.mrow, h.len, fun i hi => (h.ptr i hi).mono (fun b q hlt => ⟨?_, (h.hT b q).2.1, (h.hT b q).2.2, fun e => (h.mown b e).2 q⟩), h.i64, h.sz, .inl h.cg.1, .inl h.cg.2, fun b e => ?_, fun b q => ?_⟩⟩
  · rcases hT0 b q with q | q
    · exact .inl q
    · exact .inr ⟨q, hlt⟩
  · rcases (h.mown b e).1 with q | q
    · exact .inl q
    · refine .inr ⟨by omega, ?_⟩
      obtain ⟨⟨xs, r1, _⟩, _⟩ := h.mrow
      rcases r1.2 with ⟨e1, _⟩ | ⟨g', cap, cur, e1, _, r3, _⟩
      · rw [e1] at e; cases e
      · rw [e1] at e
        obtain rfl : g' = b := by simpa [Value.ownBlock] using e
        exact (Array.getElem?_eq_some_iff.1 r3).1
  · rcases q with q | q
    · have := h.hC b q; omega
    · exact q.2
end
/-- A row of one, as its block is. -/
theorem rowE_one {α : Type} {E : Elt α} {w : World} {g e : Nat} {y : α} {cs : List Value} (hB : Blk w g e cs.toArray) (hin : E.In (fun b => 0 ≤ b ∧ (Value.slice (some ⟨g, 0, none⟩) 1 1).ownBlock ≠ some b) w y cs) : RowE E w 0 e (some ⟨g, 0, none⟩) 1 1 [y] := by
  refine ⟨⟨cs, ⟨by rw [E.len hin]; omega, .inr ⟨g, 1, cs.toArray, rfl, Nat.zero_le _, hB, Nat.le_refl _, by unfold maxLen; omega, by rw [List.size_toArray, E.len hin]; omega, by rw [List.toList_toArray, List.take_of_length_le (by rw [E.len hin]; omega)]⟩⟩, ⟨cs, [], by simp, hin, rfl⟩⟩, rfl⟩

theorem InTp.at {S : Nat → Prop} {w : World} {t : T} {b o : Nat} (h : InTp S w t (.pointer (some ⟨b, o, none⟩))) : ∃ (a : Option Addr) (c : Nat), w.cell? ⟨b, o, none⟩ = some (.int .i64 t.f) ∧ w.cell? ⟨b, o + 1, none⟩ = some (.slice a t.args.length c) ∧ InT S w t (.agg #[.int .i64 t.f, .slice a t.args.length c]) := by
  obtain ⟨b', o', a, c, e, _, h1, h2, h3⟩ := h
  simp only [Value.pointer.injEq, Option.some.injEq, Addr.mk.injEq, and_true] at e
  obtain ⟨rfl, rfl⟩ := e
  exact ⟨a, c, h1, h2, h3⟩
/-- The walk's state at its start. -/
theorem TS.start {w wc wj wk : World} {g mb g4 g8 g9 : Nat} {st : List Bd} {C A : Nat → Prop} {es : Array MapEntry} {cl : Nat} {a : Option Addr} {c : Nat} {ps : List Value} {p t : T} {pa a8 : Option Addr} {pc c8 : Nat}
    (hM : MatIn w g st C mb es cl a c ps) (hp : InT A w p (.agg #[.int .i64 p.f, .slice pa p.args.length pc])) (hA : ∀ b, A b → ¬ C b) (hb : Below w.heap.size w wk) (hB4 : Blk wk g4 24 #[.int .i64 p.f, .slice pa p.args.length pc]) (h4 : w.heap.size ≤ g4) (h49 : g4 < g9)
    (hcj : w.heap.size ≤ wc.heap.size) (h8 : wc.heap.size ≤ g8) (h89 : g8 < g9) (hB8 : Blk wk g8 24 #[.int .i64 t.f, .slice a8 t.args.length c8]) (hN : NewT wc wj t (.agg #[.int .i64 t.f, .slice a8 t.args.length c8])) (hj : wj.heap.size ≤ g9) (hjk : Below wj.heap.size wj wk)
    (hB9 : Blk wk g9 69 #[.pointer (some ⟨g4, 0, none⟩), .pointer (some ⟨g8, 0, none⟩)]) (hz1 : p.size ≤ 4294967296) (hz2 : t.size ≤ 4294967296) :
    ∃ Ps Ts : Nat → Prop, (∀ b, Ts b → C b ∨ w.heap.size ≤ b) ∧ TS w g mb g9 C Ps Ts st wk ⟨some ⟨g9, 0, none⟩, 1, [(⟨g4, 0, none⟩, ⟨g8, 0, none⟩)], [(p, t)], a, c, st, ps, es, cl⟩ := by
  have hgl := hM.blk.lt
  have hml := hM.map.lt
  have hkl := hB9.lt
  refine ⟨fun b => (A b ∧ b < w.heap.size) ∨ b = g4, fun b => (C b ∧ b ≠ g ∧ b ≠ mb ∧ (Value.slice a st.length c).ownBlock ≠ some b) ∨ (wc.heap.size ≤ b ∧ b < g9), ?_, ?_⟩
  · rintro b (q | q)
    · exact .inl q.1
    · exact .inr (by omega)
  have hown : ∀ b, (Value.slice a st.length c).ownBlock = some b → b < w.heap.size := fun b e => hM.clt b (hM.crow b e)
  exact {
    trow := rowE_one (cs := [.pointer (some ⟨g4, 0, none⟩), .pointer (some ⟨g8, 0, none⟩)]) hB9 rfl
    tnew := fun b e => by have : g9 = b := by simpa [Value.ownBlock] using e
                          omega
    mrow := hM.row.chgOwn (S := fun _ => False) (fun _ _ _ _ _ q => q) (.ofBelow hb) (fun _ _ => id)
    mown := fun b e => ⟨.inl (hM.crow b e), by
      rintro (q | q)
      · exact q.2.2.2 e
      · have := hown b e; omega⟩
    stk := fun i hi => by
      obtain rfl : i = 0 := by simp at hi; exact hi
      exact ⟨InTp.box hB4 (.inr rfl) ((hp.mono (fun b q hlt => .inl ⟨q, hlt⟩)).below hb), InTp.box hB8 (.inr ⟨h8, h89⟩) ((hN.mono (fun b q hlt => .inr ⟨q, by omega⟩)).below hjk)⟩
    ptr := fun i hi => ((hM.ptr i hi).mono (fun b q _ => .inl q)).below hb
    ent := hM.ent
    nd := hM.nd
    len := hM.len
    i64 := hM.i64
    sz := hM.sz
    psz := fun q hq => by simp only [List.mem_singleton] at hq; subst hq; exact ⟨hz1, hz2⟩
    pre := List.take_of_length_le (Nat.le_refl _)
    chg := .ofBelow hb
    old := by omega
    now := by omega
    hP := by
      rintro b (q | rfl)
      · exact ⟨by omega, hA b q.1⟩
      · exact ⟨h49, fun e => by have := hM.clt _ e; omega⟩
    hT := by
      rintro b (q | q)
      · exact ⟨by have := hM.clt b q.1; omega, q.2.1, q.2.2.1⟩
      · exact ⟨q.2, by omega, by omega⟩
    cg := ⟨hM.cg, hM.cmb⟩
    hC := hM.clt }
theorem zip_drop {l ts : List T} {k : Nat} (h : k < l.length) (h2 : l.length = ts.length) : (l.zip ts).drop k = (tget l k, tget ts k) :: (l.zip ts).drop (k + 1) := by
  rw [List.drop_eq_getElem_cons (by simp; omega), List.getElem_zip, tget_lt h, tget_lt (by omega)]
theorem ssz_reverse : ∀ l : List (T × T), ssz l.reverse = ssz l
  | [] => rfl
  | q :: l => by rw [List.reverse_cons, ssz_append, ssz_reverse l, ssz, ssz, ssz]; omega
theorem len_le_ssz : ∀ l : List (T × T), l.length ≤ ssz l
  | [] => Nat.le_refl _
  | q :: l => by
    have := len_le_ssz l
    have h1 : 1 ≤ q.1.size := by rw [T.size_eq]; omega
    rw [List.length_cons, ssz]; omega
/-- Whether it matches; what is bound then. -/
def mOk (p t : T) (st : List Bd) : Bool := p.plain && t.plain && (p.mt st t).isSome
def mTo (p t : T) (st : List Bd) : List Bd := if (p.plain && t.plain) = true then (p.mt st t).getD st else st
theorem fin_ok {p t : T} {st s : List Bd} (h1 : p.plain = true) (h2 : t.plain = true) (h : p.mt st t = some s) : mOk p t st = true ∧ mTo p t st = s := by
  unfold mOk mTo; rw [h1, h2, h]; exact ⟨rfl, rfl⟩
theorem fin_no {p t : T} {st : List Bd} (h1 : p.plain = true) (h2 : t.plain = true) (h : p.mt st t = none) : mOk p t st = false ∧ mTo p t st = st := by
  unfold mOk mTo; rw [h1, h2, h]; exact ⟨rfl, rfl⟩
theorem fin_np {p t : T} {st : List Bd} (h : ¬ (p.plain = true ∧ t.plain = true)) : mOk p t st = false ∧ mTo p t st = st := by
  unfold mOk mTo
  have : (p.plain && t.plain) = false := by rw [Bool.eq_false_iff]; intro e; rw [Bool.and_eq_true] at e; exact h e
  rw [this]; exact ⟨rfl, rfl⟩
theorem ans_new {st0 : Option (List Bd)} {st : List Bd} {X L : List (T × T)} {f : Int} {l : List T} {t : T} (h : st0 = mts st X.reverse) (hX : X = L ++ [(.mk f l, t)]) (hf : f < 0) (hs : subFind st (-1 - f) = none) : st0 = mts (st ++ [⟨-1 - f, t⟩]) L.reverse := by
  rw [h, hX, List.reverse_append, List.reverse_singleton, List.singleton_append, mts]
  dsimp only
  rw [mt_new hf hs]
theorem ans_old {st0 : Option (List Bd)} {st : List Bd} {X L : List (T × T)} {f : Int} {l : List T} {t o : T} (h : st0 = mts st X.reverse) (hX : X = L ++ [(.mk f l, t)]) (hf : f < 0) (hs : subFind st (-1 - f) = some o) (he : T.same o t = true) : st0 = mts st L.reverse := by
  rw [h, hX, List.reverse_append, List.reverse_singleton, List.singleton_append, mts]
  dsimp only
  rw [mt_old hf hs, if_pos he]
theorem ans_bad {st0 : Option (List Bd)} {st : List Bd} {X L : List (T × T)} {f : Int} {l : List T} {t o : T} (h : st0 = mts st X.reverse) (hX : X = L ++ [(.mk f l, t)]) (hf : f < 0) (hs : subFind st (-1 - f) = some o) (he : ¬ T.same o t = true) : st0 = none := by
  rw [h, hX, List.reverse_append, List.reverse_singleton, List.singleton_append, mts]
  dsimp only
  rw [mt_old hf hs, if_neg he]
theorem ans_off {st0 : Option (List Bd)} {st : List Bd} {X L : List (T × T)} {f : Int} {l : List T} {t : T} (h : st0 = mts st X.reverse) (hX : X = L ++ [(.mk f l, t)]) (hf : ¬ f < 0) (he : ¬ (f = t.f ∧ l.length = t.args.length)) : st0 = none := by
  rw [h, hX, List.reverse_append, List.reverse_singleton, List.singleton_append, mts]
  dsimp only
  rw [mt_off hf he]
theorem ans_sym {st0 : Option (List Bd)} {st : List Bd} {X L Y : List (T × T)} {f : Int} {l : List T} {t : T} (h : st0 = mts st X.reverse) (hX : X = L ++ [(.mk f l, t)]) (hf : ¬ f < 0) (he : f = t.f ∧ l.length = t.args.length) (hY : Y.reverse = (l.zip t.args).drop 0 ++ L.reverse) : st0 = mts st Y.reverse := by
  rw [h, hX, List.reverse_append, List.reverse_singleton, List.singleton_append, mts]
  dsimp only
  rw [mt_sym hf he.1 he.2, hY, List.drop_zero, mts_append]
theorem ssz_top {X L : List (T × T)} {f : Int} {l : List T} {t : T} (hX : X = L ++ [(.mk f l, t)]) : ssz X = ssz L + 1 + T.sizeL l := by
  rw [hX, ssz_append, ssz, ssz, T.size]; (try dsimp only); omega
theorem ssz_sym {L Y : List (T × T)} {l ts : List T} (hY : Y.reverse = (l.zip ts).drop 0 ++ L.reverse) : ssz Y ≤ ssz L + T.sizeL l := by
  rw [← ssz_reverse Y, hY, ssz_append, ssz_reverse, List.drop_zero]
  have := ssz_zip l ts; omega

end Go.Proofs.Ytcmfjnadjddboaa
