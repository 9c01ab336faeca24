/- Regions in whatever order in which a row grows by append and is then given to a variable ('l = append(l, f(..))'). -/
import Derived.Test.YtcmfjnadjddboaaMNe
import Derived.Test.YtcmfjnadjddboaaMNa
import Derived.Scope

/- Matching: what a pattern makes of what is bound, in plain Lean; the walk's state. -/
namespace Go.Proofs.Ytcmfjnadjddboaa
open Go.RowKit Go
set_option linter.unusedVariables false
set_option linter.unusedSimpArgs false

mutual
def T.mt : T → List Bd → T → Option (List Bd)
  | .mk f l, st, t =>
    if f < 0 then (match subFind st (-1 - f) with | none => some (st ++ [⟨-1 - f, t⟩]) | some o => if T.same o t = true then some st else none)
    else if f = t.f ∧ l.length = t.args.length then T.mtL l st t.args else none
def T.mtL : List T → List Bd → List T → Option (List Bd)
  | [], st, _ => some st
  | _ :: _, st, [] => some st
  | p :: ps, st, t :: ts => match T.mt p st t with | none => none | some s => T.mtL ps s ts
end
def mts : List Bd → List (T × T) → Option (List Bd)
  | st, [] => some st
  | st, q :: r => match q.1.mt st q.2 with | none => none | some s => mts s r
theorem mts_append : ∀ (a b : List (T × T)) (st : List Bd), mts st (a ++ b) = match mts st a with | none => none | some s => mts s b
  | [], b, st => rfl
  | q :: a, b, st => by
    rw [List.cons_append, mts, mts]
    cases q.1.mt st q.2 with
    | none => rfl
    | some s => exact mts_append a b s
theorem mtL_mts : ∀ (ps ts : List T) (st : List Bd), ps.length = ts.length → T.mtL ps st ts = mts st (ps.zip ts)
  | [], _, st, _ => by rw [T.mtL]; rfl
  | p :: ps, [], st, h => by cases h
  | p :: ps, t :: ts, st, h => by
    rw [T.mtL, List.zip_cons_cons, mts]
    cases T.mt p st t with
    | none => rfl
    | some s => exact mtL_mts ps ts s (by simpa using h)
theorem mt_new {f : Int} {l : List T} {st : List Bd} {t : T} (hf : f < 0) (h : subFind st (-1 - f) = none) : (T.mk f l).mt st t = some (st ++ [⟨-1 - f, t⟩]) := by
  rw [T.mt, if_pos hf, h]
theorem mt_old {f : Int} {l : List T} {st : List Bd} {t o : T} (hf : f < 0) (h : subFind st (-1 - f) = some o) : (T.mk f l).mt st t = if T.same o t = true then some st else none := by
  rw [T.mt, if_pos hf, h]
theorem mt_sym {f : Int} {l : List T} {st : List Bd} {t : T} (hf : ¬ f < 0) (h1 : f = t.f) (h2 : l.length = t.args.length) : (T.mk f l).mt st t = mts st (l.zip t.args) := by
  rw [T.mt, if_neg hf, if_pos ⟨h1, h2⟩, mtL_mts _ _ _ h2]
theorem mt_off {f : Int} {l : List T} {st : List Bd} {t : T} (hf : ¬ f < 0) (h : ¬ (f = t.f ∧ l.length = t.args.length)) : (T.mk f l).mt st t = none := by
  rw [T.mt, if_neg hf, if_neg h]
theorem mts_one (p t : T) (st : List Bd) : mts st [(p, t)] = p.mt st t := by
  rw [mts]; cases p.mt st t <;> rfl
def ssz : List (T × T) → Nat
  | [] => 0
  | q :: r => q.1.size + ssz r
theorem ssz_append : ∀ (a b : List (T × T)), ssz (a ++ b) = ssz a + ssz b
  | [], b => by simp [ssz]
  | q :: a, b => by rw [List.cons_append, ssz, ssz, ssz_append a b]; omega
theorem ssz_zip : ∀ (ps ts : List T), ssz (ps.zip ts) ≤ T.sizeL ps
  | [], _ => by simp [ssz]
  | _ :: _, [] => by simp [ssz]
  | p :: ps, t :: ts => by rw [List.zip_cons_cons, ssz, T.sizeL]; have := ssz_zip ps ts; dsimp only; omega

/-- The walk's state: the steps that are to be done, the row of variables, what is bound, where it lies, the map. -/
structure MX where
  ta : Option Addr
  tc : Nat
  R : List (Addr × Addr)
  L : List (T × T)
  ra : Option Addr
  rc : Nat
  st : List Bd
  ps : List Value
  es : Array MapEntry
  cl : Nat
def zget (l : List (T × T)) (i : Nat) : T × T := l.getD i (.mk 0 [], .mk 0 [])
def aget (l : List (Addr × Addr)) (i : Nat) : Addr × Addr := l.getD i (⟨0, 0, none⟩, ⟨0, 0, none⟩)
structure TS (w0 : World) (g mb wt : Nat) (C Ps Ts : Nat → Prop) (st0 : List Bd) (w : World) (x : MX) : Prop where
  trow : RowE eltV2 w 0 69 x.ta x.tc x.L.length x.R
  tnew : ∀ b, (Value.slice x.ta x.L.length x.tc).ownBlock = some b → wt ≤ b
  mrow : RowE eltI w 0 3 x.ra x.rc x.st.length (x.st.map (·.var))
  mown : ∀ b, (Value.slice x.ra x.st.length x.rc).ownBlock = some b → (C b ∨ wt ≤ b) ∧ ¬ Ts b
  stk : ∀ i, i < x.L.length → InTp Ps w (zget x.L i).1 (.pointer (some (aget x.R i).1)) ∧ InTp Ts w (zget x.L i).2 (.pointer (some (aget x.R i).2))
  ptr : ∀ i, i < x.st.length → InTp Ts w (dget x.st i).t (x.ps.getD i undef)
  ent : ImE x.es x.cl ((x.st.map (·.var)).zip x.ps)
  nd : (x.st.map (·.var)).Nodup
  len : x.ps.length = x.st.length
  i64 : ∀ y ∈ x.st, I64 y.var
  sz : ∀ y ∈ x.st, y.t.size ≤ 4294967296
  psz : ∀ q ∈ x.L, q.1.size ≤ 4294967296 ∧ q.2.size ≤ 4294967296
  pre : x.st.take st0.length = st0
  chg : Chg C w0 w
  old : w0.heap.size ≤ wt
  now : wt ≤ w.heap.size
  hP : ∀ b, Ps b → b < wt ∧ ¬ C b
  hT : ∀ b, Ts b → b < wt ∧ b ≠ g ∧ b ≠ mb
  cg : C g ∧ C mb
  hC : ∀ b, C b → b < w0.heap.size
section
variable {w0 w w' : World} {g mb wt : Nat} {C Ps Ts S : Nat → Prop} {st0 : List Bd} {x : MX}
theorem TS.keep (h : TS w0 g mb wt C Ps Ts st0 w x) (hc : Chg S w w') (h0 : ∀ b, b < w0.heap.size → S b → C b) (h1 : ∀ b, Ps b → ¬ S b) (h2 : ∀ b, Ts b → ¬ S b) (h3 : ∀ b, (Value.slice x.ta x.L.length x.tc).ownBlock = some b → ¬ S b) (h4 : ∀ b, (Value.slice x.ra x.st.length x.rc).ownBlock = some b → ¬ S b) : TS w0 g mb wt C Ps Ts st0 w' x :=
  { h with
    trow := h.trow.chgOwn (fun _ _ _ _ _ q => q) hc h3
    mrow := h.mrow.chgOwn (fun _ _ _ _ _ q => q) hc h4
    stk := fun i hi => ⟨(h.stk i hi).1.chg hc h1, (h.stk i hi).2.chg hc h2⟩
    ptr := fun i hi => (h.ptr i hi).chg hc h2
    chg := h.chg.trans2 hc h0
    now := Nat.le_trans h.now hc.size }
theorem TS.below (h : TS w0 g mb wt C Ps Ts st0 w x) (hb : Below w.heap.size w w') : TS w0 g mb wt C Ps Ts st0 w' x := h.keep (S := fun _ => False) (.ofBelow hb) (fun _ _ q => q.elim) (fun _ _ => id) (fun _ _ => id) (fun _ _ => id) (fun _ _ => id)
/-- One step more. -/
theorem TS.push {ra : Option Addr} {rc : Nat} {r : Addr × Addr} {q : T × T} (h : TS w0 g mb wt C Ps Ts st0 w x) (hR : RowE eltV2 w' 0 69 ra rc (x.L.length + 1) (x.R ++ [r])) (hc : Chg (fun b => (Value.slice x.ta x.L.length x.tc).ownBlock = some b) w w')
    (ho : ∀ b, (Value.slice ra (x.L.length + 1) rc).ownBlock = some b → (Value.slice x.ta x.L.length x.tc).ownBlock = some b ∨ wt ≤ b) (h1 : InTp Ps w q.1 (.pointer (some r.1))) (h2 : InTp Ts w q.2 (.pointer (some r.2))) (hz : q.1.size ≤ 4294967296 ∧ q.2.size ≤ 4294967296) :
    TS w0 g mb wt C Ps Ts st0 w' { x with ta := ra, tc := rc, R := x.R ++ [r], L := x.L ++ [q] } := by
  have hS0 : ∀ b, (Value.slice x.ta x.L.length x.tc).ownBlock = some b → wt ≤ b := h.tnew
  have hlen : x.L.length = x.R.length := h.trow.len
  have hPs : ∀ b, Ps b → ¬ (Value.slice x.ta x.L.length x.tc).ownBlock = some b := fun b q e => by have := (h.hP b q).1; have := hS0 b e; omega
  have hTs : ∀ b, Ts b → ¬ (Value.slice x.ta x.L.length x.tc).ownBlock = some b := fun b q e => by have := (h.hT b q).1; have := hS0 b e; omega
  have hne := h.mrow.ne h.trow (by decide)
  refine { h with
    trow := by simpa using hR
    tnew := fun b e => (ho b (by simpa using e)).elim (hS0 b) id
    mrow := h.mrow.chgOwn (fun _ _ _ _ _ q => q) hc hne
    stk := fun i hi => ?_
    ptr := fun i hi => (h.ptr i hi).chg hc hTs
    psz := fun y hy => ?_
    chg := h.chg.trans2 hc (fun b hb e => by have := hS0 b e; have := h.old; omega)
    now := Nat.le_trans h.now hc.size }
  · simp only [List.length_append, List.length_singleton] at hi
    rcases Nat.lt_or_ge i x.L.length with hi2 | hi2
    · have e1 : zget (x.L ++ [q]) i = zget x.L i := by simp [zget, List.getD_eq_getElem?_getD, List.getElem?_append_left hi2]
      have e2 : aget (x.R ++ [r]) i = aget x.R i := by simp [aget, List.getD_eq_getElem?_getD, List.getElem?_append_left (show i < x.R.length by omega)]
      dsimp only
      rw [e1, e2]
      exact ⟨(h.stk i hi2).1.chg hc hPs, (h.stk i hi2).2.chg hc hTs⟩
    · obtain rfl : i = x.L.length := by omega
      have e1 : zget (x.L ++ [q]) x.L.length = q := by simp [zget, List.getD_eq_getElem?_getD]
      have e2 : aget (x.R ++ [r]) x.L.length = r := by rw [hlen]; simp [aget, List.getD_eq_getElem?_getD]
      dsimp only
      rw [e1, e2]
      exact ⟨h1.chg hc hPs, h2.chg hc hTs⟩
  · rcases List.mem_append.1 hy with hy | hy
    · exact h.psz y hy
    · simp only [List.mem_singleton] at hy; subst hy; exact hz
theorem own_len {a : Option Addr} {n m c d : Nat} : (Value.slice a n c).ownBlock = (Value.slice a m d).ownBlock := by cases a <;> rfl
theorem InRow.openV {S : Nat → Prop} {w : World} {l : List (Addr × Addr)} {a : Option Addr} {k : Nat} (h : InRow eltV2 S w l a) (hk : k < l.length) : ∃ b o : Nat, a = some ⟨b, o, none⟩ ∧ w.cell? ⟨b, o + k * 2, none⟩ = some (.pointer (some (aget l k).1)) ∧ w.cell? ⟨b, o + k * 2 + 1, none⟩ = some (.pointer (some (aget l k).2)) := by
  obtain ⟨b, o, cs, ha, _, h1, h2⟩ := h k hk
  have h1' : cs = [.pointer (some l[k].1), .pointer (some l[k].2)] := h1
  subst h1'
  have e : aget l k = l[k] := by simp [aget, hk]
  rw [e]
  exact ⟨b, o, ha, h2 0 (by decide), h2 1 (by decide)⟩
/-- The step that is to be done next. -/
theorem TS.top (h : TS w0 g mb wt C Ps Ts st0 w x) (hn : 0 < x.L.length) : ∃ (f : Int) (l : List T) (t : T) (L : List (T × T)) (R : List (Addr × Addr)) (tb to pb po qb qo : Nat) (pa qa : Option Addr) (pc qc : Nat),
    x.L = L ++ [(.mk f l, t)] ∧ x.L.length = L.length + 1 ∧ x.ta = some ⟨tb, to, none⟩ ∧ w.cell? ⟨tb, to + L.length * 2, none⟩ = some (.pointer (some ⟨pb, po, none⟩)) ∧ w.cell? ⟨tb, to + L.length * 2 + 1, none⟩ = some (.pointer (some ⟨qb, qo, none⟩)) ∧
    w.cell? ⟨pb, po, none⟩ = some (.int .i64 f) ∧ w.cell? ⟨pb, po + 1, none⟩ = some (.slice pa l.length pc) ∧ InT Ps w (.mk f l) (.agg #[.int .i64 f, .slice pa l.length pc]) ∧
    w.cell? ⟨qb, qo, none⟩ = some (.int .i64 t.f) ∧ w.cell? ⟨qb, qo + 1, none⟩ = some (.slice qa t.args.length qc) ∧ InT Ts w t (.agg #[.int .i64 t.f, .slice qa t.args.length qc]) ∧ InTp Ts w t (.pointer (some ⟨qb, qo, none⟩)) ∧ InTp Ps w (.mk f l) (.pointer (some ⟨pb, po, none⟩)) ∧
    x.L.length ≤ x.tc ∧ x.tc ≤ maxLen ∧ (T.mk f l).size ≤ 4294967296 ∧ t.size ≤ 4294967296 ∧ TS w0 g mb wt C Ps Ts st0 w { x with L := L, R := R } := by
  have hlen : x.L.length = x.R.length := h.trow.len
  obtain ⟨k, hk⟩ : ∃ k, x.L.length = k + 1 := ⟨x.L.length - 1, by omega⟩
  have hkl : k < x.L.length := by omega
  obtain ⟨hr1, hr2, hr3, hr4⟩ := h.trow.inRow
  obtain ⟨tb, to, e1, c1, c2⟩ := InRow.openV (k := k) hr1 (by omega)
  obtain ⟨s1, s2⟩ := h.stk k hkl
  have s2' := s2
  have s1' := s1
  obtain ⟨pb, po, pa, pc, f1, _, p1, p2, p3⟩ := s1
  obtain ⟨qb, qo, qa, qc, f2, _, q1, q2, q3⟩ := s2
  rw [f1] at c1 s1'
  rw [f2] at c2 s2'
  have hz : zget x.L k = x.L[k] := by simp [zget, hkl]
  have hmem : x.L[k] ∈ x.L := List.getElem_mem hkl
  have hL : x.L = x.L.take k ++ [x.L[k]] := by rw [← List.take_succ_eq_append_getElem hkl, List.take_of_length_le (by omega)]
  have hsz := h.psz _ hmem
  rw [hz] at p1 p2 p3 q1 q2 q3 s2' s1'
  generalize hq : x.L[k] = q at *
  obtain ⟨⟨f, l⟩, t⟩ := q
  have hll : (x.L.take k).length = k := by rw [List.length_take]; omega
  refine ⟨f, l, t, x.L.take k, x.R.take k, tb, to, pb, po, qb, qo, pa, qa, pc, qc, hL, by rw [hll]; omega, e1, by rw [hll]; exact c1, by rw [hll]; exact c2, p1, p2, p3, q1, q2, q3, s2', s1', hr3, hr4, hsz.1, hsz.2, ?_⟩
  exact { h with
    trow := by
      dsimp only
      rw [hll]; exact h.trow.take k (by omega) (fun _ _ _ _ q _ => q)
    tnew := fun b e => h.tnew b (own_len.trans e)
    stk := fun i hi => by
      dsimp only at hi ⊢
      rw [hll] at hi
      have e1 : zget (x.L.take k) i = zget x.L i := by simp [zget, List.getD_eq_getElem?_getD, List.getElem?_take, hi]
      have e2 : aget (x.R.take k) i = aget x.R i := by simp [aget, List.getD_eq_getElem?_getD, List.getElem?_take, hi]
      rw [e1, e2]; exact h.stk i (by omega)
    psz := fun y hy => h.psz y (List.mem_of_mem_take hy) }
theorem subFind_zip {v : Int} : ∀ {st : List Bd} {ps : List Value}, ps.length = st.length → ∀ j, (subFind st v = none ∧ imFind ((st.map (·.var)).zip ps) v j = none) ∨ ∃ i, i < st.length ∧ subFind st v = some (dget st i).t ∧ (dget st i).var = v ∧ imFind ((st.map (·.var)).zip ps) v j = some (j + i, ps.getD i undef)
  | [], [], _, j => .inl ⟨rfl, rfl⟩
  | b :: st, p :: ps, h, j => by
    by_cases hb : b.var = v
    · right
      refine ⟨0, by simp, by simp [subFind, hb, dget], by simp [dget, hb], ?_⟩
      simp [imFind, hb]
    · have e : subFind (b :: st) v = subFind st v := by simp [subFind, hb]
      have e2 : imFind (((b :: st).map (·.var)).zip (p :: ps)) v j = imFind ((st.map (·.var)).zip ps) v (j + 1) := by
        rw [List.map_cons, List.zip_cons_cons, imFind, if_neg (fun q => hb q.symm)]
      rw [e, e2]
      rcases subFind_zip (v := v) (st := st) (ps := ps) (by simpa using h) (j + 1) with q | ⟨i, h1, h2, h3, h4⟩
      · exact .inl q
      · exact .inr ⟨i + 1, by simpa using h1, by simpa [dget] using h2, by simpa [dget] using h3, by rw [h4]; simp; omega⟩
/-- What a variable is bound to. -/
theorem TS.look (h : TS w0 g mb wt C Ps Ts st0 w x) (v : Int) : (subFind x.st v = none ∧ imLook ((x.st.map (·.var)).zip x.ps) v = none) ∨
    ∃ (o : T) (b k : Nat) (a : Option Addr) (c : Nat), subFind x.st v = some o ∧ imLook ((x.st.map (·.var)).zip x.ps) v = some (.pointer (some ⟨b, k, none⟩)) ∧ w.cell? ⟨b, k, none⟩ = some (.int .i64 o.f) ∧ w.cell? ⟨b, k + 1, none⟩ = some (.slice a o.args.length c) ∧ IsT w o (.agg #[.int .i64 o.f, .slice a o.args.length c]) := by
  rcases subFind_zip (v := v) h.len 0 with ⟨h1, h2⟩ | ⟨i, h1, h2, h3, h4⟩
  · exact .inl ⟨h1, by unfold imLook; rw [h2]; rfl⟩
  · obtain ⟨b, k, a, c, e, _, q1, q2, q3⟩ := h.ptr i h1
    exact .inr ⟨_, b, k, a, c, h2, by unfold imLook; rw [h4, e]; rfl, q1, q2, q3.isT⟩
theorem subFind_none' {st : List Bd} {v : Int} (h : subFind st v = none) : ∀ b ∈ st, b.var ≠ v := by
  intro b hb e
  unfold subFind at h
  rw [Option.map_eq_none_iff, List.find?_eq_none] at h
  exact h b hb (by simpa using e)
/-- A variable is bound. -/
theorem TS.bind {ra : Option Addr} {rc : Nat} {v : Int} {t : T} {p : Value} {es : Array MapEntry} {cl : Nat} (h : TS w0 g mb wt C Ps Ts st0 w x) (hR : RowE eltI w' 0 3 ra rc (x.st.length + 1) (x.st.map (·.var) ++ [v]))
    (hc : Chg (fun b => b = g ∨ b = mb ∨ (Value.slice x.ra x.st.length x.rc).ownBlock = some b) w w') (hB : ∃ cs, Blk w g 64 cs) (hM : ∃ es cl, ObjAt w mb (.map es cl)) (ho : ∀ b, (Value.slice ra (x.st.length + 1) rc).ownBlock = some b → (Value.slice x.ra x.st.length x.rc).ownBlock = some b ∨ w.heap.size ≤ b)
    (hE : ImE es cl ((x.st.map (·.var)).zip x.ps ++ [(v, p)])) (hf : subFind x.st v = none) (ht : InTp Ts w t p) (hv : I64 v) (hz : t.size ≤ 4294967296) :
    TS w0 g mb wt C Ps Ts st0 w' { x with ra := ra, rc := rc, st := x.st ++ [⟨v, t⟩], ps := x.ps ++ [p], es := es, cl := cl } := by
  obtain ⟨cs, hB⟩ := hB
  obtain ⟨es0, cl0, hM⟩ := hM
  have k1 : ∀ b, b < w0.heap.size → (b = g ∨ b = mb ∨ (Value.slice x.ra x.st.length x.rc).ownBlock = some b) → C b := by
    rintro b hb (rfl | rfl | e)
    · exact h.cg.1
    · exact h.cg.2
    · rcases (h.mown b e).1 with q | q
      · exact q
      · have := h.old; omega
  have k2 : ∀ b, Ps b → ¬ (b = g ∨ b = mb ∨ (Value.slice x.ra x.st.length x.rc).ownBlock = some b) := by
    rintro b hb (rfl | rfl | e)
    · exact (h.hP _ hb).2 h.cg.1
    · exact (h.hP _ hb).2 h.cg.2
    · rcases (h.mown b e).1 with q | q
      · exact (h.hP _ hb).2 q
      · have := (h.hP _ hb).1; omega
  have k3 : ∀ b, Ts b → ¬ (b = g ∨ b = mb ∨ (Value.slice x.ra x.st.length x.rc).ownBlock = some b) := by
    rintro b hb (rfl | rfl | e)
    · exact (h.hT _ hb).2.1 rfl
    · exact (h.hT _ hb).2.2 rfl
    · exact (h.mown b e).2 hb
  have k4 : ∀ b, (Value.slice x.ta x.L.length x.tc).ownBlock = some b → ¬ (b = g ∨ b = mb ∨ (Value.slice x.ra x.st.length x.rc).ownBlock = some b) := by
    rintro b hb (rfl | rfl | e)
    · exact h.trow.neBlk hB (by decide) hb
    · exact h.trow.neMap hM hb
    · exact h.mrow.ne h.trow (by decide) b e hb
  have hl := h.len
  have hpre : st0.length ≤ x.st.length := by have := congrArg List.length h.pre; simp at this; omega
  refine { h with
    trow := h.trow.chgOwn (fun _ _ _ _ _ q => q) hc k4
    mrow := by simpa using hR
    mown := fun b e => ?_
    stk := fun i hi => ⟨(h.stk i hi).1.chg hc k2, (h.stk i hi).2.chg hc k3⟩
    ptr := fun i hi => ?_
    ent := by
      dsimp only
      rw [List.map_append, List.zip_append (by simp [hl])]; exact hE
    nd := by
      dsimp only
      rw [List.map_append, List.nodup_append]
      refine ⟨h.nd, by simp, fun a ha b hb e => ?_⟩
      obtain ⟨y, hy, rfl⟩ := List.mem_map.1 ha
      simp at hb
      exact subFind_none' hf y hy (by rw [e, hb])
    len := by simp [hl]
    i64 := fun y hy => ?_
    sz := fun y hy => ?_
    pre := by dsimp only; rw [List.take_append_of_le_length hpre]; exact h.pre
    chg := h.chg.trans2 hc k1
    now := Nat.le_trans h.now hc.size }
  · rcases ho b (by simpa using e) with q | q
    · exact h.mown b q
    · have := h.now
      exact ⟨.inr (by omega), fun hT => by have := (h.hT b hT).1; omega⟩
  · simp only [List.length_append, List.length_singleton] at hi
    rcases Nat.lt_or_ge i x.st.length with hi2 | hi2
    · have e1 : dget (x.st ++ [⟨v, t⟩]) i = dget x.st i := by simp [dget, List.getD_eq_getElem?_getD, List.getElem?_append_left hi2]
      have e2 : (x.ps ++ [p]).getD i undef = x.ps.getD i undef := by simp [List.getD_eq_getElem?_getD, List.getElem?_append_left (show i < x.ps.length by omega)]
      dsimp only
      rw [e1, e2]
      exact (h.ptr i hi2).chg hc k3
    · obtain rfl : i = x.st.length := by omega
      have e1 : dget (x.st ++ [⟨v, t⟩]) x.st.length = ⟨v, t⟩ := by simp [dget, List.getD_eq_getElem?_getD]
      have e2 : (x.ps ++ [p]).getD x.st.length undef = p := by rw [← hl]; simp [List.getD_eq_getElem?_getD]
      dsimp only
      rw [e1, e2]
      exact ht.chg hc k3
  · rcases List.mem_append.1 hy with hy | hy
    · exact h.i64 y hy
    · simp only [List.mem_singleton] at hy; subst hy; exact hv
  · rcases List.mem_append.1 hy with hy | hy
    · exact h.sz y hy
    · simp only [List.mem_singleton] at hy; subst hy; exact hz
/-- The matcher, as it is now. -/
theorem TS.mat (h : TS w0 g mb wt C Ps Ts st0 w x) (hB : Blk w g 64 #[.map (some mb), .slice x.ra x.st.length x.rc]) (hM : ObjAt w mb (.map x.es x.cl)) (hT0 : ∀ b, Ts b → C b ∨ w0.heap.size ≤ b) : MatAt w g x.st (fun b => C b ∨ (w0.heap.size ≤ b ∧ b < w.heap.size)) := by
  have hold := h.old
  have hnow := h.now
  refine ⟨mb, x.es, x.cl, x.ra, x.rc, x.ps, ⟨hB, hM, h.ent, h.nd, h.mrow, h.len, fun i hi => (h.ptr i hi).mono (fun b q hlt => ⟨?_, (h.hT b q).2.1, (h.hT b q).2.2, fun e => (h.mown b e).2 q⟩), h.i64, h.sz, .inl h.cg.1, .inl h.cg.2, fun b e => ?_, fun b q => ?_⟩⟩
  · rcases hT0 b q with q | q
    · exact .inl q
    · exact .inr ⟨q, hlt⟩
  · rcases (h.mown b e).1 with q | q
    · exact .inl q
    · refine .inr ⟨by omega, ?_⟩
      obtain ⟨⟨xs, r1, _⟩, _⟩ := h.mrow
      rcases r1.2 with ⟨e1, _⟩ | ⟨g', cap, cur, e1, _, r3, _⟩
      · rw [e1] at e; cases e
      · rw [e1] at e
        obtain rfl : g' = b := by simpa [Value.ownBlock] using e
        exact (Array.getElem?_eq_some_iff.1 r3).1
  · rcases q with q | q
    · have := h.hC b q; omega
    · exact q.2
end
/-- A row of one, as its block is. -/
theorem rowE_one {α : Type} {E : Elt α} {w : World} {g e : Nat} {y : α} {cs : List Value} (hB : Blk w g e cs.toArray) (hin : E.In (fun b => 0 ≤ b ∧ (Value.slice (some ⟨g, 0, none⟩) 1 1).ownBlock ≠ some b) w y cs) : RowE E w 0 e (some ⟨g, 0, none⟩) 1 1 [y] := by
  refine ⟨⟨cs, ⟨by rw [E.len hin]; omega, .inr ⟨g, 1, cs.toArray, rfl, Nat.zero_le _, hB, Nat.le_refl _, by unfold maxLen; omega, by rw [List.size_toArray, E.len hin]; omega, by rw [List.toList_toArray, List.take_of_length_le (by rw [E.len hin]; omega)]⟩⟩, ⟨cs, [], by simp, hin, rfl⟩⟩, rfl⟩

theorem InTp.at {S : Nat → Prop} {w : World} {t : T} {b o : Nat} (h : InTp S w t (.pointer (some ⟨b, o, none⟩))) : ∃ (a : Option Addr) (c : Nat), w.cell? ⟨b, o, none⟩ = some (.int .i64 t.f) ∧ w.cell? ⟨b, o + 1, none⟩ = some (.slice a t.args.length c) ∧ InT S w t (.agg #[.int .i64 t.f, .slice a t.args.length c]) := by
  obtain ⟨b', o', a, c, e, _, h1, h2, h3⟩ := h
  simp only [Value.pointer.injEq, Option.some.injEq, Addr.mk.injEq, and_true] at e
  obtain ⟨rfl, rfl⟩ := e
  exact ⟨a, c, h1, h2, h3⟩
/-- The walk's state at its start. -/
theorem TS.start {w wc wj wk : World} {g mb g4 g8 g9 : Nat} {st : List Bd} {C A : Nat → Prop} {es : Array MapEntry} {cl : Nat} {a : Option Addr} {c : Nat} {ps : List Value} {p t : T} {pa a8 : Option Addr} {pc c8 : Nat}
    (hM : MatIn w g st C mb es cl a c ps) (hp : InT A w p (.agg #[.int .i64 p.f, .slice pa p.args.length pc])) (hA : ∀ b, A b → ¬ C b) (hb : Below w.heap.size w wk) (hB4 : Blk wk g4 24 #[.int .i64 p.f, .slice pa p.args.length pc]) (h4 : w.heap.size ≤ g4) (h49 : g4 < g9)
    (hcj : w.heap.size ≤ wc.heap.size) (h8 : wc.heap.size ≤ g8) (h89 : g8 < g9) (hB8 : Blk wk g8 24 #[.int .i64 t.f, .slice a8 t.args.length c8]) (hN : NewT wc wj t (.agg #[.int .i64 t.f, .slice a8 t.args.length c8])) (hj : wj.heap.size ≤ g9) (hjk : Below wj.heap.size wj wk)
    (hB9 : Blk wk g9 69 #[.pointer (some ⟨g4, 0, none⟩), .pointer (some ⟨g8, 0, none⟩)]) (hz1 : p.size ≤ 4294967296) (hz2 : t.size ≤ 4294967296) :
    ∃ Ps Ts : Nat → Prop, (∀ b, Ts b → C b ∨ w.heap.size ≤ b) ∧ TS w g mb g9 C Ps Ts st wk ⟨some ⟨g9, 0, none⟩, 1, [(⟨g4, 0, none⟩, ⟨g8, 0, none⟩)], [(p, t)], a, c, st, ps, es, cl⟩ := by
  have hgl := hM.blk.lt
  have hml := hM.map.lt
  have hkl := hB9.lt
  refine ⟨fun b => (A b ∧ b < w.heap.size) ∨ b = g4, fun b => (C b ∧ b ≠ g ∧ b ≠ mb ∧ (Value.slice a st.length c).ownBlock ≠ some b) ∨ (wc.heap.size ≤ b ∧ b < g9), ?_, ?_⟩
  · rintro b (q | q)
    · exact .inl q.1
    · exact .inr (by omega)
  have hown : ∀ b, (Value.slice a st.length c).ownBlock = some b → b < w.heap.size := fun b e => hM.clt b (hM.crow b e)
  exact {
    trow := rowE_one (cs := [.pointer (some ⟨g4, 0, none⟩), .pointer (some ⟨g8, 0, none⟩)]) hB9 rfl
    tnew := fun b e => by have : g9 = b := by simpa [Value.ownBlock] using e
                          omega
    mrow := hM.row.chgOwn (S := fun _ => False) (fun _ _ _ _ _ q => q) (.ofBelow hb) (fun _ _ => id)
    mown := fun b e => ⟨.inl (hM.crow b e), by
      rintro (q | q)
      · exact q.2.2.2 e
      · have := hown b e; omega⟩
    stk := fun i hi => by
      obtain rfl : i = 0 := by simp at hi; exact hi
      exact ⟨InTp.box hB4 (.inr rfl) ((hp.mono (fun b q hlt => .inl ⟨q, hlt⟩)).below hb), InTp.box hB8 (.inr ⟨h8, h89⟩) ((hN.mono (fun b q hlt => .inr ⟨q, by omega⟩)).below hjk)⟩
    ptr := fun i hi => ((hM.ptr i hi).mono (fun b q _ => .inl q)).below hb
    ent := hM.ent
    nd := hM.nd
    len := hM.len
    i64 := hM.i64
    sz := hM.sz
    psz := fun q hq => by simp only [List.mem_singleton] at hq; subst hq; exact ⟨hz1, hz2⟩
    pre := List.take_of_length_le (Nat.le_refl _)
    chg := .ofBelow hb
    old := by omega
    now := by omega
    hP := by
      rintro b (q | rfl)
      · exact ⟨by omega, hA b q.1⟩
      · exact ⟨h49, fun e => by have := hM.clt _ e; omega⟩
    hT := by
      rintro b (q | q)
      · exact ⟨by have := hM.clt b q.1; omega, q.2.1, q.2.2.1⟩
      · exact ⟨q.2, by omega, by omega⟩
    cg := ⟨hM.cg, hM.cmb⟩
    hC := hM.clt }
theorem zip_drop {l ts : List T} {k : Nat} (h : k < l.length) (h2 : l.length = ts.length) : (l.zip ts).drop k = (tget l k, tget ts k) :: (l.zip ts).drop (k + 1) := by
  rw [List.drop_eq_getElem_cons (by simp; omega), List.getElem_zip, tget_lt h, tget_lt (by omega)]
theorem ssz_reverse : ∀ l : List (T × T), ssz l.reverse = ssz l
  | [] => rfl
  | q :: l => by rw [List.reverse_cons, ssz_append, ssz_reverse l, ssz, ssz, ssz]; omega
theorem len_le_ssz : ∀ l : List (T × T), l.length ≤ ssz l
  | [] => Nat.le_refl _
  | q :: l => by
    have := len_le_ssz l
    have h1 : 1 ≤ q.1.size := by rw [T.size_eq]; omega
    rw [List.length_cons, ssz]; omega
/-- Whether it matches; what is bound then. -/
def mOk (p t : T) (st : List Bd) : Bool := p.plain && t.plain && (p.mt st t).isSome
def mTo (p t : T) (st : List Bd) : List Bd := if (p.plain && t.plain) = true then (p.mt st t).getD st else st
theorem fin_ok {p t : T} {st s : List Bd} (h1 : p.plain = true) (h2 : t.plain = true) (h : p.mt st t = some s) : mOk p t st = true ∧ mTo p t st = s := by
  unfold mOk mTo; rw [h1, h2, h]; exact ⟨rfl, rfl⟩
theorem fin_no {p t : T} {st : List Bd} (h1 : p.plain = true) (h2 : t.plain = true) (h : p.mt st t = none) : mOk p t st = false ∧ mTo p t st = st := by
  unfold mOk mTo; rw [h1, h2, h]; exact ⟨rfl, rfl⟩
theorem fin_np {p t : T} {st : List Bd} (h : ¬ (p.plain = true ∧ t.plain = true)) : mOk p t st = false ∧ mTo p t st = st := by
  unfold mOk mTo
  have : (p.plain && t.plain) = false := by rw [Bool.eq_false_iff]; intro e; rw [Bool.and_eq_true] at e; exact h e
  rw [this]; exact ⟨rfl, rfl⟩
theorem ans_new {st0 : Option (List Bd)} {st : List Bd} {X L : List (T × T)} {f : Int} {l : List T} {t : T} (h : st0 = mts st X.reverse) (hX : X = L ++ [(.mk f l, t)]) (hf : f < 0) (hs : subFind st (-1 - f) = none) : st0 = mts (st ++ [⟨-1 - f, t⟩]) L.reverse := by
  rw [h, hX, List.reverse_append, List.reverse_singleton, List.singleton_append, mts]
  dsimp only
  rw [mt_new hf hs]
theorem ans_old {st0 : Option (List Bd)} {st : List Bd} {X L : List (T × T)} {f : Int} {l : List T} {t o : T} (h : st0 = mts st X.reverse) (hX : X = L ++ [(.mk f l, t)]) (hf : f < 0) (hs : subFind st (-1 - f) = some o) (he : T.same o t = true) : st0 = mts st L.reverse := by
  rw [h, hX, List.reverse_append, List.reverse_singleton, List.singleton_append, mts]
  dsimp only
  rw [mt_old hf hs, if_pos he]
theorem ans_bad {st0 : Option (List Bd)} {st : List Bd} {X L : List (T × T)} {f : Int} {l : List T} {t o : T} (h : st0 = mts st X.reverse) (hX : X = L ++ [(.mk f l, t)]) (hf : f < 0) (hs : subFind st (-1 - f) = some o) (he : ¬ T.same o t = true) : st0 = none := by
  rw [h, hX, List.reverse_append, List.reverse_singleton, List.singleton_append, mts]
  dsimp only
  rw [mt_old hf hs, if_neg he]
theorem ans_off {st0 : Option (List Bd)} {st : List Bd} {X L : List (T × T)} {f : Int} {l : List T} {t : T} (h : st0 = mts st X.reverse) (hX : X = L ++ [(.mk f l, t)]) (hf : ¬ f < 0) (he : ¬ (f = t.f ∧ l.length = t.args.length)) : st0 = none := by
  rw [h, hX, List.reverse_append, List.reverse_singleton, List.singleton_append, mts]
  dsimp only
  rw [mt_off hf he]
theorem ans_sym {st0 : Option (List Bd)} {st : List Bd} {X L Y : List (T × T)} {f : Int} {l : List T} {t : T} (h : st0 = mts st X.reverse) (hX : X = L ++ [(.mk f l, t)]) (hf : ¬ f < 0) (he : f = t.f ∧ l.length = t.args.length) (hY : Y.reverse = (l.zip t.args).drop 0 ++ L.reverse) : st0 = mts st Y.reverse := by
  rw [h, hX, List.reverse_append, List.reverse_singleton, List.singleton_append, mts]
  dsimp only
  rw [mt_sym hf he.1 he.2, hY, List.drop_zero, mts_append]
theorem ssz_top {X L : List (T × T)} {f : Int} {l : List T} {t : T} (hX : X = L ++ [(.mk f l, t)]) : ssz X = ssz L + 1 + T.sizeL l := by
  rw [hX, ssz_append, ssz, ssz, T.size]; (try dsimp only); omega
theorem ssz_sym {L Y : List (T × T)} {l ts : List T} (hY : Y.reverse = (l.zip ts).drop 0 ++ L.reverse) : ssz Y ≤ ssz L + T.sizeL l := by
  rw [← ssz_reverse Y, hY, ssz_append, ssz_reverse, List.drop_zero]
  have := ssz_zip l ts; omega

end Go.Proofs.Ytcmfjnadjddboaa

/- Scopes (functions with labels) through which the run goes without a goto. -/
namespace Go.Proofs.Ytcmfjnadjddboaa
open Go.RowKit Go
set_option linter.unusedVariables false
set_option linter.unusedSimpArgs false
section
variable {P : Program} {n : Fr} {K : Known} {w : World} {Q : Exit → Act → World → Prop} {c : Code}
theorem WC.scope (hr : n.r = none) (h : WC P n K w c (Exit.noGoto Q)) : WC P n K w (.scope c) Q := fun a ha => by
  have z := h a ha
  rw [hr] at z ⊢
  exact wpIn_wide.2 (wp_scope_straight (wpIn_wide.1 z))
theorem WE.scopeNormal (h : WE n K w Q .normal) : WE n K w (Exit.noGoto Q) .normal := h
theorem WE.scopeRet (h : WE n K w Q .ret) : WE n K w (Exit.noGoto Q) .ret := h
theorem WE.scopeExit {i : Nat} (h : WE n K w Q (.exit i)) : WE n K w (Exit.noGoto Q) (.exit i) := h
end
end Go.Proofs.Ytcmfjnadjddboaa

namespace Go.Proofs.Ytcmfjnadjddboaa
open Go.RowKit Go
set_option linter.unusedVariables false
set_option linter.unusedSimpArgs false

section
variable {P : Program} {ops : Array Oper}
structure CtxH (ops : Array Oper) (chain : List Nat) (R : Nat → Value → World → Prop) (G : List (Option Value) → World → Prop) (n : Fr) (K Ke : Known) (i : Nat) (o : Oper) (a : Act) (w : World) (vs : List (Option Value)) : Prop where
  now : G vs w
  kn : Kn n K a
  dep : ∀ j d, depB ops o j d = true → chain.contains j = false → R j (a.tmps.getD d undef) w
  len : vs.length = chain.length
  link : ∀ (p c d : Nat), chain[p]? = some c → depB ops o c d = true → vs[p]? = some (some (a.tmps.getD d undef))
  done : ∀ (p c : Nat), chain[p]? = some c → o.after.any (fun e => e.on == c && Region.binds .any e) = true → ∃ v, vs[p]? = some (some v)
  most : ∀ (p c : Nat), chain[p]? = some c → afterB ops c i = true → vs[p]? = some none
  mostT : ∀ (p c : Nat), chain[p]? = some c → (ancL ops c).contains i = true → vs[p]? = some none
  old : ∀ d v, look Ke d = some v → (∀ c, (ops[c]?).bind (·.dst) = some d → (ancL ops c).contains i = true) → a.tmps.getD d undef = v

def SoundH (P : Program) (ops : Array Oper) (Q : Exit → Act → World → Prop) (chain : List Nat) (R : Nat → Value → World → Prop) (Le : World → World → Prop) (G : List (Option Value) → World → Prop) (n : Fr) (K Ke : Known) (i : Nat) (o : Oper) : Prop :=
  (chain.contains i = false ∧ ∃ β, GuardIs R o β ∧ (∀ g b, o.guard = some (g, b) → chain.contains g = false) ∧ (β = false → ∀ w, R i undef w) ∧
    (β = true → ∀ (a : Act) (w : World) (vs : List (Option Value)), CtxH ops chain R G n K Ke i o a w vs →
      o.wpIn (fen n.r) 0 P a w (fun a' w' => ∃ v, a' = Act.put a o.dst v ∧ Le w w' ∧ G vs w' ∧ R i v w') Q)) ∨
  (∃ p, chain[p]? = some i ∧ o.guard = none ∧ ∀ (a : Act) (w : World) (vs : List (Option Value)), CtxH ops chain R G n K Ke i o a w vs → vs[p]? = some none →
      o.wpIn (fen n.r) 0 P a w (fun a' w' => ∃ v, a' = Act.put a o.dst v ∧ Le w w' ∧ G (vs.set p (some v)) w') Q)

def SoundFromH (P : Program) (ops : Array Oper) (Q : Exit → Act → World → Prop) (chain : List Nat) (R : Nat → Value → World → Prop) (Le : World → World → Prop) (G : List (Option Value) → World → Prop) (n : Fr) (K Ke : Known) : Nat → List Oper → Prop
  | _, [] => True
  | k, o :: r => SoundH P ops Q chain R Le G n K Ke k o ∧ SoundFromH P ops Q chain R Le G n K Ke (k + 1) r

theorem SoundFromH.at_ {Q : Exit → Act → World → Prop} {chain : List Nat} {R : Nat → Value → World → Prop} {Le : World → World → Prop} {G : List (Option Value) → World → Prop} {n : Fr} {K Ke : Known} : ∀ {l : List Oper} {k : Nat}, SoundFromH P ops Q chain R Le G n K Ke k l → ∀ i o, l[i]? = some o → SoundH P ops Q chain R Le G n K Ke (k + i) o
  | [], _, _, i, o, h => by simp at h
  | x :: r, k, h, 0, o, ho => by simp at ho; subst ho; exact h.1
  | x :: r, k, h, i + 1, o, ho => by
    have := h.2.at_ i o (by simpa using ho)
    rwa [show k + 1 + i = k + (i + 1) by omega] at this

structure AtH (ops : Array Oper) (chain : List Nat) (R : Nat → Value → World → Prop) (G : List (Option Value) → World → Prop) (n : Fr) (K Ke : Known) (listed : Array Bool) (a : Act) (vs : List (Option Value)) (w : World) : Prop where
  size : listed.size = ops.size
  kn : Kn n K a
  plain : ∀ i d, chain.contains i = false → listed.getD i false = true → (ops[i]?).bind (·.dst) = some d → R i (a.tmps.getD d undef) w
  link : ∀ p c : Nat, chain[p]? = some c → (listed.getD c false = true ↔ ∃ v, vs[p]? = some (some v))
  vals : ∀ (p c d : Nat), chain[p]? = some c → listed.getD c false = true → (ops[c]?).bind (·.dst) = some d → vs[p]? = some (some (a.tmps.getD d undef))
  len : vs.length = chain.length
  closed : ∀ i o, ops[i]? = some o → listed.getD i false = true → ∀ e ∈ o.after, Region.binds .any e = true → listed.getD e.on false = true
  now : G vs w
  old : ∀ d v, look Ke d = some v → (∀ c, (ops[c]?).bind (·.dst) = some d → listed.getD c false = false) → a.tmps.getD d undef = v

theorem wp_any_genH {Q : Exit → Act → World → Prop} {n : Fr} {K Ke : Known} (chain : List Nat) (R : Nat → Value → World → Prop) (Le : World → World → Prop) (G : List (Option Value) → World → Prop)
    (hB : opsB ops n.n = true) (hnd : chain.Nodup) (hin : (chain.all fun c => Nat.blt c ops.size) = true) (hclear : clearB ops K = true)
    (hR : ∀ i v w w', R i v w → Le w w' → R i v w')
    (h : SoundFromH P ops Q chain R Le G n K Ke 0 ops.toList)
    (hQ : ∀ (a : Act) (w : World) (vs : List (Option Value)), Kn n K a → vs.length = chain.length → (∀ p, p < chain.length → ∃ v, vs[p]? = some (some v)) → G vs w → (∀ i d, (ops[i]?).bind (·.dst) = some d → chain.contains i = false → R i (a.tmps.getD d undef) w) → (∀ (p c d : Nat), chain[p]? = some c → (ops[c]?).bind (·.dst) = some d → vs[p]? = some (some (a.tmps.getD d undef))) → Q .normal a w) :
    ∀ (a0 : Act) (w0 : World), Kn n K a0 → Kn n Ke a0 → G (List.replicate chain.length none) w0 → wpAnyIn (fen n.r) 0 P .any ops Q ops.size (Array.replicate ops.size false) a0 w0 := by
  have main : ∀ (fuel : Nat) (listed : Array Bool) (a : Act) (vs : List (Option Value)) (w : World), listed.toList.count false ≤ fuel → AtH ops chain R G n K Ke listed a vs w →
      wpAnyIn (fen n.r) 0 P .any ops Q fuel listed a w := by
    intro fuel
    have done : ∀ (listed : Array Bool) (a : Act) (vs : List (Option Value)) (w : World), Region.ready .any ops listed = [] → AtH ops chain R G n K Ke listed a vs w → Q .normal a w := by
      intro listed a vs w hr H
      have all : ∀ i, i < ops.size → listed.getD i false = true := fun i hi => by
        have := ready_nil hB H.size hr i hi
        have hs := H.size
        simpa [Array.getD, show i < listed.size by omega] using this
      have hin' : ∀ p c, chain[p]? = some c → c < ops.size := fun p c hc => by
        have := List.all_eq_true.1 hin _ (List.mem_of_getElem? hc)
        simpa [Nat.blt_eq] using this
      have lt_of : ∀ i d, (ops[i]?).bind (·.dst) = some d → i < ops.size := fun i d hd => by
        rcases Nat.lt_or_ge i ops.size with h | h
        · exact h
        · simp [Array.getElem?_eq_none h] at hd
      exact hQ a w vs H.kn H.len (fun p hp => (H.link p chain[p] (by simp [hp])).1 (all _ (hin' p _ (by simp [hp])))) H.now (fun i d hd hc => H.plain i d hc (all i (lt_of i d hd)) hd) (fun p c d hc hd => H.vals p c d hc (all c (hin' p c hc)) hd)
    induction fuel with
    | zero =>
      intro listed a vs w hc H
      have hr : Region.ready .any ops listed = [] := by
        cases hr : Region.ready .any ops listed with
        | nil => rfl
        | cons i r =>
          have := (mem_ready (md := .any) (ops := ops) (j := i) (listed := listed)).1 (by rw [hr]; simp)
          rw [count_zero hc i] at this
          simp at this
      exact ⟨hr, done listed a vs w hr H⟩
    | succ fuel ih =>
      intro listed a vs w hc H
      refine ⟨fun hr => done listed a vs w hr H, fun i hi => ?_⟩
      obtain ⟨hun, o, ho, haf⟩ := mem_ready.1 hi
      have hilt : i < ops.size := by
        rcases Nat.lt_or_ge i ops.size with h | h
        · exact h
        · simp [Array.getElem?_eq_none h] at ho
      have hils : i < listed.size := by have := H.size; omega
      have hun' := getD_false_of hun
      have ok := opsB_spec hB ho
      have hs2 := h.at_ i o (by simpa using ho)
      rw [Nat.zero_add] at hs2
      have after_of : ∀ j d, depB ops o j d = true → listed.getD j false = true ∧ (ops[j]?).bind (·.dst) = some d := by
        intro j d hj
        simp only [depB, Bool.and_eq_true, Array.any_eq_true, beq_iff_eq] at hj
        obtain ⟨⟨k, hk, h1, h2⟩, h3⟩ := hj
        exact ⟨h1 ▸ haf _ (Array.getElem_mem hk) h2, h3⟩
      have ctx : CtxH ops chain R G n K Ke i o a w vs := by
        have opt : ∀ p c, chain[p]? = some c → listed.getD c false = false → vs[p]? = some none := fun p c hc hl => by
          have hp : p < vs.length := by rw [H.len]; exact (List.getElem?_eq_some_iff.1 hc).1
          rw [List.getElem?_eq_getElem hp]
          cases hx : vs[p] with
          | none => rfl
          | some v =>
            have := (H.link p c hc).2 ⟨v, by rw [List.getElem?_eq_getElem hp, hx]⟩
            rw [hl] at this; cases this
        refine ⟨H.now, H.kn, fun j d hj hc => H.plain j d hc (after_of j d hj).1 (after_of j d hj).2, H.len, fun p c d hc hj => H.vals p c d hc (after_of c d hj).1 (after_of c d hj).2, fun p c hc ha => ?_, fun p c hc ha => opt p c hc ?_, fun p c hc ha => opt p c hc ?_, fun d v hd hc => H.old d v hd fun c hcd => ?_⟩
        · simp only [Array.any_eq_true, Bool.and_eq_true, beq_iff_eq] at ha
          obtain ⟨k, hk, h1, h2⟩ := ha
          exact (H.link p c hc).1 (h1 ▸ haf _ (Array.getElem_mem hk) h2)
        · cases hl : listed.getD c false with
          | false => rfl
          | true =>
            exfalso
            unfold afterB at ha
            split at ha
            · rename_i oc hoc
              simp only [Array.any_eq_true, Bool.and_eq_true, beq_iff_eq] at ha
              obtain ⟨k, hk, h1, h2⟩ := ha
              have := H.closed c oc hoc hl _ (Array.getElem_mem hk) h2
              rw [h1, hun'] at this
              cases this
            · cases ha
        · cases hl : listed.getD c false with
          | false => rfl
          | true =>
            exfalso
            have := anc_listed H.closed hl i (by simpa using ha)
            rw [hun'] at this
            cases this
        · cases hl : listed.getD c false with
          | false => rfl
          | true =>
            exfalso
            have := anc_listed H.closed hl i (by simpa using hc c hcd)
            rw [hun'] at this
            cases this
      unfold wpOpIn
      simp only [ho]
      -- what is behind a step
      have step : ∀ (v : Value) (vs' : List (Option Value)) (w' : World), (∀ j u, R j u w → R j u w') → G vs' w' → (∀ d, o.dst = some d → chain.contains i = false → R i v w') →
          ((chain.contains i = false ∧ vs' = vs) ∨ (∃ p, chain[p]? = some i ∧ vs' = vs.set p (some v))) →
          wpAnyIn (fen n.r) 0 P .any ops Q fuel (listed.setIfInBounds i true) (Act.put a o.dst v) w' := by
        intro v vs' w' hle hG hRi hvs
        have hc' := count_set (l := listed) hils hun hc
        have hset : ∀ j, (listed.setIfInBounds i true).getD j false = true ↔ j = i ∨ listed.getD j false = true := by
          intro j
          by_cases hj : j = i
          · subst hj; simp [getD_set_eq hils]
          · rw [getD_set_ne false (Ne.symm hj)]; simp [hj]
        have hother : ∀ j k, j ≠ i → (ops[j]?).bind (·.dst) = some k → (Act.put a o.dst v).tmps.getD k undef = a.tmps.getD k undef := by
          intro j k hji hjk
          refine act_put_other (fun hd => ?_)
          have hjlt : j < ops.size := by
            rcases Nat.lt_or_ge j ops.size with h | h
            · exact h
            · simp [Array.getElem?_eq_none h] at hjk
          exact hji (ok.own k j hd hjlt hjk).symm
        have hself : ∀ d, (ops[i]?).bind (·.dst) = some d → (Act.put a o.dst v).tmps.getD d undef = v := by
          intro d hd
          rw [ho] at hd
          simp only [Option.bind_some] at hd
          rw [hd]
          exact act_put_self (by rw [H.kn.size]; exact ok.lt d hd)
        refine ih _ _ vs' w' hc' ⟨by simpa using H.size, H.kn.put_clear (fun k hk => clearB_look hclear (mem_dsts ho hk)) v, fun j d hjc hj hjd => ?_, fun p c hpc => ?_, fun p c d hpc hp hcd => ?_, ?_, fun j oj hoj hj e he hb => ?_, hG, fun d u hd hc => ?_⟩
        · by_cases hji : j = i
          · subst hji
            rw [hself d hjd]
            rw [ho] at hjd
            exact hRi d hjd hjc
          · rw [hother j d hji hjd]
            exact hle _ _ (H.plain j d hjc (((hset j).1 hj).resolve_left hji) hjd)
        · rw [hset]
          rcases hvs with ⟨hci, rfl⟩ | ⟨q, hq, rfl⟩
          · have : c ≠ i := by
              rintro rfl
              have := List.mem_of_getElem? hpc
              simp [this] at hci
            exact ⟨fun h => (H.link p c hpc).1 (h.resolve_left this), fun h => .inr ((H.link p c hpc).2 h)⟩
          · have hpl : q < vs.length := by rw [H.len]; exact (List.getElem?_eq_some_iff.1 hq).1
            by_cases hpq : p = q
            · subst hpq
              rw [hq] at hpc
              simp only [Option.some.injEq] at hpc
              subst hpc
              exact ⟨fun _ => ⟨v, by rw [List.getElem?_set_self hpl]⟩, fun _ => .inl rfl⟩
            · have hci : c ≠ i := by
                rintro rfl
                exact hpq ((List.getElem?_inj (List.getElem?_eq_some_iff.1 hpc).1 hnd).1 (hpc.trans hq.symm))
              rw [List.getElem?_set_ne (Ne.symm hpq)]
              exact ⟨fun h => (H.link p c hpc).1 (h.resolve_left hci), fun h => .inr ((H.link p c hpc).2 h)⟩
        · rcases hvs with ⟨hci, rfl⟩ | ⟨q, hq, rfl⟩
          · have hne : c ≠ i := by
              rintro rfl
              have := List.mem_of_getElem? hpc
              simp [this] at hci
            rw [hother c d hne hcd]
            exact H.vals p c d hpc (((hset c).1 hp).resolve_left hne) hcd
          · have hpl : q < vs.length := by rw [H.len]; exact (List.getElem?_eq_some_iff.1 hq).1
            by_cases hpq : p = q
            · subst hpq
              rw [hq] at hpc
              simp only [Option.some.injEq] at hpc
              subst hpc
              rw [hself d hcd, List.getElem?_set_self hpl]
            · have hne : c ≠ i := by
                rintro rfl
                exact hpq ((List.getElem?_inj (List.getElem?_eq_some_iff.1 hpc).1 hnd).1 (hpc.trans hq.symm))
              rw [hother c d hne hcd, List.getElem?_set_ne (Ne.symm hpq)]
              exact H.vals p c d hpc (((hset c).1 hp).resolve_left hne) hcd
        · rcases hvs with ⟨hci, rfl⟩ | ⟨q, hq, rfl⟩
          · exact H.len
          · rw [List.length_set]; exact H.len
        · rw [hset]
          by_cases hji : j = i
          · subst hji
            rw [ho] at hoj
            simp only [Option.some.injEq] at hoj
            subst hoj
            exact .inr (haf e he hb)
          · exact .inr (H.closed j oj hoj (((hset j).1 hj).resolve_left hji) e he hb)
        · have hne : o.dst ≠ some d := fun e => by
            have := hc i (by rw [ho]; exact e)
            rw [(hset i).2 (.inl rfl)] at this
            cases this
          rw [act_put_other hne]
          refine H.old d u hd fun c hcd => ?_
          cases hl : listed.getD c false with
          | false => rfl
          | true => have := hc c hcd; rw [(hset c).2 (.inr hl)] at this; cases this
      rcases hs2 with ⟨hci, β, hg, hgc, hs1, hs2⟩ | ⟨p, hp, hgn, hs2⟩
      · have hwant : Region.wanted o (yielded ops a.tmps) = β := by
          have known : ∀ g c d b, o.guard = some (g, b) → (∀ v w, R g v w → (d = true → v = .bool c) ∧ (d = false → v = undef)) → yielded ops a.tmps g = if d then some c else none := by
            intro g c dd b hgb hv
            obtain ⟨⟨e, he, h1, h2⟩, d, hd⟩ := ok.guard g b hgb
            have hv := hv (a.tmps.getD d undef) w (H.plain g d (hgc g b hgb) (h1 ▸ haf e he h2) hd)
            have hdlt : d < a.tmps.size := by
              obtain ⟨og, hog, hgd⟩ := Option.bind_eq_some_iff.1 hd
              rw [H.kn.size]
              exact (opsB_spec hB hog).lt d hgd
            unfold yielded
            rw [hd]
            simp only [Array.getD_eq_getD_getElem?, Array.getElem?_eq_getElem hdlt, Option.getD_some] at hv
            cases dd with
            | true => simp [hdlt, hv.1 rfl]
            | false => simp [hdlt, hv.2 rfl, undef]
          cases hg with
          | none h => unfold Region.wanted; rw [h]
          | @yes g c d h hv => have := known _ _ _ _ h hv; unfold Region.wanted; rw [h]; simp only [this]; cases d <;> simp
          | @no g c d h hv => have := known _ _ _ _ h hv; unfold Region.wanted; rw [h]; simp only [this]; cases d <;> cases c <;> simp
        cases hβ : β with
        | false =>
          rw [hβ] at hwant
          simp only [hwant, Bool.false_eq_true, if_false]
          refine ⟨fun f _ => fen_fn _ f, ?_⟩
          exact step undef vs w (fun _ _ h => h) H.now (fun _ _ _ => hs1 hβ w) (.inl ⟨hci, rfl⟩)
        | true =>
          rw [hβ] at hwant
          simp only [hwant, if_true]
          refine Oper.wpIn_mono ?_ (hs2 hβ a w vs ctx)
          rintro a' w' ⟨v, rfl, hle, hG, hRi⟩
          exact step v vs w' (fun j u hj => hR j u _ _ hj hle) hG (fun _ _ _ => hRi) (.inl ⟨hci, rfl⟩)
      · have hwant : Region.wanted o (yielded ops a.tmps) = true := by unfold Region.wanted; rw [hgn]
        have hnone : vs[p]? = some none := by
          have hp' : p < vs.length := by rw [H.len]; exact (List.getElem?_eq_some_iff.1 hp).1
          rw [List.getElem?_eq_getElem hp']
          cases hx : vs[p] with
          | none => rfl
          | some v =>
            have := (H.link p i hp).2 ⟨v, by rw [List.getElem?_eq_getElem hp', hx]⟩
            rw [hun'] at this; cases this
        simp only [hwant, if_true]
        refine Oper.wpIn_mono ?_ (hs2 a w vs ctx hnone)
        rintro a' w' ⟨v, rfl, hle, hG⟩
        have hcc : chain.contains i = true := by
          have := List.mem_of_getElem? hp
          simpa using this
        exact step v (vs.set p (some v)) w' (fun j u hj => hR j u _ _ hj hle) hG (fun _ _ h => by rw [hcc] at h; cases h) (.inr ⟨p, hp, rfl⟩)
  intro a0 w0 hk0 hke h0
  have nothing' : ∀ i, (Array.replicate ops.size false).getD i false = false := fun i => by
    by_cases h : i < ops.size <;> simp [Array.getD, h]
  refine main _ _ _ (List.replicate chain.length none) _ (by simp) ⟨by simp, hk0, fun i d _ hi => ?_, fun p c hpc => ?_, fun p c d _ hp => ?_, by simp, fun i o _ hi => ?_, h0, fun d v hd _ => hke.knows d v hd⟩
  · rw [nothing'] at hi; cases hi
  · rw [nothing']
    refine ⟨fun h => (by cases h), fun ⟨v, hv⟩ => ?_⟩
    have hp := (List.getElem?_eq_some_iff.1 hpc).1
    simp [hp] at hv
  · rw [nothing'] at hp; cases hp
  · rw [nothing'] at hi; cases hi

/-- The law: of what is known of the frame 'K0' is what the region does not write. -/
theorem WC.genH {id : Nat} {dr : Bool} {Q : Exit → Act → World → Prop} {n : Fr} {K : Known} {w : World} (chain : List Nat) (R : Nat → Value → World → Prop) (Le : World → World → Prop) (G : List (Option Value) → World → Prop) (K0 : Known)
    (hs : subK K0 K) (hclear : clearB ops K0 = true) (hm : P.follows .mixedOrders = true) (hB : opsB ops n.n = true) (hnd : chain.Nodup) (hin : (chain.all fun c => Nat.blt c ops.size) = true)
    (hR : ∀ i v w w', R i v w → Le w w' → R i v w') (h0 : G (List.replicate chain.length none) (bif dr then w.drew else w))
    (h : SoundFromH P ops Q chain R Le G n K0 K 0 ops.toList)
    (hQ : ∀ (a : Act) (w : World) (vs : List (Option Value)), Kn n K0 a → vs.length = chain.length → (∀ p, p < chain.length → ∃ v, vs[p]? = some (some v)) → G vs w → (∀ i d, (ops[i]?).bind (·.dst) = some d → chain.contains i = false → R i (a.tmps.getD d undef) w) → (∀ (p c d : Nat), chain[p]? = some c → (ops[c]?).bind (·.dst) = some d → vs[p]? = some (some (a.tmps.getD d undef))) → Q .normal a w) :
    WC P n K w (.region id ops dr) Q := by
  intro a ha
  have main := wp_any_genH (Ke := K) chain R Le G hB hnd hin hclear hR h hQ a
  cases dr with
  | true => exact wpIn_region_any hm (main _ (ha.sub hs) ha h0)
  | false => exact any_start hB (main _ (ha.sub hs) ha h0)
end

section
variable {P : Program} {ops : Array Oper} {S : Nat → Prop}
/-- That slot 'd' is not written yet. -/
def earlyB (ops : Array Oper) (i d : Nat) : Bool := (List.range ops.size).all fun c => !((ops[c]?).bind (·.dst) == some d) || (ancL ops c).contains i
theorem earlyB_of {ops : Array Oper} {i d : Nat} (h : earlyB ops i d = true) : ∀ c, (ops[c]?).bind (·.dst) = some d → (ancL ops c).contains i = true := fun c hc => by
  have hlt : c < ops.size := by
    rcases Nat.lt_or_ge c ops.size with h | h
    · exact h
    · simp [Array.getElem?_eq_none h] at hc
  have := List.all_eq_true.1 h c (List.mem_range.2 hlt)
  simpa [hc] using this
structure CtxA3 (ops : Array Oper) (l : List (Bool × SpS S)) (chain : List Nat) (first : Nat) (n : Fr) (K Ke : Known) (w0 : World) (i : Nat) (o : Oper) (a : Act) (w : World) : Prop extends CtxA ops l chain first n K w0 i o a w where
  old : ∀ d v, look Ke d = some v → earlyB ops i d = true → a.tmps.getD d undef = v
def Tail3 (P : Program) (ops : Array Oper) (Q : Exit → Act → World → Prop) (l : List (Bool × SpS S)) (n : Fr) (K Ke : Known) (w0 : World) (p q N : Nat) (GA : Option Addr → Nat → World → Prop) : Nat → List Oper → Prop
  | _, [] => True
  | i, o :: r => (([p, q].contains i = false ∧ ∃ β, GuardIs (optS l) o β ∧ (∀ g b, o.guard = some (g, b) → [p, q].contains g = false) ∧ (β = false → ∀ w, optS l i undef w) ∧
      (β = true → ∀ a w, CtxA3 ops l [p, q] p n K Ke w0 i o a w → o.wp P a w (fun a' w' => ∃ v, a' = Act.put a o.dst v ∧ Below w.heap.size w w' ∧ optS l i v w') Q)) ∨
    (i = p ∧ o.guard = none ∧ ∀ a w, CtxB ops l [p, q] n K w0 o a w → o.wp P a w (fun a' w' => ∃ ra rc, a' = Act.put a o.dst (.slice ra N rc) ∧ GA ra rc w' ∧ Chg S w w') Q) ∨
    (i = q ∧ o.guard = none ∧ ∃ d, depB ops o p d = true ∧ o.op = .assign (.tmp d))) ∧ Tail3 P ops Q l n K Ke w0 p q N GA (i + 1) r
def G3 (S : Nat → Prop) (w0 : World) (N : Nat) (GA : Option Addr → Nat → World → Prop) : List (Option Value) → World → Prop
  | [none, none], w => Below w0.heap.size w0 w
  | [some v, none], w => ∃ ra rc, v = .slice ra N rc ∧ GA ra rc w ∧ Chg S w0 w
  | [some v, some u], w => ∃ ra rc, v = .slice ra N rc ∧ u = .slice ra N rc ∧ GA ra rc w ∧ Chg S w0 w
  | _, _ => False
theorem G3.chg {w0 w : World} {N : Nat} {GA : Option Addr → Nat → World → Prop} : ∀ {vs : List (Option Value)}, G3 S w0 N GA vs w → Chg S w0 w
  | [none, none], h => .ofBelow h
  | [some _, none], h => by obtain ⟨_, _, _, _, h⟩ := h; exact h
  | [some _, some _], h => by obtain ⟨_, _, _, _, _, h⟩ := h; exact h
  | [none, some _], h => h.elim
  | [], h => h.elim
  | [x], h => by cases x <;> exact h.elim
  | _ :: _ :: _ :: _, h => by simp [G3] at h
theorem Tail3.gen {Q : Exit → Act → World → Prop} {l : List (Bool × SpS S)} {n : Fr} {K Ke : Known} {w0 : World} {p q N : Nat} {GA : Option Addr → Nat → World → Prop} (hpq : p ≠ q) (hGA : ∀ ra rc w w', Below w.heap.size w w' → GA ra rc w → GA ra rc w') : ∀ {lo : List Oper} {i : Nat}, Tail3 P ops Q l n K Ke w0 p q N GA i lo →
    SoundFromH P ops Q [p, q] (optS l) (Chg S) (G3 S w0 N GA) n K Ke i lo
  | [], _, _ => trivial
  | o :: r, i, ⟨h, hr⟩ => by
    refine ⟨?_, hr.gen hpq hGA⟩
    rcases h with ⟨hi, β, h1, h2, h3, h4⟩ | ⟨rfl, hg, h4⟩ | ⟨rfl, hg, d, hd, ho⟩
    · refine .inl ⟨hi, β, h1, h2, h3, fun hβ a w vs C => ?_⟩
      refine Oper.wpIn_mono ?_ (wpIn_of (h4 hβ a w ⟨⟨C.now.chg, C.kn, C.dep, fun he => ?_⟩, fun d v hd hb => C.old d v hd (earlyB_of hb)⟩) (by rintro a' w' ⟨v, rfl, _⟩; exact put_defers _ _ _))
      · rintro a' w' ⟨v, rfl, hb, hR⟩
        refine ⟨v, rfl, .ofBelow hb, ?_, hR⟩
        match vs, C.len, C.now with
        | [none, none], _, h => exact bstep h hb
        | [some _, none], _, ⟨ra, rc, e, h, hc⟩ => exact ⟨ra, rc, e, hGA _ _ _ _ hb h, hc.trans (.ofBelow hb)⟩
        | [some _, some _], _, ⟨ra, rc, e, e2, h, hc⟩ => exact ⟨ra, rc, e, e2, hGA _ _ _ _ hb h, hc.trans (.ofBelow hb)⟩
        | [none, some _], _, h => exact h.elim
      · have := C.mostT 0 p rfl he
        match vs, C.len, C.now, this with
        | [none, none], _, h, _ => exact h
        | [none, some _], _, h, _ => exact h.elim
    · refine .inr ⟨0, rfl, hg, fun a w vs C hn => ?_⟩
      match vs, C.len, C.now, hn, C with
      | [none, none], _, h, _, C =>
        refine Oper.wpIn_mono ?_ (wpIn_of (h4 a w ⟨h, C.kn, C.dep⟩) (by rintro a' w' ⟨_, _, rfl, _⟩; exact put_defers _ _ _))
        rintro a' w' ⟨ra, rc, rfl, hG, hc⟩
        exact ⟨_, rfl, hc, ra, rc, rfl, hG, (Chg.ofBelow h).trans hc⟩
      | [none, some _], _, h, _, _ => exact h.elim
    · refine .inr ⟨1, rfl, hg, fun a w vs C hn => ?_⟩
      have hl := C.link 0 p d rfl hd
      match vs, C.len, C.now, hn, hl, C with
      | [some v, none], _, ⟨ra, rc, e, h, hc⟩, _, hl, C =>
        have hv : v = a.tmps.getD d undef := by simpa using hl
        refine Oper.wpIn_mono ?_ (wpIn_of (K := fun a' w' => a' = Act.put a o.dst (.slice ra N rc) ∧ w' = w) (wp_assign ho (show a.tmps.getD d undef = .slice ra N rc from (hv ▸ e)) ⟨rfl, rfl⟩) (by rintro a' w' ⟨rfl, _⟩; exact put_defers _ _ _))
        rintro a' w' ⟨rfl, rfl⟩
        exact ⟨_, rfl, .refl _ _, ra, rc, e, rfl, h, hc⟩
theorem WC.tail3 {id : Nat} {dr : Bool} {Q : Exit → Act → World → Prop} {n : Fr} {K : Known} {w : World} (l : List (Bool × SpS S)) (K0 : Known) (p q N dp dq : Nat) (GA : Option Addr → Nat → World → Prop) (hpq : p ≠ q) (hGA : ∀ ra rc w w', Below w.heap.size w w' → GA ra rc w → GA ra rc w')
    (hs : subK K0 K) (hclear : clearB ops K0 = true) (hm : P.follows .mixedOrders = true) (hB : opsB ops n.n = true) (hin : ([p, q].all fun c => Nat.blt c ops.size) = true) (hdp : (ops[p]?).bind (·.dst) = some dp) (hdq : (ops[q]?).bind (·.dst) = some dq)
    (h : Tail3 P ops Q l n K0 K w p q N GA 0 ops.toList)
    (hQ : ∀ (a : Act) (w' : World) (ra : Option Addr) (rc : Nat), Kn n K0 a → a.tmps.getD dp undef = .slice ra N rc → a.tmps.getD dq undef = .slice ra N rc → GA ra rc w' → Chg S w w' → (∀ i d, (ops[i]?).bind (·.dst) = some d → [p, q].contains i = false → optS l i (a.tmps.getD d undef) w') → Q .normal a w') :
    WC P n K w (.region id ops dr) Q := by
  refine WC.genH [p, q] (optS l) (Chg S) (G3 S w N GA) K0 hs hclear hm hB (by simpa using hpq) hin (optSKeep l) ?_ (h.gen hpq hGA) (fun a w' vs hk hlen hall hG hu hl => ?_)
  · cases dr with
    | true => exact (Below.refl _ _).drew
    | false => exact Below.refl _ _
  · obtain ⟨v, hv⟩ := hall 0 (by simp)
    obtain ⟨u, hu1⟩ := hall 1 (by simp)
    have hx := hl 0 p dp rfl hdp
    have hx2 := hl 1 q dq rfl hdq
    match vs, hlen, hv, hu1, hx, hx2, hG with
    | [some y, some z], _, _, _, hx, hx2, ⟨ra, rc, e, e2, hG, hc⟩ =>
      have hy : y = a.tmps.getD dp undef := by simpa using hx
      have hz : z = a.tmps.getD dq undef := by simpa using hx2
      exact hQ a w' ra rc hk (hy ▸ e) (hz ▸ e2) hG hc hu
end

end Go.Proofs.Ytcmfjnadjddboaa
