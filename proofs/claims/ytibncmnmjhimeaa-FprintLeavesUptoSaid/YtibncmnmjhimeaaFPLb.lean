/- Operations, one law a kind and type. -/
import Derived.Test.YtibncmnmjhimeaaFPLa
import Derived.Laws.IdiomRangeMap
import Derived.Deep.MidRow
import Derived.WalkKit

/- Unification by nets of parts: terms put into the net, measures, what variables become; plain. -/
namespace Go.Proofs.Ytibncmnmjhimeaa
set_option linter.unusedVariables false
set_option linter.unusedSimpArgs false
/-- All parts, and where variables stand (0: nowhere yet, else the number behind). -/
structure NS where
  N : List Pt
  V : Nat → Nat
def NS.setV (V : Nat → Nat) (v x : Nat) : Nat → Nat := fun k => if k = v then x else V k
def vnum (f : Int) : Nat := (-1 - f).toNat
def NS.var (st : NS) (f : Int) : NS × Nat := if st.V (vnum f) ≠ 0 then (st, st.V (vnum f) - 1) else (⟨st.N ++ [⟨f, []⟩], NS.setV st.V (vnum f) (st.N.length + 1)⟩, st.N.length)
mutual
def T.put : T → NS → NS × Nat
  | .mk f l, st => if f < 0 then st.var f else (⟨(T.putL l st).1.N ++ [⟨f, (T.putL l st).2⟩], (T.putL l st).1.V⟩, (T.putL l st).1.N.length)
def T.putL : List T → NS → NS × List Nat
  | [], st => (st, [])
  | t :: r, st => ((T.putL r (t.put st).1).1, (t.put st).2 :: (T.putL r (t.put st).1).2)
end
theorem putL_snoc (t : T) : ∀ (l : List T) (st : NS), T.putL (l ++ [t]) st = ((t.put (T.putL l st).1).1, (T.putL l st).2 ++ [(t.put (T.putL l st).1).2])
  | [], st => by simp [T.putL]
  | x :: r, st => by rw [List.cons_append, T.putL, putL_snoc t r, T.putL]; rfl
/-- A net that may be. -/
structure NetOk (st : NS) : Prop where
  args : NOk st.N
  vars : ∀ v, st.V v ≤ st.N.length ∧ (st.V v ≠ 0 → (pget st.N (st.V v - 1)).fn = -1 - (v : Int))
theorem pget_app {N M : List Pt} {i : Nat} (h : i < N.length) : pget (N ++ M) i = pget N i := by
  unfold pget; rw [List.getD_eq_getElem?_getD, List.getD_eq_getElem?_getD, List.getElem?_append_left h]
theorem pget_new {N : List Pt} {x : Pt} : pget (N ++ [x]) N.length = x := by
  unfold pget; rw [List.getD_eq_getElem?_getD, List.getElem?_append_right (Nat.le_refl _)]; simp
theorem nok_app {N : List Pt} {x : Pt} (h : NOk N) (h1 : ∀ a ∈ x.args, a < N.length) (h2 : x.fn < 0 → x.args = []) : NOk (N ++ [x]) := by
  intro i hi
  by_cases hl : i < N.length
  · rw [pget_app hl]; exact h i hl
  · rw [List.length_append] at hi
    have hi' : i < N.length + 1 := hi
    obtain rfl : i = N.length := by omega
    rw [pget_new]; exact ⟨h1, h2⟩
theorem netOk_app {st : NS} {x : Pt} (h : NetOk st) (h1 : ∀ a ∈ x.args, a < st.N.length) (h2 : x.fn < 0 → x.args = []) : NetOk ⟨st.N ++ [x], st.V⟩ := by
  refine ⟨nok_app h.args h1 h2, fun v => ?_⟩
  obtain ⟨a, b⟩ := h.vars v
  refine ⟨by rw [List.length_append]; exact Nat.le_trans a (Nat.le_add_right _ _), fun q => ?_⟩
  have hq : st.V v ≠ 0 := q
  rw [show pget (⟨st.N ++ [x], st.V⟩ : NS).N (st.V v - 1) = pget st.N (st.V v - 1) from pget_app (by omega)]
  exact b hq
/-- What putting in leaves. -/
structure PutOk (st st' : NS) (m : Nat) : Prop where
  ok : NetOk st'
  ext : ∃ M, st'.N = st.N ++ M
  len : st'.N.length ≤ st.N.length + m
  keep : ∀ v, st.V v ≠ 0 → st'.V v = st.V v
theorem PutOk.le {st st' : NS} {m : Nat} (h : PutOk st st' m) : st.N.length ≤ st'.N.length := by obtain ⟨M, e⟩ := h.ext; rw [e, List.length_append]; omega
theorem PutOk.trans {st st2 st3 : NS} {m n : Nat} (h : PutOk st st2 m) (k : PutOk st2 st3 n) : PutOk st st3 (m + n) := by
  obtain ⟨M, e⟩ := h.ext
  obtain ⟨M2, e2⟩ := k.ext
  exact ⟨k.ok, ⟨M ++ M2, by rw [e2, e, List.append_assoc]⟩, by have := h.len; have := k.len; omega, fun v q => by have z := h.keep v q; rw [k.keep v (by rw [z]; exact q), z]⟩
theorem var_ok {st : NS} {f : Int} (h : NetOk st) (hf : f < 0) : PutOk st (st.var f).1 1 ∧ (st.var f).2 < (st.var f).1.N.length ∧ (pget (st.var f).1.N (st.var f).2).fn = f ∧ (st.var f).1.V (vnum f) = (st.var f).2 + 1 := by
  unfold NS.var
  by_cases c : st.V (vnum f) ≠ 0
  · rw [if_pos c]
    obtain ⟨a, b⟩ := h.vars (vnum f)
    refine ⟨⟨h, ⟨[], by simp⟩, by (try dsimp only); omega, fun _ _ => rfl⟩, by (try dsimp only); omega, ?_, by (try dsimp only); omega⟩
    have z := b c
    (try dsimp only)
    rw [z]; unfold vnum; omega
  · rw [if_neg c]
    have e0 : st.V (vnum f) = 0 := by omega
    refine ⟨⟨⟨nok_app h.args (fun a q => by simp at q) (fun _ => rfl), fun v => ?_⟩, ⟨_, rfl⟩, by simp, fun v q => ?_⟩, by simp, ?_, ?_⟩
    · show NS.setV st.V (vnum f) (st.N.length + 1) v ≤ (st.N ++ [(⟨f, []⟩ : Pt)]).length ∧ (NS.setV st.V (vnum f) (st.N.length + 1) v ≠ 0 → (pget (st.N ++ [(⟨f, []⟩ : Pt)]) (NS.setV st.V (vnum f) (st.N.length + 1) v - 1)).fn = -1 - (v : Int))
      by_cases hv : v = vnum f
      · subst hv
        rw [show NS.setV st.V (vnum f) (st.N.length + 1) (vnum f) = st.N.length + 1 from if_pos rfl]
        refine ⟨by simp, fun _ => ?_⟩
        rw [Nat.add_sub_cancel, pget_new]
        unfold vnum; (try dsimp only); omega
      · rw [show NS.setV st.V (vnum f) (st.N.length + 1) v = st.V v from if_neg hv]
        obtain ⟨a, b⟩ := h.vars v
        refine ⟨by simp; omega, fun q => ?_⟩
        rw [pget_app (by omega)]; exact b q
    · have : v ≠ vnum f := fun e => by subst e; exact q e0
      show NS.setV st.V (vnum f) _ v = _
      unfold NS.setV; rw [if_neg this]
    · show (pget (st.N ++ [_]) st.N.length).fn = f
      rw [pget_new]
    · show NS.setV st.V (vnum f) _ (vnum f) = _
      unfold NS.setV; rw [if_pos rfl]
mutual
theorem put_ok : ∀ (t : T) (st : NS), NetOk st → PutOk st (t.put st).1 t.size ∧ (t.put st).2 < (t.put st).1.N.length
  | .mk f l, st, h => by
    rw [T.put]
    by_cases hf : f < 0
    · rw [if_pos hf]
      obtain ⟨a, b, _, _⟩ := var_ok h hf
      refine ⟨⟨a.ok, a.ext, ?_, a.keep⟩, b⟩
      have := a.len; rw [T.size]; omega
    · rw [if_neg hf]
      obtain ⟨a, b, c⟩ := putL_ok l st h
      have o2 := netOk_app (x := ⟨f, (T.putL l st).2⟩) a.ok b (fun q => absurd q hf)
      obtain ⟨M, e⟩ := a.ext
      refine ⟨⟨o2, ⟨M ++ [⟨f, (T.putL l st).2⟩], by show (T.putL l st).1.N ++ _ = _; rw [e, List.append_assoc]⟩, ?_, a.keep⟩, by simp⟩
      have := a.len
      rw [T.size]; simp; omega
theorem putL_ok : ∀ (l : List T) (st : NS), NetOk st → PutOk st (T.putL l st).1 (T.sizeL l) ∧ (∀ a ∈ (T.putL l st).2, a < (T.putL l st).1.N.length) ∧ (T.putL l st).2.length = l.length
  | [], st, h => by rw [T.putL]; exact ⟨⟨h, ⟨[], by simp⟩, by simp [T.sizeL], fun _ _ => rfl⟩, fun a q => by simp at q, rfl⟩
  | t :: r, st, h => by
    rw [T.putL]
    obtain ⟨a, b⟩ := put_ok t st h
    obtain ⟨c, d, e⟩ := putL_ok r _ a.ok
    refine ⟨?_, fun x q => ?_, by simp [e]⟩
    · rw [T.sizeL]; exact a.trans c
    · rcases List.mem_cons.1 q with rfl | q
      · have := c.le; (try dsimp only); omega
      · exact d x q
end
/-- Growing leaves what stands for parts closed. -/
theorem KCl.grow {N M : List Pt} {κ : Nat → Nat} (h : KCl N κ) : KCl (N ++ M) κ := by
  have hb : ∀ i, i < (N ++ M).length → κ i < (N ++ M).length := fun i hi => by
    by_cases hl : i < N.length
    · have := h.ok.lt i hl; rw [List.length_append]; omega
    · rw [h.ok.big i (by omega)]; exact hi
  refine ⟨⟨h.ok.idem, hb, fun i hi => h.ok.big i (by rw [List.length_append] at hi; omega), fun i hi => ?_⟩, fun i j hi hj e h0 h1 => ?_⟩
  · by_cases hl : i < N.length
    · have z := h.ok.lt i hl
      rw [pget_app z] at hi ⊢
      rw [pget_app hl]
      exact h.ok.top i hi
    · rw [h.ok.big i (by omega)]; exact Int.le_refl _
  · by_cases li : i < N.length
    · by_cases lj : j < N.length
      · rw [pget_app li] at h0 ⊢
        rw [pget_app lj] at h1 ⊢
        exact h.inv i j li lj e h0 h1
      · have z := h.ok.lt i li
        rw [e, h.ok.big j (by omega)] at z; omega
    · by_cases lj : j < N.length
      · have z := h.ok.lt j lj
        rw [← e, h.ok.big i (by omega)] at z; omega
      · rw [h.ok.big i (by omega), h.ok.big j (by omega)] at e
        subst e
        exact ⟨rfl, rfl, fun S hS _ _ k _ => hS.refl _⟩
/-- Pairs of terms, put in and joined, one behind the other. -/
inductive NRun (rv : Bool) : List (T × T) → NS → (Nat → Nat) → Option (NS × (Nat → Nat)) → Prop
  | nil (st : NS) (κ : Nat → Nat) : NRun rv [] st κ (some (st, κ))
  | fail {a b : T} {r : List (T × T)} {st : NS} {κ : Nat → Nat} : Run rv (b.put (a.put st).1).1.N [((a.put st).2, (b.put (a.put st).1).2)] κ none → NRun rv ((a, b) :: r) st κ none
  | cons {a b : T} {r : List (T × T)} {st : NS} {κ κ' : Nat → Nat} {o : Option (NS × (Nat → Nat))} : Run rv (b.put (a.put st).1).1.N [((a.put st).2, (b.put (a.put st).1).2)] κ (some κ') → NRun rv r (b.put (a.put st).1).1 κ' o → NRun rv ((a, b) :: r) st κ o
theorem NRun.snoc {rv : Bool} {l : List (T × T)} {a b : T} {st st' : NS} {κ κ' : Nat → Nat} (h : NRun rv l st κ (some (st', κ'))) : (∀ κ2, Run rv (b.put (a.put st').1).1.N [((a.put st').2, (b.put (a.put st').1).2)] κ' (some κ2) → NRun rv (l ++ [(a, b)]) st κ (some ((b.put (a.put st').1).1, κ2))) ∧
    (Run rv (b.put (a.put st').1).1.N [((a.put st').2, (b.put (a.put st').1).2)] κ' none → ∀ r, NRun rv (l ++ (a, b) :: r) st κ none) := by
  generalize ho : some (st', κ') = o at h
  induction h with
  | nil st κ =>
    simp only [Option.some.injEq, Prod.mk.injEq] at ho
    obtain ⟨rfl, rfl⟩ := ho
    exact ⟨fun κ2 h => .cons h (.nil _ _), fun h r => .fail h⟩
  | fail h => cases ho
  | cons h1 _ ih => exact ⟨fun κ2 h => .cons h1 ((ih ho).1 κ2 h), fun h r => .cons h1 ((ih ho).2 h r)⟩
def capS : Nat := 1099511627776
def szF (κ sz : Nat → Nat) (l : List Nat) : Nat := l.foldl (fun n a => min (n + sz (κ a)) capS) 1
def dpF (κ dp : Nat → Nat) (l : List Nat) : Nat := l.foldl (fun n a => max n (dp (κ a) + 1)) 1
/-- How large and how deep parts become: nothing stands in itself. -/
structure Meas (N : List Pt) (κ sz dp : Nat → Nat) : Prop where
  sz : ∀ i, i < N.length → sz (κ i) = szF κ sz (pget N (κ i)).args
  dp : ∀ i, i < N.length → dp (κ i) = dpF κ dp (pget N (κ i)).args
theorem dpF_ge (κ dp : Nat → Nat) : ∀ (l : List Nat) (n : Nat), n ≤ l.foldl (fun n a => max n (dp (κ a) + 1)) n ∧ ∀ a ∈ l, dp (κ a) < l.foldl (fun n a => max n (dp (κ a) + 1)) n
  | [], n => ⟨Nat.le_refl _, fun a h => by simp at h⟩
  | x :: r, n => by
    rw [List.foldl_cons]
    obtain ⟨h1, h2⟩ := dpF_ge κ dp r (max n (dp (κ x) + 1))
    refine ⟨by omega, fun a h => ?_⟩
    rcases List.mem_cons.1 h with rfl | h
    · omega
    · exact h2 a h
theorem Meas.lt {N : List Pt} {κ sz dp : Nat → Nat} (h : Meas N κ sz dp) {i a : Nat} (hi : i < N.length) (ha : a ∈ (pget N (κ i)).args) : dp (κ a) < dp (κ i) := by
  rw [h.dp i hi]; exact (dpF_ge κ dp _ 1).2 a ha
/-- What a part becomes, to so many steps. -/
def tmF (N : List Pt) (κ : Nat → Nat) : Nat → Nat → T
  | 0, i => .mk 0 []
  | n + 1, i => .mk (pget N (κ i)).fn ((pget N (κ i)).args.map (tmF N κ n))
theorem map_pair {β : Type} (f g : Nat → β) : ∀ (l m : List Nat), l.length = m.length → (∀ k, k < l.length → f (aget l k) = g (aget m k)) → l.map f = m.map g
  | [], [], _, _ => rfl
  | [], _ :: _, h, _ => by simp at h
  | _ :: _, [], h, _ => by simp at h
  | x :: l, y :: m, h, hk => by
    rw [List.map_cons, List.map_cons, show f x = g y from hk 0 (by simp)]
    congr 1
    exact map_pair f g l m (by simpa using h) (fun k hl => by have z := hk (k + 1) (by simpa using hl); simpa [aget] using z)
/-- What the first variables become; none: one of them becomes too large. -/
def bindsM (st : NS) (κ sz dp : Nat → Nat) : Nat → Option (List Bd)
  | 0 => some []
  | v + 1 => match bindsM st κ sz dp v with
    | none => none
    | some s => if st.V v = 0 then some s else if (pget st.N (κ (st.V v - 1))).fn = -1 - (v : Int) then some s
      else if 300 < sz (κ (st.V v - 1)) ∨ 30 < dp (κ (st.V v - 1)) then none else some (s ++ [⟨(v : Int), tmF st.N κ (dp (κ (st.V v - 1))) (κ (st.V v - 1))⟩])
/-- What joining all pairs comes to: none: there is no unifier. -/
inductive SolveIs (rv : Bool) (l : List (T × T)) : Option (NS × (Nat → Nat) × (Nat → Nat) × (Nat → Nat)) → Prop
  | clash : NRun rv l ⟨[], fun _ => 0⟩ id none → SolveIs rv l none
  | cyc {st : NS} {κ : Nat → Nat} : NRun rv l ⟨[], fun _ => 0⟩ id (some (st, κ)) → (∀ sz dp, ¬ Meas st.N κ sz dp) → SolveIs rv l none
  | ok {st : NS} {κ sz dp : Nat → Nat} : NRun rv l ⟨[], fun _ => 0⟩ id (some (st, κ)) → Meas st.N κ sz dp → SolveIs rv l (some (st, κ, sz, dp))
theorem net0_ok : NetOk ⟨[], fun _ => 0⟩ := ⟨fun i hi => by simp at hi, fun v => ⟨Nat.le_refl _, fun q => absurd rfl q⟩⟩
theorem kcl0 : KCl [] id := ⟨⟨fun _ => rfl, fun i hi => by simp at hi, fun _ _ => rfl, fun i hi => by simp [pget] at hi; exact absurd hi (by decide)⟩, fun i j hi => by simp at hi⟩
/-- What the pairs' unifier is, and what is answered: 0: there is one, 3: it is too large, 4: there is none. -/
def resB : Option (List Bd) → List Bd × Int
  | none => ([], 3)
  | some s => (s, 0)
def resOf : Option (NS × (Nat → Nat) × (Nat → Nat) × (Nat → Nat)) → List Bd × Int
  | none => ([], 4)
  | some (st, κ, sz, dp) => resB (bindsM st κ sz dp 96)
end Go.Proofs.Ytibncmnmjhimeaa

/- Terms whose variables have no arguments. -/
namespace Go.Proofs.Ytibncmnmjhimeaa
open Go.RowKit Go
set_option linter.unusedVariables false
set_option linter.unusedSimpArgs false
mutual
def T.plain : T → Bool
  | .mk f l => T.plainL l && (decide (0 ≤ f) || l.isEmpty)
def T.plainL : List T → Bool
  | [] => true
  | t :: r => t.plain && T.plainL r
end
theorem plainL_mem : ∀ {l : List T}, T.plainL l = true ↔ ∀ t ∈ l, t.plain = true
  | [] => by simp [T.plainL]
  | t :: r => by rw [T.plainL, Bool.and_eq_true, plainL_mem (l := r)]; simp
theorem plain_all {f : Int} {l : List T} (h : ∀ i, i < l.length → (tget l i).plain = true) : (T.mk f l).plain = (decide (0 ≤ f) || l.isEmpty) := by
  rw [T.plain, plainL_mem.2 (fun t ht => ?_), Bool.true_and]
  obtain ⟨i, hi, rfl⟩ := List.getElem_of_mem ht
  have := h i hi
  rwa [tget_lt hi] at this
theorem plain_no {f : Int} {l : List T} {k : Nat} (hk : k < l.length) (h : (tget l k).plain = false) : (T.mk f l).plain = false := by
  rw [T.plain]
  have : T.plainL l = false := by
    rw [Bool.eq_false_iff]; intro hp
    rw [plainL_mem.1 hp _ (tget_mem hk)] at h; cases h
  rw [this]; rfl
theorem plain_var {f : Int} {l : List T} (h1 : f < 0) (h2 : 0 < l.length) : (T.mk f l).plain = false := by
  rw [T.plain, decide_eq_false (by omega), Bool.false_or]
  have : l.isEmpty = false := by cases l with | nil => simp at h2 | cons _ _ => rfl
  rw [this, Bool.and_false]
theorem plain_yes {f : Int} {l : List T} (h0 : ¬ (f < 0 ∧ 0 < l.length)) (h : ∀ i, i < l.length → (tget l i).plain = true) : (T.mk f l).plain = true := by
  rw [plain_all h, Bool.or_eq_true, decide_eq_true_eq]
  rcases Int.lt_or_le f 0 with q | q
  · right
    have : l.length = 0 := by omega
    rw [List.length_eq_zero_iff.1 this]; rfl
  · exact .inl q
end Go.Proofs.Ytibncmnmjhimeaa

/- Small terms: plain. -/
namespace Go.Proofs.Ytibncmnmjhimeaa
open Go.RowKit Go
set_option linter.unusedVariables false
set_option linter.unusedSimpArgs false
mutual
def T.dep : T → Nat
  | .mk _ l => T.depL l + 1
def T.depL : List T → Nat
  | [] => 0
  | t :: r => max t.dep (T.depL r)
end
mutual
def T.low (m : Int) : T → Bool
  | .mk f l => if f < 0 then decide (-m ≤ f) && decide (l.length = 0) else T.lowL m l
def T.lowL (m : Int) : List T → Bool
  | [] => true
  | t :: r => t.low m && T.lowL m r
end
def T.small (m : Int) (t : T) : Bool := decide (t.size ≤ 300) && decide (t.dep ≤ 30) && t.low m
theorem depL_snoc : ∀ (l : List T) (t : T), T.depL (l ++ [t]) = max (T.depL l) t.dep
  | [], t => by simp [T.depL]
  | x :: l, t => by rw [List.cons_append, T.depL, T.depL, depL_snoc l t, Nat.max_assoc]
theorem depL_take {l : List T} {k : Nat} (h : k < l.length) : T.depL (l.take (k + 1)) = max (T.depL (l.take k)) (tget l k).dep := by
  rw [List.take_succ_eq_append_getElem h, depL_snoc, tget_lt h]
theorem sizeL_snoc : ∀ (l : List T) (t : T), T.sizeL (l ++ [t]) = T.sizeL l + t.size
  | [], t => by simp [T.sizeL]
  | x :: l, t => by rw [List.cons_append, T.sizeL, T.sizeL, sizeL_snoc l t, Nat.add_assoc]
theorem sizeL_take1 {l : List T} {k : Nat} (h : k < l.length) : T.sizeL (l.take (k + 1)) = T.sizeL (l.take k) + (tget l k).size := by
  rw [List.take_succ_eq_append_getElem h, sizeL_snoc, tget_lt h]
mutual
theorem T.dep_le : ∀ t : T, t.dep ≤ t.size
  | .mk f l => by rw [T.dep, T.size]; have := T.depL_le l; omega
theorem T.depL_le : ∀ l : List T, T.depL l ≤ T.sizeL l
  | [] => Nat.le_refl _
  | t :: r => by rw [T.depL, T.sizeL]; have := T.dep_le t; have := T.depL_le r; omega
end
theorem depL_take_le {l : List T} {k : Nat} : T.depL (l.take k) ≤ T.sizeL l := by
  have h1 := T.depL_le (l.take k)
  have h2 : T.sizeL (l.take k) ≤ T.sizeL l := T.sizeL_take_le l k
  omega
theorem lowL_mem {m : Int} : ∀ {l : List T}, T.lowL m l = true ↔ ∀ t ∈ l, t.low m = true
  | [] => by simp [T.lowL]
  | t :: r => by rw [T.lowL, Bool.and_eq_true, lowL_mem (l := r)]; simp
theorem low_yes {m f : Int} {l : List T} (hf : ¬ f < 0) (h : ∀ i, i < l.length → (tget l i).low m = true) : (T.mk f l).low m = true := by
  rw [T.low, if_neg hf]
  refine lowL_mem.2 fun t ht => ?_
  obtain ⟨i, hi, rfl⟩ := List.getElem_of_mem ht
  have := h i hi
  rwa [tget_lt hi] at this
theorem low_no {m f : Int} {l : List T} {k : Nat} (hf : ¬ f < 0) (hk : k < l.length) (h : ¬ (tget l k).low m = true) : (T.mk f l).low m = false := by
  rw [T.low, if_neg hf, Bool.eq_false_iff]
  intro e
  exact h (lowL_mem.1 e _ (tget_mem hk))
mutual
/-- The variables of a term. -/
def T.hasV (v : Int) : T → Prop
  | .mk f l => (f < 0 ∧ v = -1 - f) ∨ T.hasVL v l
def T.hasVL (v : Int) : List T → Prop
  | [] => False
  | t :: r => t.hasV v ∨ T.hasVL v r
end
theorem hasVL_mem {v : Int} : ∀ {l : List T}, T.hasVL v l ↔ ∃ t ∈ l, t.hasV v
  | [] => by simp [T.hasVL]
  | t :: r => by rw [T.hasVL, hasVL_mem (l := r)]; simp
end Go.Proofs.Ytibncmnmjhimeaa

/- Unifiers, plain: what joining comes to is the most general one, and which one it is does not hang on the order. -/
namespace Go.Proofs.Ytibncmnmjhimeaa
set_option linter.unusedVariables false
set_option linter.unusedSimpArgs false
/-! ### Terms whose variables stand alone; what a function makes of them -/
def tv (v : Nat) : T := .mk (-1 - (v : Int)) []
mutual
def T.prp : T → Prop
  | .mk f l => if f < 0 then l = [] else T.prpL l
def T.prpL : List T → Prop
  | [] => True
  | t :: r => t.prp ∧ T.prpL r
end
theorem prpL_mem : ∀ {l : List T}, T.prpL l ↔ ∀ t ∈ l, t.prp
  | [] => by simp [T.prpL]
  | t :: r => by rw [T.prpL, prpL_mem (l := r)]; simp
mutual
def T.apv (θ : Nat → T) : T → T
  | .mk f l => if f < 0 then θ (vnum f) else .mk f (T.apvL θ l)
def T.apvL (θ : Nat → T) : List T → List T
  | [] => []
  | t :: r => t.apv θ :: T.apvL θ r
end
theorem apvL_map (θ : Nat → T) : ∀ l : List T, T.apvL θ l = l.map (T.apv θ)
  | [] => rfl
  | t :: r => by rw [T.apvL, apvL_map θ r]; rfl
theorem vnum_tv (v : Nat) : vnum (-1 - (v : Int)) = v := by unfold vnum; omega
theorem apv_tv (θ : Nat → T) (v : Nat) : (tv v).apv θ = θ v := by unfold tv; rw [T.apv, if_pos (by omega), vnum_tv]
theorem apv_var {θ : Nat → T} {f : Int} {l : List T} (h : f < 0) : (T.mk f l).apv θ = θ (vnum f) := by rw [T.apv, if_pos h]
theorem apv_sym {θ : Nat → T} {f : Int} {l : List T} (h : ¬ f < 0) : (T.mk f l).apv θ = .mk f (l.map (T.apv θ)) := by rw [T.apv, if_neg h, apvL_map]
mutual
theorem low_prp {m : Int} : ∀ {t : T}, t.low m = true → t.prp
  | .mk f l, h => by
    rw [T.low] at h; rw [T.prp]
    by_cases hf : f < 0
    · rw [if_pos hf] at h ⊢
      rw [Bool.and_eq_true, decide_eq_true_eq, decide_eq_true_eq] at h
      exact List.eq_nil_of_length_eq_zero h.2
    · rw [if_neg hf] at h ⊢
      exact lowL_prp h
theorem lowL_prp {m : Int} : ∀ {l : List T}, T.lowL m l = true → T.prpL l
  | [], _ => trivial
  | t :: r, h => by
    rw [T.lowL, Bool.and_eq_true] at h
    exact ⟨low_prp h.1, lowL_prp h.2⟩
end
-- what stands where in a net
mutual
def T.rep (N : List Pt) (V : Nat → Nat) : T → Nat → Prop
  | .mk f l, i => i < N.length ∧ (pget N i).fn = f ∧ if f < 0 then l = [] ∧ V (vnum f) = i + 1 else T.repL N V l (pget N i).args
def T.repL (N : List Pt) (V : Nat → Nat) : List T → List Nat → Prop
  | [], [] => True
  | t :: r, a :: q => t.rep N V a ∧ T.repL N V r q
  | [], _ :: _ => False
  | _ :: _, [] => False
end
mutual
theorem rep_ext {N M : List Pt} {V V' : Nat → Nat} (hV : ∀ v, V v ≠ 0 → V' v = V v) : ∀ {t : T} {i : Nat}, t.rep N V i → t.rep (N ++ M) V' i
  | .mk f l, i, h => by
    rw [T.rep] at h ⊢
    obtain ⟨h1, h2, h3⟩ := h
    refine ⟨by rw [List.length_append]; omega, by rw [pget_app h1]; exact h2, ?_⟩
    by_cases hf : f < 0
    · rw [if_pos hf] at h3 ⊢
      exact ⟨h3.1, by rw [hV _ (by omega)]; exact h3.2⟩
    · rw [if_neg hf] at h3 ⊢
      rw [pget_app h1]; exact repL_ext hV h3
theorem repL_ext {N M : List Pt} {V V' : Nat → Nat} (hV : ∀ v, V v ≠ 0 → V' v = V v) : ∀ {l : List T} {q : List Nat}, T.repL N V l q → T.repL (N ++ M) V' l q
  | [], [], _ => trivial
  | t :: r, a :: q, h => by rw [T.repL] at h ⊢; exact ⟨rep_ext hV h.1, repL_ext hV h.2⟩
  | [], _ :: _, h => by rw [T.repL] at h; exact h.elim
  | _ :: _, [], h => by rw [T.repL] at h; exact h.elim
end
/-- A variable has one part. -/
def VarOne (st : NS) : Prop := ∀ i, i < st.N.length → (pget st.N i).fn < 0 → st.V (vnum (pget st.N i).fn) = i + 1
theorem PutOk.rep {st st' : NS} {m : Nat} (h : PutOk st st' m) {t : T} {i : Nat} (hr : t.rep st.N st.V i) : t.rep st'.N st'.V i := by
  obtain ⟨M, e⟩ := h.ext
  rw [e]; exact rep_ext h.keep hr
mutual
theorem put_rep : ∀ (t : T) (st : NS), NetOk st → VarOne st → t.prp → VarOne (t.put st).1 ∧ t.rep (t.put st).1.N (t.put st).1.V (t.put st).2
  | .mk f l, st, hs, ho, hp => by
    rw [T.prp] at hp
    by_cases hf : f < 0
    · rw [if_pos hf] at hp
      subst hp
      obtain ⟨k1, k2, k3, k4⟩ := var_ok hs hf
      have e : (T.mk f []).put st = st.var f := by rw [T.put, if_pos hf]
      rw [e]
      refine ⟨?_, ?_⟩
      · unfold NS.var
        by_cases c : st.V (vnum f) ≠ 0
        · rw [if_pos c]; exact ho
        · rw [if_neg c]
          intro i hi hn
          show NS.setV st.V (vnum f) (st.N.length + 1) (vnum (pget (st.N ++ [(⟨f, []⟩ : Pt)]) i).fn) = i + 1
          have hi2 : i < (st.N ++ [(⟨f, []⟩ : Pt)]).length := hi
          rw [List.length_append] at hi2
          have hi3 : i < st.N.length + 1 := hi2
          by_cases hl : i < st.N.length
          · rw [pget_app hl]
            have hn2 : (pget st.N i).fn < 0 := by have z : (pget (st.N ++ [(⟨f, []⟩ : Pt)]) i).fn < 0 := hn; rwa [pget_app hl] at z
            have z := ho i hl hn2
            unfold NS.setV
            rw [if_neg (fun q => by rw [q] at z; omega)]
            exact z
          · obtain rfl : i = st.N.length := by omega
            rw [pget_new]
            unfold NS.setV; rw [if_pos rfl]
      · rw [T.rep, if_pos hf]
        exact ⟨k2, k3, rfl, k4⟩
    · rw [if_neg hf] at hp
      obtain ⟨a, b⟩ := putL_rep l st hs ho hp
      obtain ⟨c, d, e⟩ := putL_ok l st hs
      have e2 : (T.mk f l).put st = (⟨(T.putL l st).1.N ++ [⟨f, (T.putL l st).2⟩], (T.putL l st).1.V⟩, (T.putL l st).1.N.length) := by rw [T.put, if_neg hf]
      rw [e2]
      refine ⟨fun i hi hn => ?_, ?_⟩
      · have hi2 : i < ((T.putL l st).1.N ++ [(⟨f, (T.putL l st).2⟩ : Pt)]).length := hi
        rw [List.length_append] at hi2
        have hi3 : i < (T.putL l st).1.N.length + 1 := hi2
        have hn2 : (pget ((T.putL l st).1.N ++ [(⟨f, (T.putL l st).2⟩ : Pt)]) i).fn < 0 := hn
        show (T.putL l st).1.V (vnum (pget ((T.putL l st).1.N ++ [(⟨f, (T.putL l st).2⟩ : Pt)]) i).fn) = i + 1
        by_cases hl : i < (T.putL l st).1.N.length
        · rw [pget_app hl] at hn2 ⊢; exact a i hl hn2
        · obtain rfl : i = (T.putL l st).1.N.length := by omega
          rw [pget_new] at hn2; exact absurd hn2 hf
      · rw [T.rep, if_neg hf]
        refine ⟨by simp, by rw [pget_new], ?_⟩
        rw [pget_new]
        exact repL_ext (fun _ _ => rfl) b
theorem putL_rep : ∀ (l : List T) (st : NS), NetOk st → VarOne st → T.prpL l → VarOne (T.putL l st).1 ∧ T.repL (T.putL l st).1.N (T.putL l st).1.V l (T.putL l st).2
  | [], st, hs, ho, _ => by rw [T.putL]; exact ⟨ho, trivial⟩
  | t :: r, st, hs, ho, hp => by
    obtain ⟨a, b⟩ := put_rep t st hs ho hp.1
    obtain ⟨p1, _⟩ := put_ok t st hs
    obtain ⟨c, d⟩ := putL_rep r _ p1.ok a hp.2
    obtain ⟨q1, _⟩ := putL_ok r _ p1.ok
    rw [T.putL]
    exact ⟨c, by rw [T.repL]; exact ⟨q1.rep b, d⟩⟩
end
/-! ### Parts, unfolded -/
theorem map_mem {β : Type} {f g : Nat → β} : ∀ {l : List Nat}, (∀ a ∈ l, f a = g a) → l.map f = l.map g
  | [], _ => rfl
  | x :: r, h => by rw [List.map_cons, List.map_cons, h x (by simp), map_mem (fun a q => h a (List.mem_cons_of_mem _ q))]
/-- Parts below others, by a measure. -/
structure Mu (N : List Pt) (κ μ : Nat → Nat) : Prop where
  ok : KOk N κ
  nok : NOk N
  lt : ∀ i, i < N.length → ∀ a ∈ (pget N (κ i)).args, μ (κ a) < μ (κ i)
theorem Mu.arg {N : List Pt} {κ μ : Nat → Nat} (h : Mu N κ μ) {i a : Nat} (hi : i < N.length) (ha : a ∈ (pget N (κ i)).args) : a < N.length := by
  have l := h.ok.lt i hi
  have := (h.nok _ l).1 _ ha
  omega
def unf {α : Type} (N : List Pt) (κ : Nat → Nat) (F : Pt → List α → α) (z : α) : Nat → Nat → α
  | 0, _ => z
  | n + 1, i => F (pget N (κ i)) ((pget N (κ i)).args.map (unf N κ F z n))
section
variable {α : Type} {N : List Pt} {κ μ : Nat → Nat} {F : Pt → List α → α} {z : α}
theorem unf_rep (hk : KOk N κ) (n i : Nat) : unf N κ F z n (κ i) = unf N κ F z n i := by
  cases n with
  | zero => rfl
  | succ n => rw [unf, unf, hk.idem]
theorem unf_same (n : Nat) {i j : Nat} (h : κ i = κ j) : unf N κ F z n i = unf N κ F z n j := by
  cases n with
  | zero => rfl
  | succ n => rw [unf, unf, h]
theorem unf_stable (h : Mu N κ μ) : ∀ (n m i : Nat), i < N.length → μ (κ i) < n → μ (κ i) < m → unf N κ F z n i = unf N κ F z m i
  | 0, _, _, _, h1, _ => absurd h1 (Nat.not_lt_zero _)
  | _ + 1, 0, _, _, _, h2 => absurd h2 (Nat.not_lt_zero _)
  | n + 1, m + 1, i, hi, h1, h2 => by
    rw [unf, unf]
    congr 1
    exact map_mem (fun a ha => by have := h.lt i hi a ha; exact unf_stable h n m a (h.arg hi ha) (by omega) (by omega))
def unU (N : List Pt) (κ μ : Nat → Nat) (F : Pt → List α → α) (z : α) (i : Nat) : α := unf N κ F z (μ (κ i) + 1) i
theorem unU_eq (h : Mu N κ μ) {i : Nat} (hi : i < N.length) : unU N κ μ F z i = F (pget N (κ i)) ((pget N (κ i)).args.map (unU N κ μ F z)) := by
  unfold unU
  rw [unf]
  congr 1
  exact map_mem (fun a ha => by have := h.lt i hi a ha; exact unf_stable h _ _ a (h.arg hi ha) this (Nat.lt_succ_self _))
theorem unU_same {i j : Nat} (h : κ i = κ j) : unU N κ μ F z i = unU N κ μ F z j := by unfold unU; rw [h]; exact unf_same _ h
theorem unU_at (h : Mu N κ μ) {n i : Nat} (hi : i < N.length) (hn : μ (κ i) < n) : unf N κ F z n i = unU N κ μ F z i := unf_stable h _ _ i hi hn (Nat.lt_succ_self _)
end
def mkT (p : Pt) (l : List T) : T := .mk p.fn l
theorem tmF_unf (N : List Pt) (κ : Nat → Nat) : ∀ (n i : Nat), tmF N κ n i = unf N κ mkT (.mk 0 []) n i
  | 0, _ => rfl
  | n + 1, i => by
    rw [tmF, unf, mkT]
    congr 1
    exact map_mem (fun a _ => tmF_unf N κ n a)
def tmU (N : List Pt) (κ μ : Nat → Nat) : Nat → T := unU N κ μ mkT (.mk 0 [])
section
variable {N : List Pt} {κ μ : Nat → Nat}
theorem tmU_eq (h : Mu N κ μ) {i : Nat} (hi : i < N.length) : tmU N κ μ i = .mk (pget N (κ i)).fn ((pget N (κ i)).args.map (tmU N κ μ)) := unU_eq h hi
theorem tmU_var (h : Mu N κ μ) {i : Nat} (hi : i < N.length) (hf : (pget N (κ i)).fn < 0) : tmU N κ μ i = .mk (pget N (κ i)).fn [] := by
  rw [tmU_eq h hi, (h.nok _ (h.ok.lt i hi)).2 hf]; rfl
theorem mu_ind (h : Mu N κ μ) {P : Nat → Prop} (step : ∀ i, i < N.length → (∀ a ∈ (pget N (κ i)).args, P a) → P i) : ∀ i, i < N.length → P i := by
  have key : ∀ n i, i < N.length → μ (κ i) < n → P i := fun n => by
    induction n with
    | zero => intro i _ h1; exact absurd h1 (Nat.not_lt_zero _)
    | succ n ih => exact fun i hi h1 => step i hi (fun a ha => ih a (h.arg hi ha) (by have := h.lt i hi a ha; omega))
  exact fun i hi => key _ i hi (Nat.lt_succ_self _)
theorem tmU_prp (h : Mu N κ μ) : ∀ i, i < N.length → (tmU N κ μ i).prp := mu_ind h (fun i hi ih => by
  by_cases hf : (pget N (κ i)).fn < 0
  · rw [tmU_var h hi hf, T.prp, if_pos hf]
  · rw [tmU_eq h hi, T.prp, if_neg hf, prpL_mem]
    intro t ht
    obtain ⟨a, ha, rfl⟩ := List.mem_map.1 ht
    exact ih a ha)
end
/-! ### Sizes, depths -/
theorem foldl_sz (cap : Nat) : ∀ (l : List Nat) (g s : Nat → Nat) (A x : Nat), x = min A cap → (∀ a ∈ l, g a = min (s a) cap) → l.foldl (fun n a => min (n + g a) cap) x = min (A + (l.map s).sum) cap
  | [], g, s, A, x, h, _ => by simpa using h
  | a :: r, g, s, A, x, h, hg => by
    rw [List.foldl_cons, foldl_sz cap r g s (A + s a) _ (by rw [h, hg a (by simp)]; omega) (fun b q => hg b (List.mem_cons_of_mem _ q))]
    rw [List.map_cons, List.sum_cons]
    omega
theorem sizeL_sum : ∀ l : List T, T.sizeL l = (l.map T.size).sum
  | [] => rfl
  | t :: r => by rw [T.sizeL, sizeL_sum r]; rfl
theorem foldl_dp : ∀ (l : List Nat) (g : Nat → T) (d : Nat → Nat) (x : Nat), (∀ a ∈ l, d a = (g a).dep) → l.foldl (fun n a => max n (d a + 1)) x = max x (if l = [] then 0 else T.depL (l.map g) + 1)
  | [], g, d, x, _ => by simp
  | a :: r, g, d, x, h => by
    rw [List.foldl_cons, foldl_dp r g d _ (fun b q => h b (List.mem_cons_of_mem _ q)), h a (by simp)]
    rw [if_neg (show ¬ (a :: r = []) by simp), List.map_cons, T.depL]
    by_cases hr : r = []
    · subst hr; simp [T.depL]
    · rw [if_neg hr]; omega
section
variable {N : List Pt} {κ sz dp : Nat → Nat}
theorem Meas.pos (h : Meas N κ sz dp) {i : Nat} (hi : i < N.length) : 1 ≤ dp (κ i) := by
  rw [h.dp i hi]; exact (dpF_ge κ dp _ 1).1
theorem Meas.mu (hk : KOk N κ) (hN : NOk N) (h : Meas N κ sz dp) : Mu N κ (fun i => dp i - 1) := ⟨hk, hN, fun i hi a ha => by
  have l := hk.lt i hi
  have la : a < N.length := by have := (hN _ l).1 _ ha; omega
  have h1 := h.lt hi ha
  have h2 := h.pos la
  show dp (κ a) - 1 < dp (κ i) - 1
  omega⟩
theorem Meas.is (hk : KOk N κ) (hN : NOk N) (h : Meas N κ sz dp) : ∀ i, i < N.length → sz (κ i) = min (tmU N κ (fun i => dp i - 1) i).size capS ∧ dp (κ i) = (tmU N κ (fun i => dp i - 1) i).dep := by
  have hm := h.mu hk hN
  refine mu_ind hm (fun i hi ih => ?_)
  rw [tmU_eq hm hi, T.size, T.dep, sizeL_sum, List.map_map]
  constructor
  · rw [h.sz i hi]; unfold szF
    exact foldl_sz capS _ (fun a => sz (κ a)) (T.size ∘ tmU N κ (fun i => dp i - 1)) 1 1 (by unfold capS; omega) (fun a ha => (ih a ha).1)
  · rw [h.dp i hi]; unfold dpF
    rw [foldl_dp _ (tmU N κ (fun i => dp i - 1)) (fun a => dp (κ a)) 1 (fun a ha => (ih a ha).2)]
    split
    · rename_i e; rw [e]; simp [T.depL]
    · omega
end
end Go.Proofs.Ytibncmnmjhimeaa

/- Unifiers, plain: every unifier comes of what joining leaves; if there is one, joining does not clash and nothing stands in itself. -/
namespace Go.Proofs.Ytibncmnmjhimeaa
set_option linter.unusedVariables false
set_option linter.unusedSimpArgs false
/-- What a part becomes by a function of variables. -/
def pvF (N : List Pt) (θ : Nat → T) : Nat → Nat → T
  | 0, _ => .mk 0 []
  | n + 1, i => if (pget N i).fn < 0 then θ (vnum (pget N i).fn) else .mk (pget N i).fn ((pget N i).args.map (pvF N θ n))
section
variable {N M : List Pt} {θ : Nat → T}
theorem pvF_stable (hN : NOk N) : ∀ (n m i : Nat), i < N.length → i < n → i < m → pvF N θ n i = pvF N θ m i
  | 0, _, _, _, h1, _ => absurd h1 (Nat.not_lt_zero _)
  | _ + 1, 0, _, _, _, h2 => absurd h2 (Nat.not_lt_zero _)
  | n + 1, m + 1, i, hi, h1, h2 => by
    rw [pvF, pvF]
    split
    · rfl
    · congr 1
      exact map_mem (fun a ha => by have := (hN i hi).1 a ha; exact pvF_stable hN n m a (by omega) (by omega) (by omega))
def pv (N : List Pt) (θ : Nat → T) (i : Nat) : T := pvF N θ (i + 1) i
theorem pv_var {i : Nat} (h : (pget N i).fn < 0) : pv N θ i = θ (vnum (pget N i).fn) := by unfold pv; rw [pvF, if_pos h]
theorem pv_sym (hN : NOk N) {i : Nat} (hi : i < N.length) (h : ¬ (pget N i).fn < 0) : pv N θ i = .mk (pget N i).fn ((pget N i).args.map (pv N θ)) := by
  unfold pv; rw [pvF, if_neg h]
  congr 1
  exact map_mem (fun a ha => by have := (hN i hi).1 a ha; exact pvF_stable hN _ _ a (by omega) (by omega) (by omega))
theorem pvF_app (hN : NOk N) : ∀ (n i : Nat), i < N.length → pvF (N ++ M) θ n i = pvF N θ n i
  | 0, _, _ => rfl
  | n + 1, i, hi => by
    rw [pvF, pvF, pget_app hi]
    split
    · rfl
    · congr 1
      exact map_mem (fun a ha => by have := (hN i hi).1 a ha; exact pvF_app hN n a (by omega))
theorem pv_app (hN : NOk N) {i : Nat} (hi : i < N.length) : pv (N ++ M) θ i = pv N θ i := pvF_app hN _ _ hi
mutual
theorem rep_pv {V : Nat → Nat} (hN : NOk N) : ∀ (t : T) (i : Nat), t.rep N V i → pv N θ i = t.apv θ
  | .mk f l, i, h => by
    rw [T.rep] at h
    obtain ⟨h1, h2, h3⟩ := h
    by_cases hf : f < 0
    · rw [pv_var (by rw [h2]; exact hf), apv_var hf, h2]
    · rw [if_neg hf] at h3
      rw [pv_sym hN h1 (by rw [h2]; exact hf), apv_sym hf, h2, repL_pv hN l _ h3]
theorem repL_pv {V : Nat → Nat} (hN : NOk N) : ∀ (l : List T) (q : List Nat), T.repL N V l q → q.map (pv N θ) = l.map (T.apv θ)
  | [], [], _ => rfl
  | t :: r, a :: q, h => by
    rw [T.repL] at h
    rw [List.map_cons, List.map_cons, rep_pv hN t a h.1, repL_pv hN r q h.2]
  | [], _ :: _, h => by rw [T.repL] at h; exact h.elim
  | _ :: _, [], h => by rw [T.repL] at h; exact h.elim
end
/-- Parts that become the same. -/
def SP (N : List Pt) (θ : Nat → T) (i j : Nat) : Prop := i = j ∨ (i < N.length ∧ j < N.length ∧ pv N θ i = pv N θ j)
theorem map_get {f : Nat → T} {l m : List Nat} (h : l.map f = m.map f) : l.length = m.length ∧ ∀ k, k < l.length → f (aget l k) = f (aget m k) := by
  have hl : l.length = m.length := by have := congrArg List.length h; simpa using this
  refine ⟨hl, fun k hk => ?_⟩
  have e := congrArg (fun x => x[k]?) h
  simp only [List.getElem?_map] at e
  rw [List.getElem?_eq_getElem hk, List.getElem?_eq_getElem (show k < m.length by omega)] at e
  rw [aget_lt hk, aget_lt (by omega)]
  simpa using e
theorem SP.cld (hN : NOk N) : Cld N (SP N θ) := by
  refine ⟨⟨fun i => .inl rfl, fun {i j} h => ?_, fun {i j k} h1 h2 => ?_⟩, fun {i j} h h0 h1 => ?_⟩
  · rcases h with rfl | ⟨a, b, c⟩
    · exact .inl rfl
    · exact .inr ⟨b, a, c.symm⟩
  · rcases h1 with rfl | ⟨a, b, c⟩
    · exact h2
    · rcases h2 with rfl | ⟨d, e, f⟩
      · exact .inr ⟨a, b, c⟩
      · exact .inr ⟨a, e, c.trans f⟩
  · rcases h with rfl | ⟨a, b, c⟩
    · exact ⟨rfl, rfl, fun _ _ => .inl rfl⟩
    · rw [pv_sym hN a (by omega), pv_sym hN b (by omega)] at c
      obtain ⟨c1, c2⟩ := T.mk.inj c
      obtain ⟨c3, c4⟩ := map_get c2
      refine ⟨c1, c3, fun k hk => .inr ⟨?_, ?_, c4 k hk⟩⟩
      · have := (hN i a).1 _ (aget_mem hk); omega
      · have := (hN j b).1 _ (aget_mem (show k < (pget N j).args.length by omega)); omega
end
/-- All pairs become the same. -/
def Unif (θ : Nat → T) (l : List (T × T)) : Prop := ∀ p ∈ l, p.1.apv θ = p.2.apv θ
def PrpPs (l : List (T × T)) : Prop := ∀ p ∈ l, p.1.prp ∧ p.2.prp
/-- What joining leaves, so far: the pairs that were joined are the same; each unifier has it. -/
theorem nrun_unif {rv : Bool} {l : List (T × T)} {st : NS} {κ : Nat → Nat} {o : Option (NS × (Nat → Nat))} (h : NRun rv l st κ o) : NetOk st → VarOne st → KCl st.N κ → PrpPs l →
    (∀ st' κ', o = some (st', κ') → NetOk st' ∧ VarOne st' ∧ KCl st'.N κ' ∧ (∃ M, st'.N = st.N ++ M) ∧ (∀ v, st.V v ≠ 0 → st'.V v = st.V v) ∧ (∀ i j, κ i = κ j → κ' i = κ' j) ∧ ∀ p ∈ l, ∃ i j, p.1.rep st'.N st'.V i ∧ p.2.rep st'.N st'.V j ∧ κ' i = κ' j) ∧
    (∀ θ, Unif θ l → (∀ i j, κ i = κ j → SP st.N θ i j) → ∃ st' κ', o = some (st', κ') ∧ ∀ i j, κ' i = κ' j → SP st'.N θ i j) := by
  have two : ∀ (a b : T) (st : NS) (κ : Nat → Nat), NetOk st → VarOne st → KCl st.N κ → a.prp → b.prp → NetOk (b.put (a.put st).1).1 ∧ VarOne (b.put (a.put st).1).1 ∧ KCl (b.put (a.put st).1).1.N κ ∧ PutOk st (b.put (a.put st).1).1 (a.size + b.size) ∧ a.rep (b.put (a.put st).1).1.N (b.put (a.put st).1).1.V (a.put st).2 ∧ b.rep (b.put (a.put st).1).1.N (b.put (a.put st).1).1.V (b.put (a.put st).1).2 ∧ InR (b.put (a.put st).1).1.N [((a.put st).2, (b.put (a.put st).1).2)] := fun a b st κ hs ho hk ha hb => by
    obtain ⟨p1, p2⟩ := put_ok a st hs
    obtain ⟨q1, q2⟩ := put_ok b _ p1.ok
    obtain ⟨r1, r2⟩ := put_rep a st hs ho ha
    obtain ⟨s1, s2⟩ := put_rep b _ p1.ok r1 hb
    obtain ⟨M, e⟩ := p1.ext
    obtain ⟨M2, e2⟩ := q1.ext
    refine ⟨q1.ok, s1, by rw [e2, e]; exact hk.grow.grow, p1.trans q1, q1.rep r2, s2, fun p hp => ?_⟩
    obtain rfl := List.mem_singleton.1 hp
    exact ⟨Nat.lt_of_lt_of_le p2 q1.le, q2⟩
  have inv : ∀ {N : List Pt} {κ : Nat → Nat} {todo : List (Nat × Nat)}, Inv N κ [] → Inv N κ todo := fun h p q hp hq e h0 h1 => by
    obtain ⟨z1, z2, z3⟩ := h p q hp hq e h0 h1
    exact ⟨z1, z2, fun S hS hκ ht => z3 S hS hκ (fun x hx => by simp at hx)⟩
  -- what unifiers have stays so when the net grows
  have grow : ∀ {st st' : NS} {m : Nat} {κ : Nat → Nat} {θ : Nat → T}, NetOk st → PutOk st st' m → (∀ i j, κ i = κ j → SP st.N θ i j) → ∀ i j, κ i = κ j → SP st'.N θ i j := fun {st st' m κ θ} hs hp h i j e => by
    obtain ⟨M, eM⟩ := hp.ext
    rcases h i j e with z | ⟨z1, z2, z3⟩
    · exact .inl z
    · refine .inr ⟨by rw [eM, List.length_append]; omega, by rw [eM, List.length_append]; omega, ?_⟩
      rw [eM, pv_app hs.args z1, pv_app hs.args z2]; exact z3
  induction h with
  | nil st κ =>
    intro hs ho hk _
    exact ⟨fun st' κ' e => by cases e; exact ⟨hs, ho, hk, ⟨[], by simp⟩, fun _ _ => rfl, fun _ _ e => e, fun p hp => by simp at hp⟩, fun θ _ h => ⟨st, κ, rfl, h⟩⟩
  | @fail a b r st κ h1 =>
    intro hs ho hk hp
    obtain ⟨k1, k2, k3, k4, k5, k6, k7⟩ := two a b st κ hs ho hk (hp (a, b) (by simp)).1 (hp (a, b) (by simp)).2
    refine ⟨fun _ _ e => (nomatch e), fun θ hu h => ?_⟩
    obtain ⟨κ', e, _⟩ := (h1.ok k1.args k3.ok k7 (inv k3.inv)).2 (SP _ θ) (SP.cld k1.args) (grow hs k4 h) (fun p hp2 => by
      obtain rfl := List.mem_singleton.1 hp2
      refine .inr ⟨(k7 _ (by simp)).1, (k7 _ (by simp)).2, ?_⟩
      rw [rep_pv k1.args a _ k5, rep_pv k1.args b _ k6]
      exact hu (a, b) (by simp))
    cases e
  | @cons a b r st κ κ' o h1 _ ih =>
    intro hs ho hk hp
    obtain ⟨k1, k2, k3, k4, k5, k6, k7⟩ := two a b st κ hs ho hk (hp (a, b) (by simp)).1 (hp (a, b) (by simp)).2
    obtain ⟨m1, m2⟩ := h1.ok k1.args k3.ok k7 (inv k3.inv)
    obtain ⟨n1, n2, n3, n4⟩ := m1 κ' rfl
    obtain ⟨p1, p2⟩ := ih k1 k2 ⟨n1, n2⟩ (fun p q => hp p (List.mem_cons_of_mem _ q))
    refine ⟨fun st' κ2 e => ?_, fun θ hu h => ?_⟩
    · obtain ⟨q1, q2, q3, ⟨M, q4⟩, q5, q6, q7⟩ := p1 st' κ2 e
      obtain ⟨M0, e0⟩ := k4.ext
      have keep : ∀ {t : T} {i : Nat}, t.rep (b.put (a.put st).1).1.N (b.put (a.put st).1).1.V i → t.rep st'.N st'.V i := fun h => by rw [q4]; exact rep_ext q5 h
      refine ⟨q1, q2, q3, ⟨M0 ++ M, by rw [q4, e0, List.append_assoc]⟩, fun v hv => by have z := k4.keep v hv; rw [q5 v (by rw [z]; exact hv), z], fun i j e => q6 _ _ (n3 _ _ e), fun p hpm => ?_⟩
      rcases List.mem_cons.1 hpm with rfl | hpm
      · exact ⟨_, _, keep k5, keep k6, q6 _ _ (n4 _ (List.mem_singleton.2 rfl))⟩
      · exact q7 p hpm
    · obtain ⟨κ3, e3, hS⟩ := m2 (SP _ θ) (SP.cld k1.args) (grow hs k4 h) (fun p hp2 => by
        obtain rfl := List.mem_singleton.1 hp2
        refine .inr ⟨(k7 _ (by simp)).1, (k7 _ (by simp)).2, ?_⟩
        rw [rep_pv k1.args a _ k5, rep_pv k1.args b _ k6]
        exact hu (a, b) (by simp))
      obtain rfl := Option.some.inj e3
      exact p2 θ (fun p q => hu p (List.mem_cons_of_mem _ q)) hS
theorem varOne0 : VarOne ⟨[], fun _ => 0⟩ := fun i hi => by simp at hi
/-- What all variables become. -/
def sgV (st : NS) (κ μ : Nat → Nat) (v : Nat) : T := if st.V v = 0 then tv v else tmU st.N κ μ (st.V v - 1)
section
variable {st : NS} {κ μ : Nat → Nat}
theorem sgV_part (hs : NetOk st) (ho : VarOne st) (h : Mu st.N κ μ) {i : Nat} (hi : i < st.N.length) (hf : (pget st.N i).fn < 0) : sgV st κ μ (vnum (pget st.N i).fn) = tmU st.N κ μ i := by
  have e := ho i hi hf
  unfold sgV
  rw [if_neg (by omega), e, Nat.add_sub_cancel]
mutual
theorem rep_sg (hs : NetOk st) (ho : VarOne st) (h : Mu st.N κ μ) : ∀ (t : T) (i : Nat), t.rep st.N st.V i → (∀ a, a < st.N.length → 0 ≤ (pget st.N a).fn → tmU st.N κ μ a = .mk (pget st.N a).fn ((pget st.N a).args.map (tmU st.N κ μ))) → t.apv (sgV st κ μ) = tmU st.N κ μ i
  | .mk f l, i, hr, hc => by
    rw [T.rep] at hr
    obtain ⟨h1, h2, h3⟩ := hr
    by_cases hf : f < 0
    · rw [apv_var hf, ← h2]; exact sgV_part hs ho h h1 (by omega)
    · rw [if_neg hf] at h3
      rw [apv_sym hf, hc i h1 (by omega), h2, repL_sg hs ho h l _ h3 hc]
theorem repL_sg (hs : NetOk st) (ho : VarOne st) (h : Mu st.N κ μ) : ∀ (l : List T) (q : List Nat), T.repL st.N st.V l q → (∀ a, a < st.N.length → 0 ≤ (pget st.N a).fn → tmU st.N κ μ a = .mk (pget st.N a).fn ((pget st.N a).args.map (tmU st.N κ μ))) → l.map (T.apv (sgV st κ μ)) = q.map (tmU st.N κ μ)
  | [], [], _, _ => rfl
  | t :: r, a :: q, hr, hc => by
    rw [T.repL] at hr
    rw [List.map_cons, List.map_cons, rep_sg hs ho h t a hr.1 hc, repL_sg hs ho h r q hr.2 hc]
  | [], _ :: _, hr, _ => by rw [T.repL] at hr; exact hr.elim
  | _ :: _, [], hr, _ => by rw [T.repL] at hr; exact hr.elim
end
/-- A part with a symbol becomes that symbol of what its own arguments become. -/
theorem tmU_own (hk : KCl st.N κ) (h : Mu st.N κ μ) (a : Nat) (ha : a < st.N.length) (h0 : 0 ≤ (pget st.N a).fn) : tmU st.N κ μ a = .mk (pget st.N a).fn ((pget st.N a).args.map (tmU st.N κ μ)) := by
  rw [tmU_eq h ha]
  have h1 : 0 ≤ (pget st.N (κ a)).fn := by
    by_cases q : (pget st.N (κ a)).fn < 0
    · have := hk.ok.top a q; omega
    · omega
  obtain ⟨z1, z2, z3⟩ := (hk.cld h.nok).dec (i := κ a) (j := a) (hk.ok.idem a) h1 h0
  rw [z1]
  congr 1
  exact map_pair _ _ _ _ z2 (fun k hk2 => unU_same (z3 k hk2))
end
end Go.Proofs.Ytibncmnmjhimeaa

/- Maps from integers: entries in the order in which they were laid, whatever the values are; ranges over them. -/
namespace Go.Proofs.Ytibncmnmjhimeaa
open Go.RowKit Go
set_option linter.unusedVariables false
set_option linter.unusedSimpArgs false
/-- What lies in a block. -/
def ObjAt (w : World) (b : Nat) (o : Obj) : Prop := w.heap[b]? = some o
section
variable {w w' : World} {b g : Nat} {o : Obj}
theorem ObjAt.lt (h : ObjAt w b o) : b < w.heap.size := (Array.getElem?_eq_some_iff.1 h).1
theorem ObjAt.chg {S : Nat → Prop} (h : ObjAt w b o) (hc : Chg S w w') (hb : ¬ S b) : ObjAt w' b o := (hc.block b h.lt hb).trans h
theorem ObjAt.below (h : ObjAt w b o) (hb : Below w.heap.size w w') : ObjAt w' b o := (hb.block b h.lt).trans h
theorem ObjAt.upd (h : ObjAt w b o) (hu : Upd g w w') (hne : b ≠ g) : ObjAt w' b o := (hu.block b hne).trans h
theorem ObjAt.neBlk {t : TypeId} {cs : Array Value} {es : Array MapEntry} {clock : Nat} (h : ObjAt w b (.map es clock)) (hB : Blk w g t cs) : g ≠ b := by
  rintro rfl; unfold ObjAt at h; unfold Blk at hB; rw [h] at hB; cases hB
end
section
variable {P : Program} {w : World} {t k e : TypeId} {kd : IntKind} {r : Nat} {es : Array MapEntry} {clock : Nat} {l : List (Int × Value)}
theorem run_getObj_im (h : ObjAt w r (.map es clock)) : (getObj r).run P w = .ok (.map es clock) w := by
  unfold ObjAt at h; simp [getObj, Sem.run, h]
theorem run_setObj_im (h : ObjAt w r (.map es clock)) (o : Obj) : (setObj r o).run P w = .ok () { w with heap := w.heap.setIfInBounds r o } := by
  unfold ObjAt at h; simp [setObj, Sem.run, h]
theorem upd_setObj (h : ObjAt w r (.map es clock)) (o : Obj) : Upd r w { w with heap := w.heap.setIfInBounds r o } ∧ ObjAt { w with heap := w.heap.setIfInBounds r o } r o :=
  ⟨⟨rfl, rfl, rfl, by simp, fun k hk => by simp [Ne.symm hk]⟩, by have := h.lt; simp [ObjAt, this]⟩
variable {a : Act} {K : Act → World → Prop} {Q : Exit → Act → World → Prop} {o : Oper}
theorem map_eraseIdx' {α β : Type} (f : α → β) : ∀ (l : List α) (i : Nat), (l.eraseIdx i).map f = (l.map f).eraseIdx i
  | [], _ => rfl
  | _ :: _, 0 => rfl
  | x :: l, i + 1 => by rw [List.eraseIdx_cons_succ, List.map_cons, List.map_cons, List.eraseIdx_cons_succ, map_eraseIdx' f l i]
/-- A new map. -/
def NewMap (w : World) (v : Value) (w' : World) : Prop := ∃ g, v = .map (some g) ∧ w.heap.size = g ∧ ObjAt w' g (.map #[] 0) ∧ Below w.heap.size w w' ∧ w'.heap.size = g + 1
theorem wp_makeMap_im (ho : o.op = .makeMap t none) (hK : ∀ v w', NewMap w v w' → K (a.put o.dst v) w') : o.wp P a w K Q := by
  have := hK (.map (some w.heap.size)) (w.alloc (.map #[] 0)) ⟨_, rfl, rfl, heap_alloc_new w _, balloc _ _, by simp⟩
  unfold Oper.wp execOp
  simp only [ho]
  go_simp
  exact this
end
end Go.Proofs.Ytibncmnmjhimeaa

/- Ranges over maps from integers: what is handed out, in whatever order. -/
namespace Go.Proofs.Ytibncmnmjhimeaa
open Go.RowKit Go
set_option linter.unusedVariables false
set_option linter.unusedSimpArgs false
section
variable {P : Program} {w : World} {t k e : TypeId} {kd : IntKind} {r it : Nat} {es : Array MapEntry} {clock : Nat} {l done rest : List (Int × Value)} {seen : Array Nat}
theorem leftOf_nil : leftOf es #[] = es := by
  unfold leftOf
  rw [Array.filter_eq_self]
  intro e _; simp
theorem filter_drop_one {α : Type} [DecidableEq Nat] (f : α → Nat) : ∀ (l : List α) (j : Nat) (hj : j < l.length), (l.map f).Nodup → l.filter (fun x => !(f x == f l[j])) = l.eraseIdx j
  | x :: l, 0, _, h => by
    rw [List.map_cons, List.nodup_cons] at h
    have : l.filter (fun y => !(f y == f x)) = l := by
      rw [List.filter_eq_self]
      intro y hy
      have : f y ≠ f x := fun e => h.1 (e ▸ List.mem_map_of_mem hy)
      simpa using this
    simp [this]
  | x :: l, j + 1, hj, h => by
    rw [List.map_cons, List.nodup_cons] at h
    have hj' : j < l.length := by simpa using hj
    have hx : f x ≠ f l[j] := fun e => h.1 (e ▸ List.mem_map_of_mem (List.getElem_mem hj'))
    have := filter_drop_one f l j hj' h.2
    simp [hx, this]
theorem perm_erase {α : Type} : ∀ (l : List α) (j : Nat) (hj : j < l.length), l.Perm (l[j] :: l.eraseIdx j)
  | x :: l, 0, _ => by simp
  | x :: l, j + 1, hj => by
    have := perm_erase l j (by simpa using hj)
    simp only [List.getElem_cons_succ, List.eraseIdx_cons_succ]
    exact (this.cons x).trans (List.Perm.swap _ _ _)
variable {a : Act} {K : Act → World → Prop} {Q : Exit → Act → World → Prop} {o : Oper}
/-- A new range. -/
def NewIt (w : World) (r clock : Nat) (v : Value) (w' : World) : Prop := ∃ g, v = .pointer (some ⟨g, 0, none⟩) ∧ w.heap.size = g ∧ ObjAt w' g (.mapIter (some r) clock #[] clock) ∧ Below w.heap.size w w' ∧ w'.heap.size = g + 1
theorem wp_range_im {x : Operand} (ht : P.underlying t = some (.map k e)) (hM : ObjAt w r (.map es clock)) (ho : o.op = .range t x) (hx : a.eval x = .map (some r)) (hK : ∀ v w', NewIt w r clock v w' → K (a.put o.dst v) w') : o.wp P a w K Q := by
  have := hK (.pointer (some ⟨w.heap.size, 0, none⟩)) (w.alloc (.mapIter (some r) clock #[] clock)) ⟨_, rfl, rfl, heap_alloc_new w _, balloc _ _, by simp⟩
  unfold Oper.wp execOp
  simp only [ho, hx]
  simp only [Sem.run_bind, run_range_map w t k e r es clock ht hM, Result.andThen_ok]
  exact this
end
end Go.Proofs.Ytibncmnmjhimeaa

/- Pointers to terms, in blocks that are told. -/
namespace Go.Proofs.Ytibncmnmjhimeaa
open Go.RowKit Go
set_option linter.unusedVariables false
set_option linter.unusedSimpArgs false
/-- A pointer to a term, all in blocks of 'S'. -/
def InTp (S : Nat → Prop) (w : World) (t : T) (v : Value) : Prop := ∃ (b o : Nat) (a : Option Addr) (c : Nat), v = .pointer (some ⟨b, o, none⟩) ∧ S b ∧ w.cell? ⟨b, o, none⟩ = some (.int .i64 t.f) ∧ w.cell? ⟨b, o + 1, none⟩ = some (.slice a t.args.length c) ∧ InT S w t (.agg #[.int .i64 t.f, .slice a t.args.length c])
section
variable {S S' : Nat → Prop} {w w' : World} {t : T} {v : Value}
/-- An argument of a term that is pointed at. -/
theorem InTp.arg {b o : Nat} {a : Option Addr} {c : Nat} (h : InT S w t (.agg #[.int .i64 t.f, .slice a t.args.length c])) (k : Nat) (hk : k < t.args.length) : ∃ b o, a = some ⟨b, o, none⟩ ∧ InTp S w (tget t.args k) (.pointer (some ⟨b, o + k * 2, none⟩)) := by
  obtain ⟨_, a', c', e, _, _, h3⟩ := h.form
  simp only [Value.agg.injEq, Array.mk.injEq, List.cons.injEq, and_true, Value.slice.injEq, true_and] at e
  obtain ⟨rfl, rfl⟩ := e
  obtain ⟨b, o, u, v, rfl, h4, h5, h6, h7⟩ := h3.at_ k hk
  obtain ⟨_, a2, c2, e2, _⟩ := h7.form
  simp only [Value.agg.injEq, Array.mk.injEq, List.cons.injEq, and_true] at e2
  obtain ⟨rfl, rfl⟩ := e2
  rw [tget_lt hk]
  exact ⟨b, o, rfl, b, _, a2, c2, rfl, h4, h5, h6, h7⟩
end
section
variable {α β : Type} {E : Elt α} {E2 : Elt β} {w w' : World} {B B2 e e2 c c2 n n2 : Nat} {a a2 : Option Addr} {l : List α} {l2 : List β}
theorem RowE.neBlk {g ty : Nat} {cs : Array Value} (h : RowE E w B e a c n l) (hB : Blk w g ty cs) (he : e ≠ ty) : (Value.slice a n c).ownBlock ≠ some g := by
  intro hb
  obtain ⟨⟨xs, h1, _⟩, _⟩ := h
  rcases h1.2 with ⟨e1, _⟩ | ⟨g', cap, cur, e1, _, r1, _⟩
  · rw [e1] at hb; cases hb
  · rw [e1] at hb
    obtain rfl : g' = g := by simpa [Value.ownBlock] using hb
    unfold Blk at hB
    have := r1.symm.trans hB
    simp at this
    exact he this.2
end
section
variable {α : Type} {E : Elt α} {P : Program} {w : World} {a : Act} {K : Act → World → Prop} {Q : Exit → Act → World → Prop} {o : Oper}
end
end Go.Proofs.Ytibncmnmjhimeaa

/- Rows of one's own whose elements lie in blocks that are told. -/
namespace Go.Proofs.Ytibncmnmjhimeaa
open Go.RowKit Go
set_option linter.unusedVariables false
set_option linter.unusedSimpArgs false
section
variable {α β : Type} {E : Elt α} {E2 : Elt β} {S S' : Nat → Prop} {w w' : World} {e e2 c c2 n n2 : Nat} {a a2 : Option Addr} {l : List α} {l2 : List β}
/-- A row of one's own: its elements lie in blocks of 'S', none of which is the row's. -/
structure RowD (E : Elt α) (S : Nat → Prop) (w : World) (e : Nat) (a : Option Addr) (c n : Nat) (l : List α) : Prop where
  row : ∃ xs, w.ownsRow 0 e E.k (.slice a n c) n xs ∧ Elts E S w l xs
  len : n = l.length
  ne : ∀ b, S b → (Value.slice a n c).ownBlock ≠ some b
theorem RowD.nil : RowD E S w e none 0 0 ([] : List α) := ⟨⟨[], World.ownsRow_nil _ _ _ _, rfl⟩, rfl, fun _ _ h => (nomatch h)⟩
theorem RowD.rowE (h : RowD E S w e a c n l) : RowE E w 0 e a c n l := by
  obtain ⟨⟨xs, h1, h2⟩, h3, h4⟩ := h
  exact ⟨⟨xs, h1, Elts.mono (fun b hb _ => ⟨Nat.zero_le _, h4 b hb⟩) h2⟩, h3⟩
theorem RowD.lt (h : RowD E S w e a c n l) : ∀ b, (Value.slice a n c).ownBlock = some b → b < w.heap.size := fun b hb => (h.rowE.lt b hb).2
theorem RowD.mono (h : RowD E S w e a c n l) (hb : ∀ b, S b → b < w.heap.size → S' b) (hne : ∀ b, S' b → (Value.slice a n c).ownBlock ≠ some b) : RowD E S' w e a c n l := by
  obtain ⟨⟨xs, h1, h2⟩, h3, h4⟩ := h
  exact ⟨⟨xs, h1, Elts.mono hb h2⟩, h3, hne⟩
/-- Blocks of the row and of its elements are as they were. -/
theorem RowD.chg {Z : Nat → Prop} (h : RowD E S w e a c n l) (hc : Chg Z w w') (h1 : ∀ b, (Value.slice a n c).ownBlock = some b → ¬ Z b) (h2 : ∀ b, S b → ¬ Z b) : RowD E S w' e a c n l := by
  obtain ⟨⟨xs, k1, k2⟩, k3, k4⟩ := h
  refine ⟨⟨xs, ⟨k1.1, k1.2.imp id ?_⟩, Elts.keep (fun p v hp hv => ?_) k2⟩, k3, k4⟩
  · rintro ⟨g, cap, cur, e1, e2, e3, r⟩
    refine ⟨g, cap, cur, e1, e2, ?_, r⟩
    rw [hc.block g (Array.getElem?_eq_some_iff.1 e3).1 (h1 g (by rw [e1]; rfl))]; exact e3
  · have hb := World.block_lt_of_cell? _ _ hv
    unfold World.cell? at hv ⊢
    rw [hc.block p.block hb (h2 _ hp)]; exact hv
theorem RowD.below (h : RowD E S w e a c n l) (hb : Below w.heap.size w w') : RowD E S w' e a c n l := h.chg (Z := fun _ => False) (.ofBelow hb) (fun _ _ => id) (fun _ _ => id)
theorem RowD.inRow (h : RowD E S w e a c n l) : InRow E (fun _ => True) w l a ∧ n ≤ c ∧ c ≤ maxLen := by
  obtain ⟨h1, h2, h3, h4⟩ := h.rowE.inRow
  rcases Nat.eq_zero_or_pos E.k with hk | hk
  · exact ⟨fun i hi => by
      obtain ⟨b, o, cs, e1, _, e3, e4⟩ := h1 i hi
      exact ⟨b, o, cs, e1, trivial, E.mono (fun _ _ _ => trivial) e3, e4⟩, h3, h4⟩
  · exact ⟨h1.mono hk (fun _ _ _ => trivial), h3, h4⟩
theorem Elts.take : ∀ {l : List α} {xs : List Value} (k : Nat), Elts E S w l xs → Elts E S w (l.take k) (xs.take (k * E.k))
  | [], xs, k, h => by have : xs = [] := h; subst this; simp; exact rfl
  | x :: l, xs, 0, _ => by simp; exact rfl
  | x :: l, xs, k + 1, ⟨cs, r, e, h3, h4⟩ => by
    subst e
    refine ⟨cs, r.take (k * E.k), ?_, h3, Elts.take k h4⟩
    rw [List.take_append, E.len h3, Nat.add_mul, Nat.one_mul, Nat.add_sub_cancel, List.take_of_length_le (by rw [E.len h3]; omega)]
theorem RowD.take (h : RowD E S w e a c n l) (k : Nat) (hk : k ≤ n) : RowD E S w e a c k (l.take k) := by
  obtain ⟨⟨xs, h1, h2⟩, rfl, h4⟩ := h
  refine ⟨⟨xs.take (k * E.k), ⟨by rw [List.length_take, h1.1]; exact Nat.min_eq_left (Nat.mul_le_mul_right _ hk), ?_⟩, Elts.take k h2⟩, by simp; omega, fun b hb => by
    have := h4 b hb
    cases a <;> exact this⟩
  rcases h1.2 with ⟨e1, h0⟩ | ⟨g, cap, cur, e1, e2, e3, e4, e5, e6, e7⟩
  · simp only [Value.slice.injEq] at e1
    obtain ⟨rfl, e, rfl⟩ := e1
    left
    have : k = 0 := by omega
    subst this
    exact ⟨rfl, by simp⟩
  · right
    simp only [Value.slice.injEq, true_and] at e1
    obtain ⟨rfl, rfl⟩ := e1
    exact ⟨g, _, cur, rfl, e2, e3, by omega, e5, e6, by rw [← e7, List.take_take, Nat.min_eq_left (Nat.mul_le_mul_right _ hk)]⟩
theorem RowD.neBlk {g ty : Nat} {cs : Array Value} (h : RowD E S w e a c n l) (hB : Blk w g ty cs) (he : e ≠ ty) : (Value.slice a n c).ownBlock ≠ some g := h.rowE.neBlk hB he
end
section
variable {α : Type} {E : Elt α} {P : Program} {w : World} {a : Act} {K : Act → World → Prop} {Q : Exit → Act → World → Prop} {o : Oper} {S S2 : Nat → Prop}
/-- One element more, by append. -/
theorem wp_appD {s x : Operand} {t e : Nat} {z : Value} {size bytes n rc g1 : Nat} {ra : Option Addr} {l : List α} {y : α} {cs : List Value} (hk : E.k = size) (ht : P.underlying t = some (.slice e)) (hinfo : (P.info? e).map (fun i => (i.zero, i.size, i.bytes)) = some (some z, size, bytes)) (hzs : z.cells.size = size) (hsz : 0 < size)
    (ho : o.op = .call { callee := .builtin .append, args := #[s, x], argTypes := #[t, t] }) (hs : a.eval s = .slice ra n rc) (hx : a.eval x = .slice (some ⟨g1, 0, none⟩) 1 1) (hrow : RowD E S w e ra rc n l) (hB : Blk w g1 e cs.toArray) (hin : E.In S2 w y cs) (hS2 : ∀ b, S2 b → (Value.slice ra n rc).ownBlock ≠ some b)
    (hb : (n + 1) * bytes ≤ 140737488355328) (hn : n + 1 ≤ 9223372036854775807) (hK : ∀ ra' rc' w', RowD E (fun b => (S b ∨ S2 b) ∧ b < w.heap.size) w' e ra' rc' (n + 1) (l ++ [y]) → Chg (fun b => (Value.slice ra n rc).ownBlock = some b) w w' → (∀ b, (Value.slice ra' (n + 1) rc').ownBlock = some b → (Value.slice ra n rc).ownBlock = some b ∨ w.heap.size ≤ b) → K (a.put o.dst (.slice ra' (n + 1) rc')) w') : o.wp P a w K Q := by
  subst hk
  obtain ⟨⟨xs, h1, h2⟩, rfl, h4⟩ := hrow
  refine wp_app (m := 1) (news := cs) ht hinfo hzs hsz ho hs hx h1 (SrcIs.ofBlk hB) (by rw [E.len hin]; omega) (E.one hin) hb hn (Nat.zero_le _) (fun ra' rc' w' h => hK _ _ _ ?_ ⟨h.grow.os, h.grow.tape, h.grow.output, h.grow.size, fun k hk hSk => h.grow.block k hk (fun e => hSk e.symm)⟩ ?_)
  · have key : ∀ (p : Addr) (v : Value), (Value.slice ra l.length rc).ownBlock ≠ some p.block → w.cell? p = some v → w'.cell? p = some v := fun p v hp hv => h.grow.cell hv (Ne.symm hp)
    have ne2 : ∀ b, (S b ∨ S2 b) → (Value.slice ra l.length rc).ownBlock ≠ some b := fun b q => q.elim (h4 b) (hS2 b)
    refine ⟨⟨xs ++ cs, h.own, ?_⟩, by simp, fun b hb e => ?_⟩
    · refine Elts.keep (w := w) (fun p v hp hv => key p v (ne2 _ hp.1) hv) ?_
      exact Elts.snoc (E.mono (fun b hb hlt => ⟨.inr hb, hlt⟩) hin) (Elts.mono (fun b hb hlt => ⟨.inl hb, hlt⟩) h2)
    · rcases h.at_ with e2 | e2
      · exact ne2 b hb.1 (e2 ▸ e)
      · rw [e2] at e; have := Option.some.inj e; have := hb.2; omega
  · intro b hb
    rcases h.at_ with e2 | e2
    · exact .inl (e2 ▸ hb)
    · rw [e2] at hb; exact .inr (Nat.le_of_eq (Option.some.inj hb))
end
end Go.Proofs.Ytibncmnmjhimeaa

/- Parts in memory: rows of numbers, rows of parts; numbers written in place. -/
namespace Go.Proofs.Ytibncmnmjhimeaa
open Go.RowKit Go
set_option linter.unusedVariables false
set_option linter.unusedSimpArgs false
/-- Numbers, as elements. -/
def eltN : Elt Nat where
  k := 1
  In := fun _ _ x cs => cs = [.int .i64 (x : Int)]
  keep := fun _ h => h
  mono := fun _ h => h
  len := fun h => by rw [h]; rfl
  one := fun h v hv => by rw [h] at hv; simp at hv; subst hv; rfl
/-- Parts, as elements: the arguments' numbers lie in blocks of 'S'. -/
def eltP : Elt Pt where
  k := 2
  In := fun S w x cs => ∃ a c, cs = [.int .i64 x.fn, .slice a x.args.length c] ∧ InRow eltN S w x.args a
  keep := fun hb ⟨a, c, e, h⟩ => ⟨a, c, e, h.keep hb⟩
  mono := fun hb ⟨a, c, e, h⟩ => ⟨a, c, e, h.mono (by decide) hb⟩
  len := fun ⟨_, _, e, _⟩ => by rw [e]; rfl
  one := fun ⟨_, _, e, _⟩ v hv => by
    rw [e] at hv
    simp only [List.mem_cons, List.not_mem_nil, or_false] at hv
    rcases hv with rfl | rfl <;> rfl
section
variable {S : Nat → Prop} {w w' : World} {a : Option Addr} {c n e : Nat}
theorem InRow.openN {l : List Nat} (h : InRow eltN S w l a) : ∃ b o : Nat, (∀ k, k < l.length → a = some ⟨b, o, none⟩) ∧ ∀ k, k < l.length → w.cell? ⟨b, o + k, none⟩ = some (.int .i64 ((aget l k : Nat) : Int)) := by
  rcases Nat.eq_zero_or_pos l.length with h0 | h0
  · exact ⟨0, 0, fun k hk => by omega, fun k hk => by omega⟩
  · obtain ⟨b, o, _, ha, _⟩ := h 0 h0
    refine ⟨b, o, fun _ _ => ha, fun k hk => ?_⟩
    obtain ⟨b2, o2, cs, e1, _, h3, h4⟩ := h k hk
    rw [ha] at e1
    simp only [Option.some.injEq, Addr.mk.injEq, and_true] at e1
    obtain ⟨rfl, rfl⟩ := e1
    have h3' : cs = [.int .i64 ((l[k] : Nat) : Int)] := h3
    subst h3'
    rw [aget_lt hk]
    have := h4 0 (by decide)
    simpa [eltN] using this
/-- A row of numbers of one's own, in its block. -/
theorem RowD.blkN {l : List Nat} (h : RowD eltN S w e a c n l) (h0 : 0 < n) : ∃ (b : Nat) (cs : Array Value), a = some ⟨b, 0, none⟩ ∧ (Value.slice a n c).ownBlock = some b ∧ Blk w b e cs ∧ n ≤ cs.size ∧ (∀ k, k < n → w.cell? ⟨b, 0 + k, none⟩ = some (.int .i64 ((aget l k : Nat) : Int))) ∧
    ∀ (k : Nat) (v : Nat), k < n → RowD eltN S (w.setCell ⟨b, 0 + k, none⟩ (.int .i64 (v : Int))) e a c n (l.set k v) := by
  obtain ⟨⟨xs, h1, h2⟩, rfl, h4⟩ := h
  rcases h1.2 with ⟨e1, e2⟩ | ⟨g, cap, cur, e1, _, hb, hc, hm, hs, hx⟩
  · omega
  · have e1' := e1
    simp only [Value.slice.injEq, true_and] at e1'
    obtain ⟨rfl, rfl⟩ := e1'
    have hxs : ∀ (l : List Nat) (xs : List Value), Elts eltN S w l xs → xs = l.map (fun x : Nat => Value.int .i64 (x : Int)) := by
      intro l
      induction l with
      | nil => intro xs h; exact h
      | cons x r ih =>
        intro xs h
        obtain ⟨cs, q, e, k1, k2⟩ := h
        have k1' : cs = [.int .i64 (x : Int)] := k1
        rw [e, k1', ih q k2]; rfl
    have hX := hxs l xs h2
    have hl : l.length ≤ cur.size := by rw [hs]; show l.length ≤ c * 1; omega
    have hin : ∀ k, k < l.length → cur[k]? = some (.int .i64 ((aget l k : Nat) : Int)) := fun k hk => by
      have := congrArg (fun q => q[k]?) hx
      simp only [hX] at this
      rw [List.getElem?_take_of_lt (by show k < l.length * 1; omega), Array.getElem?_toList, List.getElem?_map, List.getElem?_eq_getElem hk] at this
      rw [this, aget_lt hk]; rfl
    refine ⟨g, cur, rfl, rfl, hb, hl, fun k hk => ?_, fun k v hk => ?_⟩
    · rw [Nat.zero_add, Blk.cell hb]; exact hin k hk
    · rw [Nat.zero_add]
      have hB' := Blk.set_ (show Blk w g e cur from hb) k (.int .i64 (v : Int))
      refine ⟨⟨(l.set k v).map (fun x : Nat => Value.int .i64 (x : Int)), ⟨?_, .inr ⟨g, c, cur.setIfInBounds k (.int .i64 (v : Int)), rfl, Nat.zero_le _, hB', hc, hm, by simpa using hs, ?_⟩⟩, ?_⟩, by simp, h4⟩
      · have := h1.1; rw [hX] at this; simpa using this
      · rw [Array.toList_setIfInBounds, List.take_set, hx, hX, List.map_set]
      · have : ∀ (w : World) (l : List Nat), Elts eltN S w l (l.map (fun x : Nat => Value.int .i64 (x : Int))) := by
          intro w l
          induction l with
          | nil => rfl
          | cons x r ih => exact ⟨_, _, rfl, rfl, ih⟩
        exact this _ _
theorem InRow.chgS {α : Type} {E : Elt α} {S2 : Nat → Prop} {l : List α} (h : InRow E S w l a) (hc : Chg S2 w w') (hS : ∀ b, S b → ¬ S2 b) : InRow E S w' l a := h.keep (fun p v hp hv => by
  have hb := World.block_lt_of_cell? _ _ hv
  unfold World.cell? at hv ⊢
  rw [hc.block p.block hb (hS _ hp)]; exact hv)
end
/-- What stands for parts, by links: each link leads nearer to what stands for it. -/
structure Reps (U : List Nat) (κ d : Nat → Nat) : Prop where
  at_ : ∀ i, i < U.length → aget U i < U.length ∧ κ (aget U i) = κ i ∧ (aget U i = i ∨ d (aget U i) < d i) ∧ (aget U i = i → κ i = i)
theorem aget_set {l : List Nat} {i v k : Nat} (hi : i < l.length) : aget (l.set i v) k = if k = i then v else aget l k := by
  unfold aget
  rw [List.getD_eq_getElem?_getD, List.getD_eq_getElem?_getD, List.getElem?_set]
  by_cases h : i = k
  · subst h; rw [if_pos rfl, if_pos rfl, if_pos hi]; rfl
  · rw [if_neg h, if_neg (Ne.symm h)]
theorem Reps.merge {U : List Nat} {κ d : Nat → Nat} (h : Reps U κ d) {a b : Nat} (ha : a < U.length) (hb : b < U.length) (hka : κ a = a) (hkb : κ b = b) (hab : a ≠ b) (hid : ∀ i, κ (κ i) = κ i) : Reps (U.set b a) (mrg κ b a) (fun x => if κ x = b then d x + d a + 1 else d x) := by
  refine ⟨fun k hk => ?_⟩
  rw [List.length_set] at hk ⊢
  rw [aget_set hb]
  by_cases e : k = b
  · subst e
    rw [if_pos rfl]
    refine ⟨ha, ?_, .inr ?_, fun q => absurd q hab⟩
    · unfold mrg; rw [hka, if_neg hab, hkb, if_pos rfl]
    · rw [hka, if_neg hab, hkb, if_pos rfl]; omega
  · rw [if_neg e]
    obtain ⟨a1, a2, a3, a4⟩ := h.at_ k hk
    refine ⟨a1, by unfold mrg; rw [a2], ?_, fun q => ?_⟩
    · rw [a2]
      rcases a3 with q | q
      · exact .inl q
      · right; split <;> omega
    · have := a4 q
      unfold mrg; rw [this, if_neg e]
theorem Reps.push {U : List Nat} {κ d : Nat → Nat} (h : Reps U κ d) (hb : ∀ i, U.length ≤ i → κ i = i) : Reps (U ++ [U.length]) κ d := by
  refine ⟨fun k hk => ?_⟩
  rw [List.length_append] at hk ⊢
  by_cases hl : k < U.length
  · have e : aget (U ++ [U.length]) k = aget U k := by unfold aget; rw [List.getD_eq_getElem?_getD, List.getD_eq_getElem?_getD, List.getElem?_append_left hl]
    rw [e]
    obtain ⟨a1, a2, a3, a4⟩ := h.at_ k hl
    exact ⟨by omega, a2, a3, a4⟩
  · have hk' : k < U.length + 1 := hk
    obtain rfl : k = U.length := by omega
    have e : aget (U ++ [U.length]) U.length = U.length := by unfold aget; rw [List.getD_eq_getElem?_getD, List.getElem?_append_right (Nat.le_refl _)]; simp
    rw [e]
    exact ⟨by simp, rfl, .inl rfl, fun _ => hb _ (Nat.le_refl _)⟩
end Go.Proofs.Ytibncmnmjhimeaa

/- Rows of numbers: opened, one's own. -/
namespace Go.Proofs.Ytibncmnmjhimeaa
open Go.RowKit Go
set_option linter.unusedVariables false
set_option linter.unusedSimpArgs false
abbrev obk (a : Option Addr) (n c : Nat) : Option Nat := (Value.slice a n c).ownBlock
section
variable {S : Nat → Prop} {w w' : World} {a : Option Addr} {c n e : Nat}
theorem RowD.opn {α : Type} {E : Elt α} {l : List α} (h : RowD E S w e a c n l) (h0 : 0 < n) : ∃ b : Nat, a = some ⟨b, 0, none⟩ ∧ obk a n c = some b ∧ ∀ k (hk : k < l.length), ∃ cs, E.In S w l[k] cs ∧ ∀ j, j < E.k → w.cell? ⟨b, 0 + k * E.k + j, none⟩ = cs[j]? := by
  obtain ⟨⟨xs, h1, h2⟩, rfl, _⟩ := h
  rcases h1.2 with ⟨_, e2⟩ | ⟨g, cap, cur, e1, _, hb, hc, _, hs, hx⟩
  · omega
  simp only [Value.slice.injEq, true_and] at e1
  obtain ⟨rfl, rfl⟩ := e1
  refine ⟨g, rfl, rfl, fun k hk => ?_⟩
  obtain ⟨cs, h3, h4⟩ := h2.at_ k hk
  refine ⟨cs, h3, fun j hj => ?_⟩
  rw [Nat.zero_add, Blk.cell (show Blk w g e cur from hb), ← h4 j hj, ← hx, List.getElem?_take_of_lt (by
    have : k * E.k + E.k ≤ l.length * E.k := by rw [← Nat.succ_mul]; exact Nat.mul_le_mul_right _ hk
    omega), Array.getElem?_toList]
theorem InRow.openNS {l : List Nat} (h : InRow eltN S w l a) : ∃ b o : Nat, (∀ k, k < l.length → a = some ⟨b, o, none⟩) ∧ (∀ k, k < l.length → S b) ∧ ∀ k, k < l.length → w.cell? ⟨b, o + k, none⟩ = some (.int .i64 ((aget l k : Nat) : Int)) := by
  rcases Nat.eq_zero_or_pos l.length with h0 | h0
  · exact ⟨0, 0, fun k hk => by omega, fun k hk => by omega, fun k hk => by omega⟩
  · obtain ⟨b, o, hh1, hh2⟩ := h.openN
    refine ⟨b, o, hh1, fun _ _ => ?_, hh2⟩
    obtain ⟨b2, o2, _, e1, hS, _⟩ := h 0 h0
    rw [hh1 0 h0] at e1
    simp only [Option.some.injEq, Addr.mk.injEq, and_true] at e1
    obtain ⟨rfl, rfl⟩ := e1
    exact hS
theorem RowD.inRowOwn {e c n : Nat} {a : Option Addr} {l : List Nat} {S : Nat → Prop} (h : RowD eltN S w e a c n l) : InRow eltN (fun b => obk a n c = some b) w l a := by
  intro i hi
  have hn := h.len
  obtain ⟨b, cs, e1, e2, _, _, hc, _⟩ := h.blkN (by omega)
  refine ⟨b, 0, [.int .i64 ((l[i] : Nat) : Int)], e1, e2, rfl, fun j hj => ?_⟩
  have hj' : j < 1 := hj
  obtain rfl : j = 0 := by omega
  have := hc i (by omega)
  rw [aget_lt hi] at this
  show w.cell? ⟨b, 0 + i * 1 + 0, none⟩ = _
  rw [Nat.mul_one, Nat.add_zero]; exact this
end
end Go.Proofs.Ytibncmnmjhimeaa

/- The program's net in memory. -/
namespace Go.Proofs.Ytibncmnmjhimeaa
open Go.RowKit Go
set_option linter.unusedVariables false
set_option linter.unusedSimpArgs false
section
variable {ua oa : Option Addr} {un uc on oc : Nat} {V : Nat → Nat}
end
section
variable {w w' : World} {g uc oc : Nat} {S : Nat → Prop} {ua oa : Option Addr} {U : List Nat} {N : List Pt} {V : Nat → Nat}
end
section
variable {w w' : World} {g : Nat} {Z : Nat → Prop} {U : List Nat} {N : List Pt} {V : Nat → Nat}
end
end Go.Proofs.Ytibncmnmjhimeaa

/- The program's net in memory while a part is added. -/
namespace Go.Proofs.Ytibncmnmjhimeaa
open Go.RowKit Go
set_option linter.unusedVariables false
set_option linter.unusedSimpArgs false
section
variable {w w' : World} {g uc oc : Nat} {S S2 : Nat → Prop} {bu bo : Option Addr × Nat × Nat} {ua oa : Option Addr} {U : List Nat} {N : List Pt} {V : Nat → Nat}
end
end Go.Proofs.Ytibncmnmjhimeaa

/- The program's net in memory: what operations leave. -/
namespace Go.Proofs.Ytibncmnmjhimeaa
open Go.RowKit Go
set_option linter.unusedVariables false
set_option linter.unusedSimpArgs false
section
variable {w w' : World} {B g : Nat} {Z Z2 X X2 : Nat → Prop} {κ d : Nat → Nat} {U : List Nat} {N : List Pt} {V : Nat → Nat}
theorem chg_fresh {w0 : World} (h : Chg Z w0 w) (k : Chg Z2 w w') (hz : ∀ b, Z2 b → Z b ∨ w0.heap.size ≤ b) : Chg Z w0 w' :=
  ⟨k.os.trans h.os, k.tape.trans h.tape, k.output.trans h.output, Nat.le_trans h.size k.size, fun b hb hn => (k.block b (Nat.lt_of_lt_of_le hb h.size) (fun q => by rcases hz b q with z | z; exact hn z; omega)).trans (h.block b hb hn)⟩
end
end Go.Proofs.Ytibncmnmjhimeaa

/- Joining, plain: how much is to be done; pairs of numbers in memory. -/
namespace Go.Proofs.Ytibncmnmjhimeaa
open Go.RowKit Go
set_option linter.unusedVariables false
set_option linter.unusedSimpArgs false
/-- How many arguments the parts have that stand for others. -/
def aSum (N : List Pt) (κ : Nat → Nat) : Nat := ((List.range N.length).map (fun i => if κ i = i then (pget N i).args.length else 0)).sum
/-- How many arguments all parts have. -/
def argN (N : List Pt) : Nat := (N.map (fun p => p.args.length)).sum
theorem sum_point {f g : Nat → Nat} {b : Nat} : ∀ (n : Nat), b < n → (∀ i, i < n → i ≠ b → f i = g i) → ((List.range n).map f).sum + g b = ((List.range n).map g).sum + f b
  | 0, h, _ => by omega
  | n + 1, h, hh => by
    rw [List.range_succ, List.map_append, List.map_append, List.sum_append, List.sum_append]
    simp only [List.map_cons, List.map_nil, List.sum_cons, List.sum_nil, Nat.add_zero]
    rcases Nat.lt_or_ge b n with q | q
    · have := sum_point n q (fun i hi => hh i (by omega))
      have e := hh n (by omega) (by omega)
      omega
    · have e : b = n := by omega
      subst e
      have : (List.range b).map f = (List.range b).map g := List.map_congr_left (fun i hi => hh i (by have := List.mem_range.1 hi; omega) (by have := List.mem_range.1 hi; omega))
      rw [this]; omega
theorem mrg_point {κ : Nat → Nat} {a b : Nat} (ha : κ a = a) (hb : κ b = b) (hab : a ≠ b) (i : Nat) : mrg κ b a i = i ↔ κ i = i ∧ i ≠ b := by
  unfold mrg
  by_cases h : κ i = b
  · rw [if_pos h]
    constructor
    · intro e; subst e; exact absurd (ha.symm.trans h) hab
    · intro ⟨e1, e2⟩; exact absurd (e1.symm.trans h) e2
  · rw [if_neg h]
    exact ⟨fun e => ⟨e, fun q => h (by rw [q]; exact hb)⟩, fun e => e.1⟩
theorem aSum_mrg {N : List Pt} {κ : Nat → Nat} {a b : Nat} (ha : κ a = a) (hb : κ b = b) (hab : a ≠ b) (hl : b < N.length) : aSum N (mrg κ b a) + (pget N b).args.length = aSum N κ := by
  have := sum_point (f := fun i => if mrg κ b a i = i then (pget N i).args.length else 0) (g := fun i => if κ i = i then (pget N i).args.length else 0) (b := b) N.length hl (fun i _ hi => by
    have := mrg_point ha hb hab i
    by_cases h : κ i = i
    · rw [if_pos h, if_pos (this.2 ⟨h, hi⟩)]
    · rw [if_neg h, if_neg (fun q => h (this.1 q).1)])
  unfold aSum
  rw [if_pos hb] at this
  have hn : ¬ mrg κ b a b = b := fun q => ((mrg_point ha hb hab b).1 q).2 rfl
  rw [if_neg hn] at this
  omega
theorem stepM_sum {N : List Pt} {κ κ' : Nat → Nat} {a b : Nat} {ps : List (Nat × Nat)} (ha : κ a = a) (hb : κ b = b) (hab : a ≠ b) (hla : a < N.length) (hlb : b < N.length) (h : stepM N κ a b = some (κ', ps)) : aSum N κ' + ps.length ≤ aSum N κ := by
  rcases stepM_cases h with ⟨rfl, rfl, _⟩ | ⟨rfl, rfl, _⟩ | ⟨rfl, rfl, _, _, _, h5⟩
  · have := aSum_mrg hb ha (Ne.symm hab) hla; simp; omega
  · have := aSum_mrg ha hb hab hlb; simp; omega
  · have := aSum_mrg ha hb hab hlb; rw [List.length_zip]; omega
theorem argN_app (N : List Pt) (x : Pt) : argN (N ++ [x]) = argN N + x.args.length := by unfold argN; rw [List.map_append, List.sum_append]; simp
theorem var_argN {st : NS} {f : Int} : argN (st.var f).1.N ≤ argN st.N := by
  unfold NS.var
  split
  · exact Nat.le_refl _
  · dsimp only; rw [argN_app]; exact Nat.le_refl _
mutual
theorem put_argN : ∀ (t : T) (st : NS), NetOk st → argN (t.put st).1.N + 1 ≤ argN st.N + t.size
  | .mk f l, st, h => by
    rw [T.put, T.size]
    split
    · have := var_argN (st := st) (f := f); omega
    · have := putL_argN l st h
      dsimp only
      rw [argN_app]
      dsimp only
      omega
theorem putL_argN : ∀ (l : List T) (st : NS), NetOk st → argN (T.putL l st).1.N + (T.putL l st).2.length ≤ argN st.N + T.sizeL l
  | [], st, _ => by rw [T.putL, T.sizeL]; simp
  | t :: r, st, h => by
    have h1 := put_argN t st h
    have h2 := putL_argN r (t.put st).1 (put_ok t st h).1.ok
    rw [T.putL, T.sizeL]
    simp only [List.length_cons]
    omega
end
section
variable {S : Nat → Prop} {w w' : World} {a : Option Addr} {c n e : Nat}
end
theorem zip_take_succ {l m : List Nat} {k : Nat} (hk : k < l.length) (hl : l.length = m.length) : (l.zip m).take (k + 1) = (l.zip m).take k ++ [(aget l k, aget m k)] := by
  have hz : k < (l.zip m).length := by rw [List.length_zip]; omega
  rw [List.take_succ_eq_append_getElem hz, List.getElem_zip, aget_lt hk, aget_lt (by omega)]
end Go.Proofs.Ytibncmnmjhimeaa

/- Measuring, plain: what is asked, what is being asked, what has been told. -/
namespace Go.Proofs.Ytibncmnmjhimeaa
open Go.RowKit Go
set_option linter.unusedVariables false
set_option linter.unusedSimpArgs false
/-- What is known of a part's measure: nothing (0, not open); it is being asked (open); its size and depth. -/
structure Ms where
  sz : Nat
  dp : Nat
  op : Bool
def mget (ms : List Ms) (k : Nat) : Ms := ms.getD k ⟨0, 0, false⟩
theorem mget_lt {ms : List Ms} {k : Nat} (h : k < ms.length) : mget ms k = ms[k] := by simp [mget, h]
theorem mget_ge {ms : List Ms} {k : Nat} (h : ms.length ≤ k) : mget ms k = ⟨0, 0, false⟩ := by simp [mget, h]
theorem mget_set {ms : List Ms} {r k : Nat} {m : Ms} (h : r < ms.length) : mget (ms.set r m) k = if k = r then m else mget ms k := by
  unfold mget
  rw [List.getD_eq_getElem?_getD, List.getElem?_set]
  by_cases e : r = k
  · subst e; rw [if_pos rfl, if_pos h, if_pos rfl]; rfl
  · rw [if_neg e, if_neg (Ne.symm e), List.getD_eq_getElem?_getD]
def unv (m : Ms) : Nat := if m.sz = 0 ∧ m.op = false then 1 else 0
def don (m : Ms) : Nat := if 0 < m.sz then 1 else 0
def unS (ms : List Ms) : Nat := ((List.range ms.length).map (fun k => unv (mget ms k))).sum
def ndS (ms : List Ms) : Nat := ((List.range ms.length).map (fun k => don (mget ms k))).sum
theorem sum_mono {f g : Nat → Nat} : ∀ (n : Nat), (∀ i, f i ≤ g i) → ((List.range n).map f).sum ≤ ((List.range n).map g).sum
  | 0, _ => Nat.le_refl _
  | n + 1, h => by
    rw [List.range_succ, List.map_append, List.map_append, List.sum_append, List.sum_append]
    have := sum_mono n h
    have := h n
    simp only [List.map_cons, List.map_nil, List.sum_cons, List.sum_nil, Nat.add_zero]
    omega
theorem sum_one {f : Nat → Nat} : ∀ (n : Nat), (∀ i, f i ≤ 1) → ((List.range n).map f).sum ≤ n
  | 0, _ => Nat.le_refl _
  | n + 1, h => by
    rw [List.range_succ, List.map_append, List.sum_append]
    have := sum_one n h
    have := h n
    simp only [List.map_cons, List.map_nil, List.sum_cons, List.sum_nil, Nat.add_zero]
    omega
theorem ndS_le (ms : List Ms) : ndS ms ≤ ms.length := sum_one _ (fun i => by unfold don; split <;> omega)
theorem unS_set {ms : List Ms} {r : Nat} {m : Ms} (h : r < ms.length) : unS (ms.set r m) + unv (mget ms r) = unS ms + unv m := by
  have := sum_point (f := fun k => unv (mget (ms.set r m) k)) (g := fun k => unv (mget ms k)) (b := r) ms.length h (fun i _ hi => by rw [mget_set h, if_neg hi])
  unfold unS
  rw [List.length_set]
  rw [mget_set h, if_pos rfl] at this
  exact this
theorem ndS_set {ms : List Ms} {r : Nat} {m : Ms} (h : r < ms.length) : ndS (ms.set r m) + don (mget ms r) = ndS ms + don m := by
  have := sum_point (f := fun k => don (mget (ms.set r m) k)) (g := fun k => don (mget ms k)) (b := r) ms.length h (fun i _ hi => by rw [mget_set h, if_neg hi])
  unfold ndS
  rw [List.length_set]
  rw [mget_set h, if_pos rfl] at this
  exact this
/-- More is known: what was known stays. -/
structure MExt (ms ms2 : List Ms) : Prop where
  len : ms2.length = ms.length
  keep : ∀ r, (mget ms r).op = true ∨ 0 < (mget ms r).sz → mget ms2 r = mget ms r
  op : ∀ r, (mget ms2 r).op = (mget ms r).op
theorem MExt.refl (ms : List Ms) : MExt ms ms := ⟨rfl, fun _ _ => rfl, fun _ => rfl⟩
theorem MExt.trans {a b c : List Ms} (h : MExt a b) (k : MExt b c) : MExt a c :=
  ⟨k.len.trans h.len, fun r q => by
    have e := h.keep r q
    rw [k.keep r (by rw [e]; exact q), e], fun r => (k.op r).trans (h.op r)⟩
theorem MExt.un {a b : List Ms} (h : MExt a b) : unS b ≤ unS a := by
  unfold unS
  rw [h.len]
  refine sum_mono _ (fun i => ?_)
  by_cases q : (mget a i).op = true ∨ 0 < (mget a i).sz
  · rw [h.keep i q]; exact Nat.le_refl _
  · have : unv (mget a i) = 1 := by unfold unv; rw [if_pos ⟨by omega, by simpa using fun z => q (.inl z)⟩]
    rw [this]; unfold unv; split <;> omega
theorem szF_congr {κ f g : Nat → Nat} : ∀ (l : List Nat), (∀ a ∈ l, f (κ a) = g (κ a)) → szF κ f l = szF κ g l := by
  unfold szF
  generalize 1 = n
  intro l
  induction l generalizing n with
  | nil => intro _; rfl
  | cons x r ih => intro h; rw [List.foldl_cons, List.foldl_cons, h x (List.mem_cons_self ..)]; exact ih _ (fun a ha => h a (List.mem_cons_of_mem _ ha))
theorem dpF_congr {κ f g : Nat → Nat} : ∀ (l : List Nat), (∀ a ∈ l, f (κ a) = g (κ a)) → dpF κ f l = dpF κ g l := by
  have : ∀ (l : List Nat) (n : Nat), (∀ a ∈ l, f (κ a) = g (κ a)) → l.foldl (fun n a => max n (f (κ a) + 1)) n = l.foldl (fun n a => max n (g (κ a) + 1)) n := by
    intro l
    induction l with
    | nil => intro n _; rfl
    | cons x r ih => intro n h; rw [List.foldl_cons, List.foldl_cons, h x (List.mem_cons_self ..)]; exact ih _ (fun a ha => h a (List.mem_cons_of_mem _ ha))
  exact fun l h => this l 1 h
theorem szF_snoc {κ f : Nat → Nat} {l : List Nat} {a : Nat} : szF κ f (l ++ [a]) = min (szF κ f l + f (κ a)) capS := by unfold szF; rw [List.foldl_append]; rfl
theorem dpF_snoc {κ f : Nat → Nat} {l : List Nat} {a : Nat} : dpF κ f (l ++ [a]) = max (dpF κ f l) (f (κ a) + 1) := by unfold dpF; rw [List.foldl_append]; rfl
theorem szF_pos {κ f : Nat → Nat} : ∀ (l : List Nat), 0 < szF κ f l ∧ szF κ f l ≤ capS := by
  have : ∀ (l : List Nat) (n : Nat), 0 < n ∧ n ≤ capS → 0 < l.foldl (fun n a => min (n + f (κ a)) capS) n ∧ l.foldl (fun n a => min (n + f (κ a)) capS) n ≤ capS := by
    intro l
    induction l with
    | nil => intro n h; exact h
    | cons x r ih => intro n h; rw [List.foldl_cons]; exact ih _ (by unfold capS at *; omega)
  exact fun l => this l 1 (by unfold capS; omega)
theorem dpF_le {κ f : Nat → Nat} {B : Nat} : ∀ (l : List Nat), (∀ a ∈ l, f (κ a) ≤ B) → dpF κ f l ≤ B + 1 := by
  have : ∀ (l : List Nat) (n : Nat), n ≤ B + 1 → (∀ a ∈ l, f (κ a) ≤ B) → l.foldl (fun n a => max n (f (κ a) + 1)) n ≤ B + 1 := by
    intro l
    induction l with
    | nil => intro n h _; exact h
    | cons x r ih => intro n h hh; rw [List.foldl_cons]; exact ih _ (by have := hh x (List.mem_cons_self ..); omega) (fun a ha => hh a (List.mem_cons_of_mem _ ha))
  exact fun l h => this l 1 (by omega) h
abbrev msz (ms : List Ms) : Nat → Nat := fun k => (mget ms k).sz
abbrev mdp (ms : List Ms) : Nat → Nat := fun k => (mget ms k).dp
/-- What is told is right. -/
structure AskOk (N : List Pt) (κ : Nat → Nat) (ms : List Ms) : Prop where
  len : ms.length = N.length
  done : ∀ r, 0 < (mget ms r).sz → (mget ms r).op = false ∧ (∀ a ∈ (pget N r).args, 0 < (mget ms (κ a)).sz) ∧ (mget ms r).sz = szF κ (msz ms) (pget N r).args ∧ (mget ms r).dp = dpF κ (mdp ms) (pget N r).args
  bnd : ∀ r, 0 < (mget ms r).sz → (mget ms r).dp ≤ ndS ms ∧ (mget ms r).sz ≤ capS
/-- A part that is not known is being asked. -/
theorem AskOk.opn {N : List Pt} {κ : Nat → Nat} {ms : List Ms} {r : Nat} (h : AskOk N κ ms) (hr : r < N.length) (h0 : (mget ms r).sz = 0) (h1 : (mget ms r).op = false) :
    AskOk N κ (ms.set r ⟨(mget ms r).sz, (mget ms r).dp, true⟩) ∧ unS (ms.set r ⟨(mget ms r).sz, (mget ms r).dp, true⟩) + 1 = unS ms := by
  have hl : r < ms.length := by rw [h.len]; exact hr
  have hn := ndS_set (m := ⟨(mget ms r).sz, (mget ms r).dp, true⟩) hl
  have e0 : don (mget ms r) = 0 := by unfold don; rw [if_neg (by omega)]
  have e1 : don ⟨(mget ms r).sz, (mget ms r).dp, true⟩ = 0 := by unfold don; rw [if_neg (by dsimp only; omega)]
  have hu := unS_set (m := ⟨(mget ms r).sz, (mget ms r).dp, true⟩) hl
  have e2 : unv (mget ms r) = 1 := by unfold unv; rw [if_pos ⟨h0, h1⟩]
  have e3 : unv ⟨(mget ms r).sz, (mget ms r).dp, true⟩ = 0 := by unfold unv; rw [if_neg (fun q => by simp at q)]
  have get : ∀ k, 0 < (mget ms k).sz → mget (ms.set r ⟨(mget ms r).sz, (mget ms r).dp, true⟩) k = mget ms k := fun k hk => by
    rw [mget_set hl, if_neg (fun e => by rw [e] at hk; omega)]
  have back : ∀ k, 0 < (mget (ms.set r ⟨(mget ms r).sz, (mget ms r).dp, true⟩) k).sz → 0 < (mget ms k).sz := fun k hk => by
    rw [mget_set hl] at hk
    split at hk
    · dsimp only at hk; omega
    · exact hk
  refine ⟨⟨by rw [List.length_set]; exact h.len, fun k hk => ?_, fun k hk => ?_⟩, by omega⟩
  · have hk' := back k hk
    obtain ⟨z1, z2, z3, z4⟩ := h.done k hk'
    rw [get k hk']
    refine ⟨z1, fun a ha => by rw [get _ (z2 a ha)]; exact z2 a ha, ?_, ?_⟩
    · rw [z3]; exact szF_congr _ (fun a ha => by show (mget ms (κ a)).sz = _; rw [← get _ (z2 a ha)])
    · rw [z4]; exact dpF_congr _ (fun a ha => by show (mget ms (κ a)).dp = _; rw [← get _ (z2 a ha)])
  · have hk' := back k hk
    rw [get k hk']
    have := h.bnd k hk'
    exact ⟨by omega, this.2⟩
/-- What it becomes is known. -/
theorem AskOk.fin {N : List Pt} {κ : Nat → Nat} {ms ms2 : List Ms} {r : Nat} (h : AskOk N κ ms2) (hr : r < N.length) (h0 : (mget ms r).sz = 0) (h1 : (mget ms r).op = false) (hl0 : ms.length = N.length)
    (he : MExt (ms.set r ⟨(mget ms r).sz, (mget ms r).dp, true⟩) ms2) (ha : ∀ a ∈ (pget N r).args, 0 < (mget ms2 (κ a)).sz) :
    AskOk N κ (ms2.set r ⟨szF κ (msz ms2) (pget N r).args, dpF κ (mdp ms2) (pget N r).args, false⟩) ∧ MExt ms (ms2.set r ⟨szF κ (msz ms2) (pget N r).args, dpF κ (mdp ms2) (pget N r).args, false⟩) ∧
      0 < (mget (ms2.set r ⟨szF κ (msz ms2) (pget N r).args, dpF κ (mdp ms2) (pget N r).args, false⟩) r).sz := by
  have hl : r < ms2.length := by rw [h.len]; exact hr
  have hlm : r < ms.length := by omega
  have e2 : mget ms2 r = ⟨(mget ms r).sz, (mget ms r).dp, true⟩ := by
    have := he.keep r (.inl (by rw [mget_set hlm, if_pos rfl]))
    rw [this, mget_set hlm, if_pos rfl]
  have hp := szF_pos (κ := κ) (f := msz ms2) (pget N r).args
  have hn := ndS_set (m := ⟨szF κ (msz ms2) (pget N r).args, dpF κ (mdp ms2) (pget N r).args, false⟩) hl
  have d0 : don (mget ms2 r) = 0 := by unfold don; rw [e2, if_neg (by dsimp only; omega)]
  have d1 : don ⟨szF κ (msz ms2) (pget N r).args, dpF κ (mdp ms2) (pget N r).args, false⟩ = 1 := by unfold don; rw [if_pos hp.1]
  have get : ∀ k, 0 < (mget ms2 k).sz → mget (ms2.set r ⟨szF κ (msz ms2) (pget N r).args, dpF κ (mdp ms2) (pget N r).args, false⟩) k = mget ms2 k := fun k hk => by
    rw [mget_set hl, if_neg (fun e => by rw [e, e2] at hk; dsimp only at hk; omega)]
  refine ⟨⟨by rw [List.length_set]; exact h.len, fun k hk => ?_, fun k hk => ?_⟩, ⟨by rw [List.length_set, he.len, List.length_set], fun k hk => ?_, fun k => ?_⟩, by rw [mget_set hl, if_pos rfl]; exact hp.1⟩
  · by_cases e : k = r
    · subst e
      rw [mget_set hl, if_pos rfl]
      refine ⟨rfl, fun a q => by rw [get _ (ha a q)]; exact ha a q, ?_, ?_⟩
      · exact szF_congr _ (fun a q => by show (mget ms2 (κ a)).sz = _; rw [← get _ (ha a q)])
      · exact dpF_congr _ (fun a q => by show (mget ms2 (κ a)).dp = _; rw [← get _ (ha a q)])
    · rw [mget_set hl, if_neg e] at hk
      obtain ⟨z1, z2, z3, z4⟩ := h.done k hk
      rw [get k hk]
      refine ⟨z1, fun a ha => by rw [get _ (z2 a ha)]; exact z2 a ha, ?_, ?_⟩
      · rw [z3]; exact szF_congr _ (fun a ha => by show (mget ms2 (κ a)).sz = _; rw [← get _ (z2 a ha)])
      · rw [z4]; exact dpF_congr _ (fun a ha => by show (mget ms2 (κ a)).dp = _; rw [← get _ (z2 a ha)])
  · by_cases e : k = r
    · subst e
      rw [mget_set hl, if_pos rfl]
      refine ⟨?_, hp.2⟩
      have := dpF_le (κ := κ) (f := mdp ms2) (B := ndS ms2) (pget N k).args (fun a q => (h.bnd _ (ha a q)).1)
      dsimp only
      omega
    · rw [mget_set hl, if_neg e] at hk ⊢
      have := h.bnd k hk
      exact ⟨by omega, this.2⟩
  · have e : k ≠ r := fun e => by rw [e, h0, h1] at hk; rcases hk with q | q <;> simp at q
    rw [mget_set hl, if_neg e, he.keep k (by rw [mget_set hlm, if_neg e]; exact hk), mget_set hlm, if_neg e]
  · rw [mget_set hl]
    by_cases e : k = r
    · rw [if_pos e, e, h1]
    · rw [if_neg e, he.op k, mget_set hlm, if_neg e]
/-- If what a part becomes cannot be told, then nothing can be measured in which what is being asked stands higher. -/
def NoMeas (N : List Pt) (κ : Nat → Nat) (ms : List Ms) (i : Nat) : Prop := ∀ sz dp, Meas N κ sz dp → ∃ o, (mget ms o).op = true ∧ dp o ≤ dp (κ i)
theorem NoMeas.up {N : List Pt} {κ : Nat → Nat} {ms ms2 : List Ms} {i a : Nat} (hi : i < N.length) (hlm : ms.length = N.length) (hr : κ i < N.length) (he : MExt (ms.set (κ i) ⟨(mget ms (κ i)).sz, (mget ms (κ i)).dp, true⟩) ms2) (ha : a ∈ (pget N (κ i)).args) (h : NoMeas N κ ms2 a) : NoMeas N κ ms i := by
  intro sz dp hm
  obtain ⟨o, h1, h2⟩ := h sz dp hm
  have hlt := hm.lt hi ha
  rw [he.op, mget_set (by omega)] at h1
  split at h1
  · rename_i e; rw [e] at h2; omega
  · exact ⟨o, h1, by omega⟩
theorem AskOk.meas {N : List Pt} {κ : Nat → Nat} {ms : List Ms} (h : AskOk N κ ms) (ha : ∀ i, i < N.length → 0 < (mget ms (κ i)).sz) : Meas N κ (msz ms) (mdp ms) :=
  ⟨fun i hi => (h.done _ (ha i hi)).2.2.1, fun i hi => (h.done _ (ha i hi)).2.2.2⟩
end Go.Proofs.Ytibncmnmjhimeaa

/- Pairs of terms, in memory. -/
namespace Go.Proofs.Ytibncmnmjhimeaa
open Go.RowKit Go
set_option linter.unusedVariables false
set_option linter.unusedSimpArgs false
def eltD : Elt (T × T) where
  k := 4
  In := fun S w p cs => ∃ u v x y, cs = [u, v, x, y] ∧ InT S w p.1 (.agg #[u, v]) ∧ InT S w p.2 (.agg #[x, y])
  keep := fun hb ⟨u, v, x, y, e, h1, h2⟩ => ⟨u, v, x, y, e, h1.keep hb, h2.keep hb⟩
  mono := fun hb ⟨u, v, x, y, e, h1, h2⟩ => ⟨u, v, x, y, e, h1.mono hb, h2.mono hb⟩
  len := fun ⟨_, _, _, _, e, _, _⟩ => by rw [e]; rfl
  one := fun ⟨u, v, x, y, e, h1, h2⟩ q hq => by
    obtain ⟨_, a, c, e1, _⟩ := h1.form
    obtain ⟨_, a', c', e2, _⟩ := h2.form
    simp only [Value.agg.injEq, Array.mk.injEq, List.cons.injEq, and_true] at e1 e2
    rw [e] at hq
    simp only [List.mem_cons, List.not_mem_nil, or_false] at hq
    rcases hq with rfl | rfl | rfl | rfl
    · rw [e1.1]; rfl
    · rw [e1.2]; rfl
    · rw [e2.1]; rfl
    · rw [e2.2]; rfl
def prget (l : List (T × T)) (k : Nat) : T × T := l.getD k (.mk 0 [], .mk 0 [])
theorem prget_lt {l : List (T × T)} {k : Nat} (h : k < l.length) : prget l k = l[k] := by simp [prget, h]
theorem prget_mem {l : List (T × T)} {k : Nat} (h : k < l.length) : prget l k ∈ l := by rw [prget_lt h]; exact List.getElem_mem h
/-- A row of pairs of terms. -/
def IsPs (w : World) (l : List (T × T)) (a : Option Addr) (c : Nat) : Prop := InRow eltD (fun _ => True) w l a ∧ l.length ≤ c ∧ c ≤ maxLen
section
variable {w w' : World} {l : List (T × T)} {a : Option Addr} {c : Nat}
theorem IsPs.open (h : IsPs w l a c) : ∃ (b o : Nat) (A1 : Nat → Option Addr) (C1 : Nat → Nat) (A2 : Nat → Option Addr) (C2 : Nat → Nat), (∀ k, k < l.length → a = some ⟨b, o, none⟩) ∧
    ∀ k, k < l.length → w.cell? ⟨b, o + k * 4, none⟩ = some (.int .i64 (prget l k).1.f) ∧ w.cell? ⟨b, o + k * 4 + 1, none⟩ = some (.slice (A1 k) (prget l k).1.args.length (C1 k)) ∧ w.cell? ⟨b, o + k * 4 + 2, none⟩ = some (.int .i64 (prget l k).2.f) ∧ w.cell? ⟨b, o + k * 4 + 3, none⟩ = some (.slice (A2 k) (prget l k).2.args.length (C2 k)) ∧
      IsT w (prget l k).1 (.agg #[.int .i64 (prget l k).1.f, .slice (A1 k) (prget l k).1.args.length (C1 k)]) ∧ IsT w (prget l k).2 (.agg #[.int .i64 (prget l k).2.f, .slice (A2 k) (prget l k).2.args.length (C2 k)]) := by
  rcases Nat.eq_zero_or_pos l.length with h0 | h0
  · exact ⟨0, 0, fun _ => none, fun _ => 0, fun _ => none, fun _ => 0, fun k hk => by omega, fun k hk => by omega⟩
  · obtain ⟨b, o, _, ha, _⟩ := h.1 0 h0
    have key : ∀ k, k < l.length → ∃ p : (Option Addr × Nat) × Option Addr × Nat, w.cell? ⟨b, o + k * 4, none⟩ = some (.int .i64 (prget l k).1.f) ∧ w.cell? ⟨b, o + k * 4 + 1, none⟩ = some (.slice p.1.1 (prget l k).1.args.length p.1.2) ∧ w.cell? ⟨b, o + k * 4 + 2, none⟩ = some (.int .i64 (prget l k).2.f) ∧ w.cell? ⟨b, o + k * 4 + 3, none⟩ = some (.slice p.2.1 (prget l k).2.args.length p.2.2) ∧
        IsT w (prget l k).1 (.agg #[.int .i64 (prget l k).1.f, .slice p.1.1 (prget l k).1.args.length p.1.2]) ∧ IsT w (prget l k).2 (.agg #[.int .i64 (prget l k).2.f, .slice p.2.1 (prget l k).2.args.length p.2.2]) := by
      intro k hk
      obtain ⟨b2, o2, cs, e1, _, ⟨u, v, x, y, h3, h5, h6⟩, h4⟩ := h.1 k hk
      rw [ha] at e1
      simp only [Option.some.injEq, Addr.mk.injEq, and_true] at e1
      obtain ⟨rfl, rfl⟩ := e1
      subst h3
      rw [← prget_lt hk] at h5 h6
      obtain ⟨_, a1, c1, e1, _⟩ := h5.isT.form
      obtain ⟨_, a2, c2, e2, _⟩ := h6.isT.form
      have k1 := h5.isT
      have k2 := h6.isT
      simp only [Value.agg.injEq, Array.mk.injEq, List.cons.injEq, and_true] at e1 e2
      obtain ⟨rfl, rfl⟩ := e1
      obtain ⟨rfl, rfl⟩ := e2
      exact ⟨((a1, c1), (a2, c2)), h4 0 (by decide), h4 1 (by decide), h4 2 (by decide), h4 3 (by decide), k1, k2⟩
    have : Inhabited ((Option Addr × Nat) × Option Addr × Nat) := ⟨((none, 0), (none, 0))⟩
    obtain ⟨F, hF⟩ := Go.Deep.choose_lt key
    exact ⟨b, o, fun k => (F k).1.1, fun k => (F k).1.2, fun k => (F k).2.1, fun k => (F k).2.2, fun _ _ => ha, hF⟩
/-- One pair in a block of its own. -/
theorem IsPs.one {g e : Nat} {t s : T} {u v x y : Value} (hB : Blk w g e #[u, v, x, y]) (h1 : IsT w t (.agg #[u, v])) (h2 : IsT w s (.agg #[x, y])) : IsPs w [(t, s)] (some ⟨g, 0, none⟩) 1 := by
  refine ⟨fun i hi => ?_, Nat.le_refl _, by unfold maxLen; omega⟩
  have hi' : i < 1 := hi
  obtain rfl : i = 0 := by omega
  refine ⟨g, 0, [u, v, x, y], rfl, trivial, ⟨u, v, x, y, rfl, h1.inT.mono (fun _ _ _ => trivial), h2.inT.mono (fun _ _ _ => trivial)⟩, fun j hj => ?_⟩
  rw [Nat.zero_mul, Nat.zero_add, hB.cell j]; simp
end
end Go.Proofs.Ytibncmnmjhimeaa

/- All pairs are joined, plain: how it stands behind so many of them. -/
namespace Go.Proofs.Ytibncmnmjhimeaa
open Go.RowKit Go
set_option linter.unusedVariables false
set_option linter.unusedSimpArgs false
mutual
/-- The symbols are ints. -/
def T.sy : T → Prop
  | .mk f l => I64 f ∧ T.syL l
def T.syL : List T → Prop
  | [] => True
  | t :: r => t.sy ∧ T.syL r
end
mutual
theorem IsT.sy {w : World} : ∀ {t : T} {v : Value}, IsT w t v → t.sy
  | .mk f l, v, ⟨h1, _, _, _, _, _, h2⟩ => ⟨h1, IsTs.syL h2⟩
theorem IsTs.syL {w : World} : ∀ {l : List T} {a : Option Addr} {i : Nat}, IsTs w l a i → T.syL l
  | [], _, _, _ => trivial
  | t :: r, a, i, ⟨⟨_, _, _, _, _, _, _, h3⟩, h4⟩ => ⟨IsT.sy h3, IsTs.syL h4⟩
end
def NSy (N : List Pt) : Prop := ∀ p ∈ N, I64 p.fn
theorem NSy.app {N : List Pt} {x : Pt} (h : NSy N) (hx : I64 x.fn) : NSy (N ++ [x]) := fun p hp => by
  rcases List.mem_append.1 hp with q | q
  · exact h p q
  · rw [List.mem_singleton.1 q]; exact hx
mutual
theorem put_sy : ∀ (t : T) (st : NS), t.sy → NSy st.N → NSy (t.put st).1.N
  | .mk f l, st, ⟨h1, h2⟩, h => by
    rw [T.put]
    split
    · unfold NS.var
      split
      · exact h
      · exact h.app h1
    · exact (putL_sy l st h2 h).app h1
theorem putL_sy : ∀ (l : List T) (st : NS), T.syL l → NSy st.N → NSy (T.putL l st).1.N
  | [], st, _, h => h
  | t :: r, st, ⟨h1, h2⟩, h => by rw [T.putL]; exact putL_sy r _ h2 (put_sy t st h1 h)
end
/-- So many pairs have been joined. -/
structure SolveGo (rv : Bool) (l : List (T × T)) (k : Nat) (st : NS) (κ : Nat → Nat) : Prop where
  run : NRun rv (l.take k) ⟨[], fun _ => 0⟩ id (some (st, κ))
  ok : NetOk st
  cl : KCl st.N κ
  len : st.N.length ≤ k * 600
  arg : argN st.N ≤ k * 600
  sy : NSy st.N
theorem SolveGo.start (rv : Bool) (l : List (T × T)) : SolveGo rv l 0 ⟨[], fun _ => 0⟩ id := ⟨.nil _ _, net0_ok, kcl0, Nat.zero_le _, Nat.le_refl _, fun p hp => by simp at hp⟩
theorem prtake_succ {l : List (T × T)} {k : Nat} (h : k < l.length) : l.take (k + 1) = l.take k ++ [((prget l k).1, (prget l k).2)] := by
  rw [List.take_succ_eq_append_getElem h, prget_lt h]
theorem prdrop {l : List (T × T)} {k : Nat} (h : k < l.length) : l = l.take k ++ ((prget l k).1, (prget l k).2) :: l.drop (k + 1) := by
  conv => lhs; rw [← List.take_append_drop k l, List.drop_eq_getElem_cons h, ← prget_lt h]
/-- One pair more: put, and then joined. -/
structure SolvePut (rv : Bool) (l : List (T × T)) (k : Nat) (st st1 st2 : NS) (κ : Nat → Nat) (i j : Nat) : Prop where
  ok1 : NetOk st1
  ok2 : NetOk st2
  len1 : st1.N.length ≤ k * 600 + 300
  len2 : st2.N.length ≤ (k + 1) * 600
  le : st.N.length ≤ st1.N.length
  arg2 : argN st2.N ≤ (k + 1) * 600
  cl : KCl st2.N κ
  hi : i < st2.N.length
  hj : j < st2.N.length
  yes : ∀ κ', Run rv st2.N [(i, j)] κ (some κ') → SolveGo rv l (k + 1) st2 κ'
  no : Run rv st2.N [(i, j)] κ none → NRun rv l ⟨[], fun _ => 0⟩ id none
theorem SolveGo.put {rv : Bool} {l : List (T × T)} {k : Nat} {st : NS} {κ : Nat → Nat} (h : SolveGo rv l k st κ) (hk : k < l.length) (h1 : (prget l k).1.size ≤ 300) (h2 : (prget l k).2.size ≤ 300) (s1 : (prget l k).1.sy) (s2 : (prget l k).2.sy) :
    SolvePut rv l k st ((prget l k).1.put st).1 ((prget l k).2.put ((prget l k).1.put st).1).1 κ ((prget l k).1.put st).2 ((prget l k).2.put ((prget l k).1.put st).1).2 := by
  have p1 := put_ok (prget l k).1 st h.ok
  have p2 := put_ok (prget l k).2 _ p1.1.ok
  have a1 := put_argN (prget l k).1 st h.ok
  have a2 := put_argN (prget l k).2 _ p1.1.ok
  have y1 := put_sy _ st s1 h.sy
  have y2 := put_sy _ _ s2 y1
  have l1 := p1.1.len
  have l2 := p2.1.len
  have e1 := p2.1.le
  have hl := h.len
  have ha := h.arg
  have hc : KCl ((prget l k).2.put ((prget l k).1.put st).1).1.N κ := by
    obtain ⟨M1, m1⟩ := p1.1.ext
    obtain ⟨M2, m2⟩ := p2.1.ext
    rw [m2, m1]; exact h.cl.grow.grow
  have hi : ((prget l k).1.put st).2 < ((prget l k).2.put ((prget l k).1.put st).1).1.N.length := by have := p1.2; omega
  have hIR : InR ((prget l k).2.put ((prget l k).1.put st).1).1.N [(((prget l k).1.put st).2, ((prget l k).2.put ((prget l k).1.put st).1).2)] := fun p hp => by
    rw [List.mem_singleton.1 hp]; exact ⟨hi, p2.2⟩
  refine ⟨p1.1.ok, p2.1.ok, by omega, by omega, p1.1.le, by omega, hc, hi, p2.2, fun κ' hr => ?_, fun hr => ?_⟩
  · have hin : Inv ((prget l k).2.put ((prget l k).1.put st).1).1.N κ [(((prget l k).1.put st).2, ((prget l k).2.put ((prget l k).1.put st).1).2)] := fun p q hp hq e h0 h1 => by
      obtain ⟨z1, z2, z3⟩ := hc.inv p q hp hq e h0 h1
      exact ⟨z1, z2, fun S hS hκ ht => z3 S hS hκ (fun x hx => by simp at hx)⟩
    obtain ⟨hz, _⟩ := Run.ok p2.1.ok.args hr hc.ok hIR hin
    obtain ⟨k1, k2, _⟩ := hz κ' rfl
    exact ⟨by rw [prtake_succ hk]; exact (NRun.snoc h.run).1 κ' hr, p2.1.ok, ⟨k1, k2⟩, by omega, by omega, y2⟩
  · have := (NRun.snoc h.run).2 hr (l.drop (k + 1))
    rw [← prdrop hk] at this; exact this
/-- What may be asked. -/
def wideB (l : List (T × T)) : Bool := decide (l.length ≤ 64) && l.all (fun p => p.1.small 96 && p.2.small 96)
theorem wide_at {l : List (T × T)} (h : l.length ≤ 64) : wideB l = true ↔ ∀ k, k < l.length → (prget l k).1.small 96 = true ∧ (prget l k).2.small 96 = true := by
  unfold wideB
  rw [Bool.and_eq_true, decide_eq_true_eq, List.all_eq_true]
  constructor
  · intro ⟨_, h2⟩ k hk
    have := h2 _ (prget_mem hk)
    rwa [Bool.and_eq_true] at this
  · intro h2
    refine ⟨h, fun p hp => ?_⟩
    obtain ⟨k, hk, rfl⟩ := List.getElem_of_mem hp
    rw [← prget_lt hk, Bool.and_eq_true]; exact h2 k hk
theorem wide_no {l : List (T × T)} {k : Nat} (hk : k < l.length) (h : ¬ ((prget l k).1.small 96 = true ∧ (prget l k).2.small 96 = true)) : wideB l = false := by
  rw [Bool.eq_false_iff]; intro e
  have h64 : l.length ≤ 64 := by unfold wideB at e; rw [Bool.and_eq_true, decide_eq_true_eq] at e; exact e.1
  exact h ((wide_at h64).1 e k hk)
theorem wide_len {l : List (T × T)} (h : 64 < l.length) : wideB l = false := by
  unfold wideB; rw [decide_eq_false (by omega)]; rfl
theorem small_low {t : T} (h : t.small 96 = true) : t.size ≤ 300 ∧ t.low 96 = true := by
  unfold T.small at h
  rw [Bool.and_eq_true, Bool.and_eq_true, decide_eq_true_eq] at h
  exact ⟨h.1.1, h.2⟩
end Go.Proofs.Ytibncmnmjhimeaa

/- Measures in memory. -/
namespace Go.Proofs.Ytibncmnmjhimeaa
open Go.RowKit Go
set_option linter.unusedVariables false
set_option linter.unusedSimpArgs false
section
variable {w w' : World} {b : Nat} {ms : List Ms}
end
end Go.Proofs.Ytibncmnmjhimeaa

/- A new net; its variables, read all at once. -/
namespace Go.Proofs.Ytibncmnmjhimeaa
open Go.RowKit Go
set_option linter.unusedVariables false
set_option linter.unusedSimpArgs false
section
variable {w : World} {a : Act} {K : Act → World → Prop} {Q : Exit → Act → World → Prop} {o : Oper}
end
theorem reps0 : Reps [] id (fun _ => 0) := ⟨fun i hi => by simp at hi⟩
theorem AskOk.new (N : List Pt) (κ : Nat → Nat) : AskOk N κ (List.replicate N.length ⟨0, 0, false⟩) := by
  have e : ∀ k, (mget (List.replicate N.length (⟨0, 0, false⟩ : Ms)) k).sz = 0 := fun k => by
    by_cases h : k < N.length
    · rw [mget_lt (by simpa using h)]; simp
    · rw [mget_ge (by simpa using h)]
  exact ⟨by simp, fun r h => by rw [e] at h; omega, fun r h => by rw [e] at h; omega⟩
end Go.Proofs.Ytibncmnmjhimeaa

namespace Go.Proofs.Ytibncmnmjhimeaa
open Go.RowKit Go
set_option linter.unusedVariables false
set_option linter.unusedSimpArgs false
set_option maxRecDepth 100000
theorem build_48_0 {w : World} {a : Act} {K : Act → World → Prop} {Q : Exit → Act → World → Prop} {o : Oper} {x0 : Operand} {c0 : Option Nat} (ho : o.op = .build 48 #[(0, x0)]) (h0 : a.eval x0 = .map c0) (hK : K (a.put o.dst (.agg #[.map c0, .int .i64 0])) w) : o.wp Try.prog a w K Q := by
  unfold Oper.wp execOp
  simp only [ho, List.map_toArray, List.map_cons, List.map_nil, h0]
  go_simp
  exact hK
theorem box_48 {w : World} {a : Act} {K : Act → World → Prop} {Q : Exit → Act → World → Prop} {o : Oper} {x : Operand} {c0 c1 : Value} (ho : o.op = .box 48 x) (hx : a.eval x = .agg #[c0, c1]) (hK : K (a.put o.dst (.pointer (some ⟨w.heap.size, 0, none⟩))) (w.alloc (.cells #[c0, c1] 48))) : o.wp Try.prog a w K Q := by
  unfold Oper.wp execOp
  simp only [ho, hx]
  go_simp
  exact hK
theorem alloc_72 {w : World} {a : Act} {K : Act → World → Prop} {Q : Exit → Act → World → Prop} {o : Oper} (ho : o.op = .alloc 72) (hK : K (a.put o.dst (.pointer (some ⟨w.heap.size, 0, none⟩))) (w.alloc (.cells #[.slice none 0 0, .slice none 0 0, .slice none 0 0, .slice none 0 0, .slice none 0 0, .slice none 0 0, .slice none 0 0, .slice none 0 0] 72))) : o.wp Try.prog a w K Q := by
  unfold Oper.wp execOp
  simp only [ho]
  go_simp
  exact hK
theorem row_71_0 {w : World} {a : Act} {K : Act → World → Prop} {Q : Exit → Act → World → Prop} {o : Oper}   (ho : o.op = .buildSlice 71 0 #[])  (hK : K (a.put o.dst (.slice (some ⟨w.heap.size, 0, none⟩) 0 0)) (w.alloc (.cells #[] 3))) : o.wp Try.prog a w K Q := by
  unfold Oper.wp execOp
  simp only [ho, List.map_toArray, List.map_cons, List.map_nil, ]
  go_simp
  exact hK
theorem row_71_1 {w : World} {a : Act} {K : Act → World → Prop} {Q : Exit → Act → World → Prop} {o : Oper} {x0 : Operand} {c0 : Int} (ho : o.op = .buildSlice 71 1 #[(0, x0)]) (h0 : a.eval x0 = .int .i64 c0) (hK : K (a.put o.dst (.slice (some ⟨w.heap.size, 0, none⟩) 1 1)) (w.alloc (.cells #[.int .i64 c0] 3))) : o.wp Try.prog a w K Q := by
  unfold Oper.wp execOp
  simp only [ho, List.map_toArray, List.map_cons, List.map_nil, h0]
  go_simp
  exact hK
theorem row_71_2 {w : World} {a : Act} {K : Act → World → Prop} {Q : Exit → Act → World → Prop} {o : Oper} {x0 x1 : Operand} {c0 : Int} {c1 : Int} (ho : o.op = .buildSlice 71 2 #[(0, x0), (1, x1)]) (h0 : a.eval x0 = .int .i64 c0) (h1 : a.eval x1 = .int .i64 c1) (hK : K (a.put o.dst (.slice (some ⟨w.heap.size, 0, none⟩) 2 2)) (w.alloc (.cells #[.int .i64 c0, .int .i64 c1] 3))) : o.wp Try.prog a w K Q := by
  unfold Oper.wp execOp
  simp only [ho, List.map_toArray, List.map_cons, List.map_nil, h0, h1]
  go_simp
  exact hK
theorem build_72_0_1_2_3_4_5_6_7 {w : World} {a : Act} {K : Act → World → Prop} {Q : Exit → Act → World → Prop} {o : Oper} {x0 x1 x2 x3 x4 x5 x6 x7 : Operand} {c0a : Option Addr} {c0n c0c : Nat} {c1a : Option Addr} {c1n c1c : Nat} {c2a : Option Addr} {c2n c2c : Nat} {c3a : Option Addr} {c3n c3c : Nat} {c4a : Option Addr} {c4n c4c : Nat} {c5a : Option Addr} {c5n c5c : Nat} {c6a : Option Addr} {c6n c6c : Nat} {c7a : Option Addr} {c7n c7c : Nat} (ho : o.op = .build 72 #[(0, x0), (1, x1), (2, x2), (3, x3), (4, x4), (5, x5), (6, x6), (7, x7)]) (h0 : a.eval x0 = .slice c0a c0n c0c) (h1 : a.eval x1 = .slice c1a c1n c1c) (h2 : a.eval x2 = .slice c2a c2n c2c) (h3 : a.eval x3 = .slice c3a c3n c3c) (h4 : a.eval x4 = .slice c4a c4n c4c) (h5 : a.eval x5 = .slice c5a c5n c5c) (h6 : a.eval x6 = .slice c6a c6n c6c) (h7 : a.eval x7 = .slice c7a c7n c7c) (hK : K (a.put o.dst (.agg #[.slice c0a c0n c0c, .slice c1a c1n c1c, .slice c2a c2n c2c, .slice c3a c3n c3c, .slice c4a c4n c4c, .slice c5a c5n c5c, .slice c6a c6n c6c, .slice c7a c7n c7c])) w) : o.wp Try.prog a w K Q := by
  unfold Oper.wp execOp
  simp only [ho, List.map_toArray, List.map_cons, List.map_nil, h0, h1, h2, h3, h4, h5, h6, h7]
  go_simp
  exact hK
theorem st_72 {w : World} {a : Act} {K : Act → World → Prop} {Q : Exit → Act → World → Prop} {o : Oper} {x y : Operand} {g p : Nat} {ty : TypeId} {cs : Array Value} {c0 c1 c2 c3 c4 c5 c6 c7 : Value} (ho : o.op = .store 72 x y) (hx : a.eval x = .pointer (some ⟨g, p, none⟩)) (hy : a.eval y = .agg #[c0, c1, c2, c3, c4, c5, c6, c7]) (k0 : c0.oneCell' = true) (k1 : c1.oneCell' = true) (k2 : c2.oneCell' = true) (k3 : c3.oneCell' = true) (k4 : c4.oneCell' = true) (k5 : c5.oneCell' = true) (k6 : c6.oneCell' = true) (k7 : c7.oneCell' = true) (hB : Blk w g ty cs) (hp : p + 7 < cs.size) (hK : ∀ v, K (a.put o.dst v) ((((((((w.setCell ⟨g, p, none⟩ c0).setCell ⟨g, p + 1, none⟩ c1).setCell ⟨g, p + 2, none⟩ c2).setCell ⟨g, p + 3, none⟩ c3).setCell ⟨g, p + 4, none⟩ c4).setCell ⟨g, p + 5, none⟩ c5).setCell ⟨g, p + 6, none⟩ c6).setCell ⟨g, p + 7, none⟩ c7)) : o.wp Try.prog a w K Q := by
  have h0 := (hB.cell (p)).trans (Array.getElem?_eq_getElem (by first | omega | (simp; omega)))
  have f0 := hB.frozen (p)
  have hB := hB.set_ (p) c0
  have h1 := (hB.cell (p + 1)).trans (Array.getElem?_eq_getElem (by first | omega | (simp; omega)))
  have f1 := hB.frozen (p + 1)
  have hB := hB.set_ (p + 1) c1
  have h2 := (hB.cell (p + 2)).trans (Array.getElem?_eq_getElem (by first | omega | (simp; omega)))
  have f2 := hB.frozen (p + 2)
  have hB := hB.set_ (p + 2) c2
  have h3 := (hB.cell (p + 3)).trans (Array.getElem?_eq_getElem (by first | omega | (simp; omega)))
  have f3 := hB.frozen (p + 3)
  have hB := hB.set_ (p + 3) c3
  have h4 := (hB.cell (p + 4)).trans (Array.getElem?_eq_getElem (by first | omega | (simp; omega)))
  have f4 := hB.frozen (p + 4)
  have hB := hB.set_ (p + 4) c4
  have h5 := (hB.cell (p + 5)).trans (Array.getElem?_eq_getElem (by first | omega | (simp; omega)))
  have f5 := hB.frozen (p + 5)
  have hB := hB.set_ (p + 5) c5
  have h6 := (hB.cell (p + 6)).trans (Array.getElem?_eq_getElem (by first | omega | (simp; omega)))
  have f6 := hB.frozen (p + 6)
  have hB := hB.set_ (p + 6) c6
  have h7 := (hB.cell (p + 7)).trans (Array.getElem?_eq_getElem (by first | omega | (simp; omega)))
  have f7 := hB.frozen (p + 7)
  have s0 := fun w a m => run_store Try.prog w a c0 m k0
  have s1 := fun w a m => run_store Try.prog w a c1 m k1
  have s2 := fun w a m => run_store Try.prog w a c2 m k2
  have s3 := fun w a m => run_store Try.prog w a c3 m k3
  have s4 := fun w a m => run_store Try.prog w a c4 m k4
  have s5 := fun w a m => run_store Try.prog w a c5 m k5
  have s6 := fun w a m => run_store Try.prog w a c6 m k6
  have s7 := fun w a m => run_store Try.prog w a c7 m k7
  clear hB
  unfold Oper.wp execOp
  simp only [ho, hx, hy]
  go_simp
  exact hK _
theorem box_24 {w : World} {a : Act} {K : Act → World → Prop} {Q : Exit → Act → World → Prop} {o : Oper} {x : Operand} {c0 c1 : Value} (ho : o.op = .box 24 x) (hx : a.eval x = .agg #[c0, c1]) (hK : K (a.put o.dst (.pointer (some ⟨w.heap.size, 0, none⟩))) (w.alloc (.cells #[c0, c1] 24))) : o.wp Try.prog a w K Q := by
  unfold Oper.wp execOp
  simp only [ho, hx]
  go_simp
  exact hK
theorem len_71 {w : World} {a : Act} {K : Act → World → Prop} {Q : Exit → Act → World → Prop} {o : Oper} {x : Operand} {r : Option Addr} {n c : Nat} (ho : o.op = .call { callee := .builtin .len, args := #[x], argTypes := #[71] }) (hx : a.eval x = .slice r n c) (hK : K (a.put o.dst (.int .i64 n)) w) : o.wp Try.prog a w K Q := by
  unfold Oper.wp execOp
  simp only [ho, resolve, List.map_toArray, List.map_cons, List.map_nil, hx]
  go_simp
  exact hK
theorem lss_3 {w : World} {a : Act} {K : Act → World → Prop} {Q : Exit → Act → World → Prop} {o : Oper} {x y : Operand} {m n : Int} (ho : o.op = .binOp .lss 3 x y 3) (hx : a.eval x = .int .i64 m) (hy : a.eval y = .int .i64 n) (hK : K (a.put o.dst (.bool (decide (m < n)))) w) : o.wp Try.prog a w K Q := by
  unfold Oper.wp execOp
  simp only [ho, hx, hy]
  go_simp
  exact hK
theorem ix_71 {w : World} {a : Act} {K : Act → World → Prop} {Q : Exit → Act → World → Prop} {o : Oper} {x y : Operand} {r : Option Addr} {b p n c k : Nat} (ho : o.op = .indexAddr 71 x y) (hx : a.eval x = .slice r n c) (hr : r = some ⟨b, p, none⟩) (hy : a.eval y = .int .i64 (k : Int)) (hk : k < n) (hK : K (a.put o.dst (.pointer (some ⟨b, p + k, none⟩))) w) : o.wp Try.prog a w K Q := by
  subst hr
  have h0 : (0 : Int) ≤ (k : Int) := by omega
  have h1 : (k : Int) < (n : Int) := by omega
  unfold Oper.wp execOp
  simp only [ho, hx, hy]
  go_simp
  exact hK
theorem ld_3 {w : World} {a : Act} {K : Act → World → Prop} {Q : Exit → Act → World → Prop} {o : Oper} {x : Operand} {p : Addr} {v : Value} (ho : o.op = .load 3 x) (hx : a.eval x = .pointer (some p)) (hc : w.cell? p = some v) (hK : K (a.put o.dst (v)) w) : o.wp Try.prog a w K Q := by
  unfold Oper.wp execOp
  simp only [ho, hx]
  go_simp
  exact hK
theorem fld_24_0 {w : World} {a : Act} {K : Act → World → Prop} {Q : Exit → Act → World → Prop} {o : Oper} {x : Operand} {b p : Nat} (ho : o.op = .fieldAddr 24 x 0) (hx : a.eval x = .pointer (some ⟨b, p, none⟩)) (hK : K (a.put o.dst (.pointer (some ⟨b, p, none⟩))) w) : o.wp Try.prog a w K Q := by
  unfold Oper.wp execOp
  simp only [ho, hx]
  go_simp
  exact hK
theorem fld_24_1 {w : World} {a : Act} {K : Act → World → Prop} {Q : Exit → Act → World → Prop} {o : Oper} {x : Operand} {b p : Nat} (ho : o.op = .fieldAddr 24 x 1) (hx : a.eval x = .pointer (some ⟨b, p, none⟩)) (hK : K (a.put o.dst (.pointer (some ⟨b, p + 1, none⟩))) w) : o.wp Try.prog a w K Q := by
  unfold Oper.wp execOp
  simp only [ho, hx]
  go_simp
  exact hK
theorem ld_22 {w : World} {a : Act} {K : Act → World → Prop} {Q : Exit → Act → World → Prop} {o : Oper} {x : Operand} {p : Addr} {v : Value} (ho : o.op = .load 22 x) (hx : a.eval x = .pointer (some p)) (hc : w.cell? p = some v) (hK : K (a.put o.dst (v)) w) : o.wp Try.prog a w K Q := by
  unfold Oper.wp execOp
  simp only [ho, hx]
  go_simp
  exact hK
theorem len_22 {w : World} {a : Act} {K : Act → World → Prop} {Q : Exit → Act → World → Prop} {o : Oper} {x : Operand} {r : Option Addr} {n c : Nat} (ho : o.op = .call { callee := .builtin .len, args := #[x], argTypes := #[22] }) (hx : a.eval x = .slice r n c) (hK : K (a.put o.dst (.int .i64 n)) w) : o.wp Try.prog a w K Q := by
  unfold Oper.wp execOp
  simp only [ho, resolve, List.map_toArray, List.map_cons, List.map_nil, hx]
  go_simp
  exact hK
theorem geq_3 {w : World} {a : Act} {K : Act → World → Prop} {Q : Exit → Act → World → Prop} {o : Oper} {x y : Operand} {m n : Int} (ho : o.op = .binOp .geq 3 x y 3) (hx : a.eval x = .int .i64 m) (hy : a.eval y = .int .i64 n) (hK : K (a.put o.dst (.bool (decide (n ≤ m)))) w) : o.wp Try.prog a w K Q := by
  unfold Oper.wp execOp
  simp only [ho, hx, hy]
  go_simp
  exact hK
theorem ix_22 {w : World} {a : Act} {K : Act → World → Prop} {Q : Exit → Act → World → Prop} {o : Oper} {x y : Operand} {r : Option Addr} {b p n c k : Nat} (ho : o.op = .indexAddr 22 x y) (hx : a.eval x = .slice r n c) (hr : r = some ⟨b, p, none⟩) (hy : a.eval y = .int .i64 (k : Int)) (hk : k < n) (hK : K (a.put o.dst (.pointer (some ⟨b, p + k * 2, none⟩))) w) : o.wp Try.prog a w K Q := by
  subst hr
  have h0 : (0 : Int) ≤ (k : Int) := by omega
  have h1 : (k : Int) < (n : Int) := by omega
  unfold Oper.wp execOp
  simp only [ho, hx, hy]
  go_simp
  exact hK
theorem ld_24 {w : World} {a : Act} {K : Act → World → Prop} {Q : Exit → Act → World → Prop} {o : Oper} {x : Operand} {b p : Nat} {c0 c1 : Value} (ho : o.op = .load 24 x) (hx : a.eval x = .pointer (some ⟨b, p, none⟩)) (h0 : w.cell? ⟨b, p, none⟩ = some c0) (h1 : w.cell? ⟨b, p + 1, none⟩ = some c1) (hK : K (a.put o.dst (.agg #[c0, c1])) w) : o.wp Try.prog a w K Q := by
  unfold Oper.wp execOp
  simp only [ho, hx]
  go_simp
  exact hK
theorem st_24 {w : World} {a : Act} {K : Act → World → Prop} {Q : Exit → Act → World → Prop} {o : Oper} {x y : Operand} {g p : Nat} {ty : TypeId} {cs : Array Value} {c0 c1 : Value} (ho : o.op = .store 24 x y) (hx : a.eval x = .pointer (some ⟨g, p, none⟩)) (hy : a.eval y = .agg #[c0, c1]) (k0 : c0.oneCell' = true) (k1 : c1.oneCell' = true) (hB : Blk w g ty cs) (hp : p + 1 < cs.size) (hK : ∀ v, K (a.put o.dst v) ((w.setCell ⟨g, p, none⟩ c0).setCell ⟨g, p + 1, none⟩ c1)) : o.wp Try.prog a w K Q := by
  have h0 := (hB.cell (p)).trans (Array.getElem?_eq_getElem (by first | omega | (simp; omega)))
  have f0 := hB.frozen (p)
  have hB := hB.set_ (p) c0
  have h1 := (hB.cell (p + 1)).trans (Array.getElem?_eq_getElem (by first | omega | (simp; omega)))
  have f1 := hB.frozen (p + 1)
  have s0 := fun w a m => run_store Try.prog w a c0 m k0
  have s1 := fun w a m => run_store Try.prog w a c1 m k1
  clear hB
  unfold Oper.wp execOp
  simp only [ho, hx, hy]
  go_simp
  exact hK _
theorem addb_3 {w : World} {a : Act} {K : Act → World → Prop} {Q : Exit → Act → World → Prop} {o : Oper} {x y : Operand} {m n r : Int} (ho : o.op = .binOp .add 3 x y 3) (hx : a.eval x = .int .i64 m) (hy : a.eval y = .int .i64 n) (hr : IntKind.i64.wrap (m + n) = r) (hK : K (a.put o.dst (.int .i64 r)) w) : o.wp Try.prog a w K Q := by
  subst hr
  unfold Oper.wp execOp
  simp only [ho, hx, hy]
  go_simp
  exact hK
theorem max_3 {w : World} {a : Act} {K : Act → World → Prop} {Q : Exit → Act → World → Prop} {o : Oper} {x y : Operand} {m n : Int} (ho : o.op = .call { callee := .builtin .max, args := #[x, y], argTypes := #[3, 3] }) (hx : a.eval x = .int .i64 m) (hy : a.eval y = .int .i64 n) (hK : K (a.put o.dst (.int .i64 (max m n))) w) : o.wp Try.prog a w K Q := by
  unfold Oper.wp execOp
  simp only [ho, resolve, List.map_toArray, List.map_cons, List.map_nil, hx, hy]
  go_simp
  first
    | exact hK
    | (have e : max m n = (if m < n then n else m) := by split <;> omega
       rw [e] at hK
       exact hK)
theorem alloc_50 {w : World} {a : Act} {K : Act → World → Prop} {Q : Exit → Act → World → Prop} {o : Oper} (ho : o.op = .alloc 50) (hK : K (a.put o.dst (.pointer (some ⟨w.heap.size, 0, none⟩))) (w.alloc (.cells #[.int .i64 0, .int .i64 0, .int .i64 0, .int .i64 0, .int .i64 0, .int .i64 0, .int .i64 0, .int .i64 0] 50))) : o.wp Try.prog a w K Q := by
  unfold Oper.wp execOp
  simp only [ho]
  go_simp
  exact hK
theorem axc_72_0 {w : World} {a : Act} {K : Act → World → Prop} {Q : Exit → Act → World → Prop} {o : Oper} {x y : Operand} {c0a : Option Addr} {c0n c0c : Nat} {c1a : Option Addr} {c1n c1c : Nat} {c2a : Option Addr} {c2n c2c : Nat} {c3a : Option Addr} {c3n c3c : Nat} {c4a : Option Addr} {c4n c4c : Nat} {c5a : Option Addr} {c5n c5c : Nat} {c6a : Option Addr} {c6n c6c : Nat} {c7a : Option Addr} {c7n c7c : Nat} (ho : o.op = .index 72 x y) (hx : a.eval x = .agg #[.slice c0a c0n c0c, .slice c1a c1n c1c, .slice c2a c2n c2c, .slice c3a c3n c3c, .slice c4a c4n c4c, .slice c5a c5n c5c, .slice c6a c6n c6c, .slice c7a c7n c7c]) (hy : a.eval y = .int .i64 0) (hK : K (a.put o.dst (.slice c0a c0n c0c)) w) : o.wp Try.prog a w K Q := by
  unfold Oper.wp execOp
  simp only [ho, hx, hy]
  go_simp
  exact hK
theorem axc_72_1 {w : World} {a : Act} {K : Act → World → Prop} {Q : Exit → Act → World → Prop} {o : Oper} {x y : Operand} {c0a : Option Addr} {c0n c0c : Nat} {c1a : Option Addr} {c1n c1c : Nat} {c2a : Option Addr} {c2n c2c : Nat} {c3a : Option Addr} {c3n c3c : Nat} {c4a : Option Addr} {c4n c4c : Nat} {c5a : Option Addr} {c5n c5c : Nat} {c6a : Option Addr} {c6n c6c : Nat} {c7a : Option Addr} {c7n c7c : Nat} (ho : o.op = .index 72 x y) (hx : a.eval x = .agg #[.slice c0a c0n c0c, .slice c1a c1n c1c, .slice c2a c2n c2c, .slice c3a c3n c3c, .slice c4a c4n c4c, .slice c5a c5n c5c, .slice c6a c6n c6c, .slice c7a c7n c7c]) (hy : a.eval y = .int .i64 1) (hK : K (a.put o.dst (.slice c1a c1n c1c)) w) : o.wp Try.prog a w K Q := by
  unfold Oper.wp execOp
  simp only [ho, hx, hy]
  go_simp
  exact hK
theorem axc_72_2 {w : World} {a : Act} {K : Act → World → Prop} {Q : Exit → Act → World → Prop} {o : Oper} {x y : Operand} {c0a : Option Addr} {c0n c0c : Nat} {c1a : Option Addr} {c1n c1c : Nat} {c2a : Option Addr} {c2n c2c : Nat} {c3a : Option Addr} {c3n c3c : Nat} {c4a : Option Addr} {c4n c4c : Nat} {c5a : Option Addr} {c5n c5c : Nat} {c6a : Option Addr} {c6n c6c : Nat} {c7a : Option Addr} {c7n c7c : Nat} (ho : o.op = .index 72 x y) (hx : a.eval x = .agg #[.slice c0a c0n c0c, .slice c1a c1n c1c, .slice c2a c2n c2c, .slice c3a c3n c3c, .slice c4a c4n c4c, .slice c5a c5n c5c, .slice c6a c6n c6c, .slice c7a c7n c7c]) (hy : a.eval y = .int .i64 2) (hK : K (a.put o.dst (.slice c2a c2n c2c)) w) : o.wp Try.prog a w K Q := by
  unfold Oper.wp execOp
  simp only [ho, hx, hy]
  go_simp
  exact hK
theorem axc_72_3 {w : World} {a : Act} {K : Act → World → Prop} {Q : Exit → Act → World → Prop} {o : Oper} {x y : Operand} {c0a : Option Addr} {c0n c0c : Nat} {c1a : Option Addr} {c1n c1c : Nat} {c2a : Option Addr} {c2n c2c : Nat} {c3a : Option Addr} {c3n c3c : Nat} {c4a : Option Addr} {c4n c4c : Nat} {c5a : Option Addr} {c5n c5c : Nat} {c6a : Option Addr} {c6n c6c : Nat} {c7a : Option Addr} {c7n c7c : Nat} (ho : o.op = .index 72 x y) (hx : a.eval x = .agg #[.slice c0a c0n c0c, .slice c1a c1n c1c, .slice c2a c2n c2c, .slice c3a c3n c3c, .slice c4a c4n c4c, .slice c5a c5n c5c, .slice c6a c6n c6c, .slice c7a c7n c7c]) (hy : a.eval y = .int .i64 3) (hK : K (a.put o.dst (.slice c3a c3n c3c)) w) : o.wp Try.prog a w K Q := by
  unfold Oper.wp execOp
  simp only [ho, hx, hy]
  go_simp
  exact hK
theorem axc_72_4 {w : World} {a : Act} {K : Act → World → Prop} {Q : Exit → Act → World → Prop} {o : Oper} {x y : Operand} {c0a : Option Addr} {c0n c0c : Nat} {c1a : Option Addr} {c1n c1c : Nat} {c2a : Option Addr} {c2n c2c : Nat} {c3a : Option Addr} {c3n c3c : Nat} {c4a : Option Addr} {c4n c4c : Nat} {c5a : Option Addr} {c5n c5c : Nat} {c6a : Option Addr} {c6n c6c : Nat} {c7a : Option Addr} {c7n c7c : Nat} (ho : o.op = .index 72 x y) (hx : a.eval x = .agg #[.slice c0a c0n c0c, .slice c1a c1n c1c, .slice c2a c2n c2c, .slice c3a c3n c3c, .slice c4a c4n c4c, .slice c5a c5n c5c, .slice c6a c6n c6c, .slice c7a c7n c7c]) (hy : a.eval y = .int .i64 4) (hK : K (a.put o.dst (.slice c4a c4n c4c)) w) : o.wp Try.prog a w K Q := by
  unfold Oper.wp execOp
  simp only [ho, hx, hy]
  go_simp
  exact hK
theorem axc_72_5 {w : World} {a : Act} {K : Act → World → Prop} {Q : Exit → Act → World → Prop} {o : Oper} {x y : Operand} {c0a : Option Addr} {c0n c0c : Nat} {c1a : Option Addr} {c1n c1c : Nat} {c2a : Option Addr} {c2n c2c : Nat} {c3a : Option Addr} {c3n c3c : Nat} {c4a : Option Addr} {c4n c4c : Nat} {c5a : Option Addr} {c5n c5c : Nat} {c6a : Option Addr} {c6n c6c : Nat} {c7a : Option Addr} {c7n c7c : Nat} (ho : o.op = .index 72 x y) (hx : a.eval x = .agg #[.slice c0a c0n c0c, .slice c1a c1n c1c, .slice c2a c2n c2c, .slice c3a c3n c3c, .slice c4a c4n c4c, .slice c5a c5n c5c, .slice c6a c6n c6c, .slice c7a c7n c7c]) (hy : a.eval y = .int .i64 5) (hK : K (a.put o.dst (.slice c5a c5n c5c)) w) : o.wp Try.prog a w K Q := by
  unfold Oper.wp execOp
  simp only [ho, hx, hy]
  go_simp
  exact hK
theorem axc_72_6 {w : World} {a : Act} {K : Act → World → Prop} {Q : Exit → Act → World → Prop} {o : Oper} {x y : Operand} {c0a : Option Addr} {c0n c0c : Nat} {c1a : Option Addr} {c1n c1c : Nat} {c2a : Option Addr} {c2n c2c : Nat} {c3a : Option Addr} {c3n c3c : Nat} {c4a : Option Addr} {c4n c4c : Nat} {c5a : Option Addr} {c5n c5c : Nat} {c6a : Option Addr} {c6n c6c : Nat} {c7a : Option Addr} {c7n c7c : Nat} (ho : o.op = .index 72 x y) (hx : a.eval x = .agg #[.slice c0a c0n c0c, .slice c1a c1n c1c, .slice c2a c2n c2c, .slice c3a c3n c3c, .slice c4a c4n c4c, .slice c5a c5n c5c, .slice c6a c6n c6c, .slice c7a c7n c7c]) (hy : a.eval y = .int .i64 6) (hK : K (a.put o.dst (.slice c6a c6n c6c)) w) : o.wp Try.prog a w K Q := by
  unfold Oper.wp execOp
  simp only [ho, hx, hy]
  go_simp
  exact hK
theorem axc_72_7 {w : World} {a : Act} {K : Act → World → Prop} {Q : Exit → Act → World → Prop} {o : Oper} {x y : Operand} {c0a : Option Addr} {c0n c0c : Nat} {c1a : Option Addr} {c1n c1c : Nat} {c2a : Option Addr} {c2n c2c : Nat} {c3a : Option Addr} {c3n c3c : Nat} {c4a : Option Addr} {c4n c4c : Nat} {c5a : Option Addr} {c5n c5c : Nat} {c6a : Option Addr} {c6n c6c : Nat} {c7a : Option Addr} {c7n c7c : Nat} (ho : o.op = .index 72 x y) (hx : a.eval x = .agg #[.slice c0a c0n c0c, .slice c1a c1n c1c, .slice c2a c2n c2c, .slice c3a c3n c3c, .slice c4a c4n c4c, .slice c5a c5n c5c, .slice c6a c6n c6c, .slice c7a c7n c7c]) (hy : a.eval y = .int .i64 7) (hK : K (a.put o.dst (.slice c7a c7n c7c)) w) : o.wp Try.prog a w K Q := by
  unfold Oper.wp execOp
  simp only [ho, hx, hy]
  go_simp
  exact hK
theorem ixa_50 {w : World} {a : Act} {K : Act → World → Prop} {Q : Exit → Act → World → Prop} {o : Oper} {x y : Operand} {b p k : Nat} (ho : o.op = .indexAddr 50 x y) (hx : a.eval x = .pointer (some ⟨b, p, none⟩)) (hy : a.eval y = .int .i64 (k : Int)) (hk : k < 8) (hK : K (a.put o.dst (.pointer (some ⟨b, p + k, none⟩))) w) : o.wp Try.prog a w K Q := by
  have h0 : (0 : Int) ≤ (k : Int) := by omega
  have h1 : (k : Int) < (8 : Int) := by omega
  unfold Oper.wp execOp
  simp only [ho, hx, hy]
  go_simp
  exact hK
theorem st_3 {w : World} {a : Act} {K : Act → World → Prop} {Q : Exit → Act → World → Prop} {o : Oper} {x y : Operand} {g p : Nat} {ty : TypeId} {cs : Array Value} {c0 : Int} (ho : o.op = .store 3 x y) (hx : a.eval x = .pointer (some ⟨g, p, none⟩)) (hy : a.eval y = .int .i64 c0) (hB : Blk w g ty cs) (hp : p + 0 < cs.size) (hK : ∀ v, K (a.put o.dst v) (w.setCell ⟨g, p, none⟩ (.int .i64 c0))) : o.wp Try.prog a w K Q := by
  have h0 := (hB.cell (p)).trans (Array.getElem?_eq_getElem (by first | omega | (simp; omega)))
  have f0 := hB.frozen (p)
  clear hB
  unfold Oper.wp execOp
  simp only [ho, hx, hy]
  go_simp
  exact hK _
theorem ld_50 {w : World} {a : Act} {K : Act → World → Prop} {Q : Exit → Act → World → Prop} {o : Oper} {x : Operand} {b p : Nat} {c0 c1 c2 c3 c4 c5 c6 c7 : Value} (ho : o.op = .load 50 x) (hx : a.eval x = .pointer (some ⟨b, p, none⟩)) (h0 : w.cell? ⟨b, p, none⟩ = some c0) (h1 : w.cell? ⟨b, p + 1, none⟩ = some c1) (h2 : w.cell? ⟨b, p + 2, none⟩ = some c2) (h3 : w.cell? ⟨b, p + 3, none⟩ = some c3) (h4 : w.cell? ⟨b, p + 4, none⟩ = some c4) (h5 : w.cell? ⟨b, p + 5, none⟩ = some c5) (h6 : w.cell? ⟨b, p + 6, none⟩ = some c6) (h7 : w.cell? ⟨b, p + 7, none⟩ = some c7) (hK : K (a.put o.dst (.agg #[c0, c1, c2, c3, c4, c5, c6, c7])) w) : o.wp Try.prog a w K Q := by
  unfold Oper.wp execOp
  simp only [ho, hx]
  go_simp
  exact hK
theorem st_50 {w : World} {a : Act} {K : Act → World → Prop} {Q : Exit → Act → World → Prop} {o : Oper} {x y : Operand} {g p : Nat} {ty : TypeId} {cs : Array Value} {c0 c1 c2 c3 c4 c5 c6 c7 : Value} (ho : o.op = .store 50 x y) (hx : a.eval x = .pointer (some ⟨g, p, none⟩)) (hy : a.eval y = .agg #[c0, c1, c2, c3, c4, c5, c6, c7]) (k0 : c0.oneCell' = true) (k1 : c1.oneCell' = true) (k2 : c2.oneCell' = true) (k3 : c3.oneCell' = true) (k4 : c4.oneCell' = true) (k5 : c5.oneCell' = true) (k6 : c6.oneCell' = true) (k7 : c7.oneCell' = true) (hB : Blk w g ty cs) (hp : p + 7 < cs.size) (hK : ∀ v, K (a.put o.dst v) ((((((((w.setCell ⟨g, p, none⟩ c0).setCell ⟨g, p + 1, none⟩ c1).setCell ⟨g, p + 2, none⟩ c2).setCell ⟨g, p + 3, none⟩ c3).setCell ⟨g, p + 4, none⟩ c4).setCell ⟨g, p + 5, none⟩ c5).setCell ⟨g, p + 6, none⟩ c6).setCell ⟨g, p + 7, none⟩ c7)) : o.wp Try.prog a w K Q := by
  have h0 := (hB.cell (p)).trans (Array.getElem?_eq_getElem (by first | omega | (simp; omega)))
  have f0 := hB.frozen (p)
  have hB := hB.set_ (p) c0
  have h1 := (hB.cell (p + 1)).trans (Array.getElem?_eq_getElem (by first | omega | (simp; omega)))
  have f1 := hB.frozen (p + 1)
  have hB := hB.set_ (p + 1) c1
  have h2 := (hB.cell (p + 2)).trans (Array.getElem?_eq_getElem (by first | omega | (simp; omega)))
  have f2 := hB.frozen (p + 2)
  have hB := hB.set_ (p + 2) c2
  have h3 := (hB.cell (p + 3)).trans (Array.getElem?_eq_getElem (by first | omega | (simp; omega)))
  have f3 := hB.frozen (p + 3)
  have hB := hB.set_ (p + 3) c3
  have h4 := (hB.cell (p + 4)).trans (Array.getElem?_eq_getElem (by first | omega | (simp; omega)))
  have f4 := hB.frozen (p + 4)
  have hB := hB.set_ (p + 4) c4
  have h5 := (hB.cell (p + 5)).trans (Array.getElem?_eq_getElem (by first | omega | (simp; omega)))
  have f5 := hB.frozen (p + 5)
  have hB := hB.set_ (p + 5) c5
  have h6 := (hB.cell (p + 6)).trans (Array.getElem?_eq_getElem (by first | omega | (simp; omega)))
  have f6 := hB.frozen (p + 6)
  have hB := hB.set_ (p + 6) c6
  have h7 := (hB.cell (p + 7)).trans (Array.getElem?_eq_getElem (by first | omega | (simp; omega)))
  have f7 := hB.frozen (p + 7)
  have s0 := fun w a m => run_store Try.prog w a c0 m k0
  have s1 := fun w a m => run_store Try.prog w a c1 m k1
  have s2 := fun w a m => run_store Try.prog w a c2 m k2
  have s3 := fun w a m => run_store Try.prog w a c3 m k3
  have s4 := fun w a m => run_store Try.prog w a c4 m k4
  have s5 := fun w a m => run_store Try.prog w a c5 m k5
  have s6 := fun w a m => run_store Try.prog w a c6 m k6
  have s7 := fun w a m => run_store Try.prog w a c7 m k7
  clear hB
  unfold Oper.wp execOp
  simp only [ho, hx, hy]
  go_simp
  exact hK _
theorem eql_3 {w : World} {a : Act} {K : Act → World → Prop} {Q : Exit → Act → World → Prop} {o : Oper} {x y : Operand} {m n : Int} (ho : o.op = .binOp .eql 3 x y 3) (hx : a.eval x = .int .i64 m) (hy : a.eval y = .int .i64 n) (hK : K (a.put o.dst (.bool (m == n))) w) : o.wp Try.prog a w K Q := by
  unfold Oper.wp execOp
  simp only [ho, hx, hy]
  go_simp
  exact hK
theorem alloc_24 {w : World} {a : Act} {K : Act → World → Prop} {Q : Exit → Act → World → Prop} {o : Oper} (ho : o.op = .alloc 24) (hK : K (a.put o.dst (.pointer (some ⟨w.heap.size, 0, none⟩))) (w.alloc (.cells #[.int .i64 0, .slice none 0 0] 24))) : o.wp Try.prog a w K Q := by
  unfold Oper.wp execOp
  simp only [ho]
  go_simp
  exact hK
theorem build_24_0 {w : World} {a : Act} {K : Act → World → Prop} {Q : Exit → Act → World → Prop} {o : Oper} {x0 : Operand} {c0 : Int} (ho : o.op = .build 24 #[(0, x0)]) (h0 : a.eval x0 = .int .i64 c0) (hK : K (a.put o.dst (.agg #[.int .i64 c0, .slice none 0 0])) w) : o.wp Try.prog a w K Q := by
  unfold Oper.wp execOp
  simp only [ho, List.map_toArray, List.map_cons, List.map_nil, h0]
  go_simp
  exact hK
theorem row_22_1 {w : World} {a : Act} {K : Act → World → Prop} {Q : Exit → Act → World → Prop} {o : Oper} {x0 : Operand} {c0 c1 : Value} (ho : o.op = .buildSlice 22 1 #[(0, x0)]) (h0 : a.eval x0 = .agg #[c0, c1]) (hK : K (a.put o.dst (.slice (some ⟨w.heap.size, 0, none⟩) 1 1)) (w.alloc (.cells #[c0, c1] 24))) : o.wp Try.prog a w K Q := by
  unfold Oper.wp execOp
  simp only [ho, List.map_toArray, List.map_cons, List.map_nil, h0]
  go_simp
  exact hK
theorem st_22 {w : World} {a : Act} {K : Act → World → Prop} {Q : Exit → Act → World → Prop} {o : Oper} {x y : Operand} {g p : Nat} {ty : TypeId} {cs : Array Value} {c0a : Option Addr} {c0n c0c : Nat} (ho : o.op = .store 22 x y) (hx : a.eval x = .pointer (some ⟨g, p, none⟩)) (hy : a.eval y = .slice c0a c0n c0c) (hB : Blk w g ty cs) (hp : p + 0 < cs.size) (hK : ∀ v, K (a.put o.dst v) (w.setCell ⟨g, p, none⟩ (.slice c0a c0n c0c))) : o.wp Try.prog a w K Q := by
  have h0 := (hB.cell (p)).trans (Array.getElem?_eq_getElem (by first | omega | (simp; omega)))
  have f0 := hB.frozen (p)
  clear hB
  unfold Oper.wp execOp
  simp only [ho, hx, hy]
  go_simp
  exact hK _
theorem neqp_27 {w : World} {a : Act} {K : Act → World → Prop} {Q : Exit → Act → World → Prop} {o : Oper} {x y : Operand} {p : Addr} (ho : o.op = .binOp .neq 27 x y 27) (hx : a.eval x = .pointer (some p)) (hy : a.eval y = .pointer none) (hK : K (a.put o.dst (.bool true)) w) : o.wp Try.prog a w K Q := by
  unfold Oper.wp execOp
  simp only [ho, hx, hy]
  go_simp
  exact hK
theorem neqn_27 {w : World} {a : Act} {K : Act → World → Prop} {Q : Exit → Act → World → Prop} {o : Oper} {x y : Operand} (ho : o.op = .binOp .neq 27 x y 27) (hx : a.eval x = .pointer none) (hy : a.eval y = .pointer none) (hK : K (a.put o.dst (.bool false)) w) : o.wp Try.prog a w K Q := by
  unfold Oper.wp execOp
  simp only [ho, hx, hy]
  go_simp
  exact hK
theorem nilCheck_ {w : World} {a : Act} {K : Act → World → Prop} {Q : Exit → Act → World → Prop} {o : Oper} {x : Operand} {p : Addr} (ho : o.op = .nilCheck x) (hx : a.eval x = .pointer (some p)) (hK : K (a.put o.dst (.pointer (some p))) w) : o.wp Try.prog a w K Q := by
  unfold Oper.wp execOp
  simp only [ho, hx]
  go_simp
  exact hK
theorem fld_48_0 {w : World} {a : Act} {K : Act → World → Prop} {Q : Exit → Act → World → Prop} {o : Oper} {x : Operand} {b p : Nat} (ho : o.op = .fieldAddr 48 x 0) (hx : a.eval x = .pointer (some ⟨b, p, none⟩)) (hK : K (a.put o.dst (.pointer (some ⟨b, p, none⟩))) w) : o.wp Try.prog a w K Q := by
  unfold Oper.wp execOp
  simp only [ho, hx]
  go_simp
  exact hK
theorem ld_46 {w : World} {a : Act} {K : Act → World → Prop} {Q : Exit → Act → World → Prop} {o : Oper} {x : Operand} {p : Addr} {v : Value} (ho : o.op = .load 46 x) (hx : a.eval x = .pointer (some p)) (hc : w.cell? p = some v) (hK : K (a.put o.dst (v)) w) : o.wp Try.prog a w K Q := by
  unfold Oper.wp execOp
  simp only [ho, hx]
  go_simp
  exact hK
theorem build_54_0_1 {w : World} {a : Act} {K : Act → World → Prop} {Q : Exit → Act → World → Prop} {o : Oper} {x0 x1 : Operand} {c0 c1 : Value} {c2 : Int} (ho : o.op = .build 54 #[(0, x0), (1, x1)]) (h0 : a.eval x0 = .agg #[c0, c1]) (h1 : a.eval x1 = .int .i64 c2) (hK : K (a.put o.dst (.agg #[c0, c1, .int .i64 c2])) w) : o.wp Try.prog a w K Q := by
  unfold Oper.wp execOp
  simp only [ho, List.map_toArray, List.map_cons, List.map_nil, h0, h1]
  go_simp
  exact hK
theorem row_52_1 {w : World} {a : Act} {K : Act → World → Prop} {Q : Exit → Act → World → Prop} {o : Oper} {x0 : Operand} {c0 c1 c2 : Value} (ho : o.op = .buildSlice 52 1 #[(0, x0)]) (h0 : a.eval x0 = .agg #[c0, c1, c2]) (hK : K (a.put o.dst (.slice (some ⟨w.heap.size, 0, none⟩) 1 1)) (w.alloc (.cells #[c0, c1, c2] 54))) : o.wp Try.prog a w K Q := by
  unfold Oper.wp execOp
  simp only [ho, List.map_toArray, List.map_cons, List.map_nil, h0]
  go_simp
  exact hK
theorem ext2_0 {w : World} {a : Act} {K : Act → World → Prop} {Q : Exit → Act → World → Prop} {o : Oper} {x : Operand} {v0 v1 : Value} (ho : o.op = .extract x 0) (hx : a.eval x = .tuple #[v0, v1]) (hK : K (a.put o.dst (v0)) w) : o.wp Try.prog a w K Q := by
  unfold Oper.wp execOp
  simp only [ho, hx]
  go_simp
  exact hK
theorem ext3_0 {w : World} {a : Act} {K : Act → World → Prop} {Q : Exit → Act → World → Prop} {o : Oper} {x : Operand} {v0 v1 v2 : Value} (ho : o.op = .extract x 0) (hx : a.eval x = .tuple #[v0, v1, v2]) (hK : K (a.put o.dst (v0)) w) : o.wp Try.prog a w K Q := by
  unfold Oper.wp execOp
  simp only [ho, hx]
  go_simp
  exact hK
theorem ext2_1 {w : World} {a : Act} {K : Act → World → Prop} {Q : Exit → Act → World → Prop} {o : Oper} {x : Operand} {v0 v1 : Value} (ho : o.op = .extract x 1) (hx : a.eval x = .tuple #[v0, v1]) (hK : K (a.put o.dst (v1)) w) : o.wp Try.prog a w K Q := by
  unfold Oper.wp execOp
  simp only [ho, hx]
  go_simp
  exact hK
theorem ext3_1 {w : World} {a : Act} {K : Act → World → Prop} {Q : Exit → Act → World → Prop} {o : Oper} {x : Operand} {v0 v1 v2 : Value} (ho : o.op = .extract x 1) (hx : a.eval x = .tuple #[v0, v1, v2]) (hK : K (a.put o.dst (v1)) w) : o.wp Try.prog a w K Q := by
  unfold Oper.wp execOp
  simp only [ho, hx]
  go_simp
  exact hK
theorem fld_48_1 {w : World} {a : Act} {K : Act → World → Prop} {Q : Exit → Act → World → Prop} {o : Oper} {x : Operand} {b p : Nat} (ho : o.op = .fieldAddr 48 x 1) (hx : a.eval x = .pointer (some ⟨b, p, none⟩)) (hK : K (a.put o.dst (.pointer (some ⟨b, p + 1, none⟩))) w) : o.wp Try.prog a w K Q := by
  unfold Oper.wp execOp
  simp only [ho, hx]
  go_simp
  exact hK
theorem box_56 {w : World} {a : Act} {K : Act → World → Prop} {Q : Exit → Act → World → Prop} {o : Oper} {x : Operand} {c0f : Fn} {c0x c0y : Array Value} (ho : o.op = .box 56 x) (hx : a.eval x = .func c0f c0x c0y) (hK : K (a.put o.dst (.pointer (some ⟨w.heap.size, 0, none⟩))) (w.alloc (.cells #[.func c0f c0x c0y] 56))) : o.wp Try.prog a w K Q := by
  unfold Oper.wp execOp
  simp only [ho, hx]
  go_simp
  exact hK
theorem alloc_75 {w : World} {a : Act} {K : Act → World → Prop} {Q : Exit → Act → World → Prop} {o : Oper} (ho : o.op = .alloc 75) (hK : K (a.put o.dst (.pointer (some ⟨w.heap.size, 0, none⟩))) (w.alloc (.cells #[.nilFunc] 75))) : o.wp Try.prog a w K Q := by
  unfold Oper.wp execOp
  simp only [ho]
  go_simp
  exact hK
theorem st_75 {w : World} {a : Act} {K : Act → World → Prop} {Q : Exit → Act → World → Prop} {o : Oper} {x y : Operand} {g p : Nat} {ty : TypeId} {cs : Array Value} {c0f : Fn} {c0x c0y : Array Value} (ho : o.op = .store 75 x y) (hx : a.eval x = .pointer (some ⟨g, p, none⟩)) (hy : a.eval y = .func c0f c0x c0y) (hB : Blk w g ty cs) (hp : p + 0 < cs.size) (hK : ∀ v, K (a.put o.dst v) (w.setCell ⟨g, p, none⟩ (.func c0f c0x c0y))) : o.wp Try.prog a w K Q := by
  have h0 := (hB.cell (p)).trans (Array.getElem?_eq_getElem (by first | omega | (simp; omega)))
  have f0 := hB.frozen (p)
  have s0 := fun w a m => run_store Try.prog w a (.func c0f c0x c0y) m rfl
  clear hB
  unfold Oper.wp execOp
  simp only [ho, hx, hy]
  go_simp
  exact hK _
theorem ld_75 {w : World} {a : Act} {K : Act → World → Prop} {Q : Exit → Act → World → Prop} {o : Oper} {x : Operand} {p : Addr} {v : Value} (ho : o.op = .load 75 x) (hx : a.eval x = .pointer (some p)) (hc : w.cell? p = some v) (hK : K (a.put o.dst (v)) w) : o.wp Try.prog a w K Q := by
  unfold Oper.wp execOp
  simp only [ho, hx]
  go_simp
  exact hK
theorem len_52 {w : World} {a : Act} {K : Act → World → Prop} {Q : Exit → Act → World → Prop} {o : Oper} {x : Operand} {r : Option Addr} {n c : Nat} (ho : o.op = .call { callee := .builtin .len, args := #[x], argTypes := #[52] }) (hx : a.eval x = .slice r n c) (hK : K (a.put o.dst (.int .i64 n)) w) : o.wp Try.prog a w K Q := by
  unfold Oper.wp execOp
  simp only [ho, resolve, List.map_toArray, List.map_cons, List.map_nil, hx]
  go_simp
  exact hK
theorem ix_52 {w : World} {a : Act} {K : Act → World → Prop} {Q : Exit → Act → World → Prop} {o : Oper} {x y : Operand} {r : Option Addr} {b p n c k : Nat} (ho : o.op = .indexAddr 52 x y) (hx : a.eval x = .slice r n c) (hr : r = some ⟨b, p, none⟩) (hy : a.eval y = .int .i64 (k : Int)) (hk : k < n) (hK : K (a.put o.dst (.pointer (some ⟨b, p + k * 3, none⟩))) w) : o.wp Try.prog a w K Q := by
  subst hr
  have h0 : (0 : Int) ≤ (k : Int) := by omega
  have h1 : (k : Int) < (n : Int) := by omega
  unfold Oper.wp execOp
  simp only [ho, hx, hy]
  go_simp
  exact hK
theorem ld_54 {w : World} {a : Act} {K : Act → World → Prop} {Q : Exit → Act → World → Prop} {o : Oper} {x : Operand} {b p : Nat} {c0 c1 c2 : Value} (ho : o.op = .load 54 x) (hx : a.eval x = .pointer (some ⟨b, p, none⟩)) (h0 : w.cell? ⟨b, p, none⟩ = some c0) (h1 : w.cell? ⟨b, p + 1, none⟩ = some c1) (h2 : w.cell? ⟨b, p + 2, none⟩ = some c2) (hK : K (a.put o.dst (.agg #[c0, c1, c2])) w) : o.wp Try.prog a w K Q := by
  unfold Oper.wp execOp
  simp only [ho, hx]
  go_simp
  exact hK
theorem alloc_54 {w : World} {a : Act} {K : Act → World → Prop} {Q : Exit → Act → World → Prop} {o : Oper} (ho : o.op = .alloc 54) (hK : K (a.put o.dst (.pointer (some ⟨w.heap.size, 0, none⟩))) (w.alloc (.cells #[.int .i64 0, .slice none 0 0, .int .i64 0] 54))) : o.wp Try.prog a w K Q := by
  unfold Oper.wp execOp
  simp only [ho]
  go_simp
  exact hK
theorem st_54 {w : World} {a : Act} {K : Act → World → Prop} {Q : Exit → Act → World → Prop} {o : Oper} {x y : Operand} {g p : Nat} {ty : TypeId} {cs : Array Value} {c0 c1 c2 : Value} (ho : o.op = .store 54 x y) (hx : a.eval x = .pointer (some ⟨g, p, none⟩)) (hy : a.eval y = .agg #[c0, c1, c2]) (k0 : c0.oneCell' = true) (k1 : c1.oneCell' = true) (k2 : c2.oneCell' = true) (hB : Blk w g ty cs) (hp : p + 2 < cs.size) (hK : ∀ v, K (a.put o.dst v) (((w.setCell ⟨g, p, none⟩ c0).setCell ⟨g, p + 1, none⟩ c1).setCell ⟨g, p + 2, none⟩ c2)) : o.wp Try.prog a w K Q := by
  have h0 := (hB.cell (p)).trans (Array.getElem?_eq_getElem (by first | omega | (simp; omega)))
  have f0 := hB.frozen (p)
  have hB := hB.set_ (p) c0
  have h1 := (hB.cell (p + 1)).trans (Array.getElem?_eq_getElem (by first | omega | (simp; omega)))
  have f1 := hB.frozen (p + 1)
  have hB := hB.set_ (p + 1) c1
  have h2 := (hB.cell (p + 2)).trans (Array.getElem?_eq_getElem (by first | omega | (simp; omega)))
  have f2 := hB.frozen (p + 2)
  have s0 := fun w a m => run_store Try.prog w a c0 m k0
  have s1 := fun w a m => run_store Try.prog w a c1 m k1
  have s2 := fun w a m => run_store Try.prog w a c2 m k2
  clear hB
  unfold Oper.wp execOp
  simp only [ho, hx, hy]
  go_simp
  exact hK _
theorem fld_54_1 {w : World} {a : Act} {K : Act → World → Prop} {Q : Exit → Act → World → Prop} {o : Oper} {x : Operand} {b p : Nat} (ho : o.op = .fieldAddr 54 x 1) (hx : a.eval x = .pointer (some ⟨b, p, none⟩)) (hK : K (a.put o.dst (.pointer (some ⟨b, p + 2, none⟩))) w) : o.wp Try.prog a w K Q := by
  unfold Oper.wp execOp
  simp only [ho, hx]
  go_simp
  exact hK
theorem row_31_1 {w : World} {a : Act} {K : Act → World → Prop} {Q : Exit → Act → World → Prop} {o : Oper} {x0 : Operand} {c0 : Int} (ho : o.op = .buildSlice 31 1 #[(0, x0)]) (h0 : a.eval x0 = .int .i64 c0) (hK : K (a.put o.dst (.slice (some ⟨w.heap.size, 0, none⟩) 1 1)) (w.alloc (.cells #[.int .i64 c0] 3))) : o.wp Try.prog a w K Q := by
  unfold Oper.wp execOp
  simp only [ho, List.map_toArray, List.map_cons, List.map_nil, h0]
  go_simp
  exact hK
theorem box_50 {w : World} {a : Act} {K : Act → World → Prop} {Q : Exit → Act → World → Prop} {o : Oper} {x : Operand} {c0 c1 c2 c3 c4 c5 c6 c7 : Value} (ho : o.op = .box 50 x) (hx : a.eval x = .agg #[c0, c1, c2, c3, c4, c5, c6, c7]) (hK : K (a.put o.dst (.pointer (some ⟨w.heap.size, 0, none⟩))) (w.alloc (.cells #[c0, c1, c2, c3, c4, c5, c6, c7] 50))) : o.wp Try.prog a w K Q := by
  unfold Oper.wp execOp
  simp only [ho, hx]
  go_simp
  exact hK
theorem ld_56 {w : World} {a : Act} {K : Act → World → Prop} {Q : Exit → Act → World → Prop} {o : Oper} {x : Operand} {p : Addr} {v : Value} (ho : o.op = .load 56 x) (hx : a.eval x = .pointer (some p)) (hc : w.cell? p = some v) (hK : K (a.put o.dst (v)) w) : o.wp Try.prog a w K Q := by
  unfold Oper.wp execOp
  simp only [ho, hx]
  go_simp
  exact hK
theorem subb_3 {w : World} {a : Act} {K : Act → World → Prop} {Q : Exit → Act → World → Prop} {o : Oper} {x y : Operand} {m n r : Int} (ho : o.op = .binOp .sub 3 x y 3) (hx : a.eval x = .int .i64 m) (hy : a.eval y = .int .i64 n) (hr : IntKind.i64.wrap (m - n) = r) (hK : K (a.put o.dst (.int .i64 r)) w) : o.wp Try.prog a w K Q := by
  subst hr
  unfold Oper.wp execOp
  simp only [ho, hx, hy]
  go_simp
  exact hK
theorem build_24_0_1 {w : World} {a : Act} {K : Act → World → Prop} {Q : Exit → Act → World → Prop} {o : Oper} {x0 x1 : Operand} {c0 : Int} {c1a : Option Addr} {c1n c1c : Nat} (ho : o.op = .build 24 #[(0, x0), (1, x1)]) (h0 : a.eval x0 = .int .i64 c0) (h1 : a.eval x1 = .slice c1a c1n c1c) (hK : K (a.put o.dst (.agg #[.int .i64 c0, .slice c1a c1n c1c])) w) : o.wp Try.prog a w K Q := by
  unfold Oper.wp execOp
  simp only [ho, List.map_toArray, List.map_cons, List.map_nil, h0, h1]
  go_simp
  exact hK
theorem len_31 {w : World} {a : Act} {K : Act → World → Prop} {Q : Exit → Act → World → Prop} {o : Oper} {x : Operand} {r : Option Addr} {n c : Nat} (ho : o.op = .call { callee := .builtin .len, args := #[x], argTypes := #[31] }) (hx : a.eval x = .slice r n c) (hK : K (a.put o.dst (.int .i64 n)) w) : o.wp Try.prog a w K Q := by
  unfold Oper.wp execOp
  simp only [ho, resolve, List.map_toArray, List.map_cons, List.map_nil, hx]
  go_simp
  exact hK
theorem neq_3 {w : World} {a : Act} {K : Act → World → Prop} {Q : Exit → Act → World → Prop} {o : Oper} {x y : Operand} {m n : Int} (ho : o.op = .binOp .neq 3 x y 3) (hx : a.eval x = .int .i64 m) (hy : a.eval y = .int .i64 n) (hK : K (a.put o.dst (.bool (m != n))) w) : o.wp Try.prog a w K Q := by
  unfold Oper.wp execOp
  simp only [ho, hx, hy]
  go_simp
  exact hK
theorem ix_31 {w : World} {a : Act} {K : Act → World → Prop} {Q : Exit → Act → World → Prop} {o : Oper} {x y : Operand} {r : Option Addr} {b p n c k : Nat} (ho : o.op = .indexAddr 31 x y) (hx : a.eval x = .slice r n c) (hr : r = some ⟨b, p, none⟩) (hy : a.eval y = .int .i64 (k : Int)) (hk : k < n) (hK : K (a.put o.dst (.pointer (some ⟨b, p + k, none⟩))) w) : o.wp Try.prog a w K Q := by
  subst hr
  have h0 : (0 : Int) ≤ (k : Int) := by omega
  have h1 : (k : Int) < (n : Int) := by omega
  unfold Oper.wp execOp
  simp only [ho, hx, hy]
  go_simp
  exact hK
theorem eqlp_27 {w : World} {a : Act} {K : Act → World → Prop} {Q : Exit → Act → World → Prop} {o : Oper} {x y : Operand} {p : Addr} (ho : o.op = .binOp .eql 27 x y 27) (hx : a.eval x = .pointer (some p)) (hy : a.eval y = .pointer none) (hK : K (a.put o.dst (.bool false)) w) : o.wp Try.prog a w K Q := by
  unfold Oper.wp execOp
  simp only [ho, hx, hy]
  go_simp
  exact hK
theorem row_22_2 {w : World} {a : Act} {K : Act → World → Prop} {Q : Exit → Act → World → Prop} {o : Oper} {x0 x1 : Operand} {c0 c1 : Value} {c2 c3 : Value} (ho : o.op = .buildSlice 22 2 #[(0, x0), (1, x1)]) (h0 : a.eval x0 = .agg #[c0, c1]) (h1 : a.eval x1 = .agg #[c2, c3]) (hK : K (a.put o.dst (.slice (some ⟨w.heap.size, 0, none⟩) 2 2)) (w.alloc (.cells #[c0, c1, c2, c3] 24))) : o.wp Try.prog a w K Q := by
  unfold Oper.wp execOp
  simp only [ho, List.map_toArray, List.map_cons, List.map_nil, h0, h1]
  go_simp
  exact hK
theorem neq_29 {w : World} {a : Act} {K : Act → World → Prop} {Q : Exit → Act → World → Prop} {o : Oper} {x y : Operand} {m n : Int} (ho : o.op = .binOp .neq 29 x y 29) (hx : a.eval x = .int .i64 m) (hy : a.eval y = .int .i64 n) (hK : K (a.put o.dst (.bool (m != n))) w) : o.wp Try.prog a w K Q := by
  unfold Oper.wp execOp
  simp only [ho, hx, hy]
  go_simp
  exact hK
theorem row_31_3 {w : World} {a : Act} {K : Act → World → Prop} {Q : Exit → Act → World → Prop} {o : Oper} {x0 x1 x2 : Operand} {c0 : Int} {c1 : Int} {c2 : Int} (ho : o.op = .buildSlice 31 3 #[(0, x0), (1, x1), (2, x2)]) (h0 : a.eval x0 = .int .i64 c0) (h1 : a.eval x1 = .int .i64 c1) (h2 : a.eval x2 = .int .i64 c2) (hK : K (a.put o.dst (.slice (some ⟨w.heap.size, 0, none⟩) 3 3)) (w.alloc (.cells #[.int .i64 c0, .int .i64 c1, .int .i64 c2] 3))) : o.wp Try.prog a w K Q := by
  unfold Oper.wp execOp
  simp only [ho, List.map_toArray, List.map_cons, List.map_nil, h0, h1, h2]
  go_simp
  exact hK
theorem row_31_2 {w : World} {a : Act} {K : Act → World → Prop} {Q : Exit → Act → World → Prop} {o : Oper} {x0 x1 : Operand} {c0 : Int} {c1 : Int} (ho : o.op = .buildSlice 31 2 #[(0, x0), (1, x1)]) (h0 : a.eval x0 = .int .i64 c0) (h1 : a.eval x1 = .int .i64 c1) (hK : K (a.put o.dst (.slice (some ⟨w.heap.size, 0, none⟩) 2 2)) (w.alloc (.cells #[.int .i64 c0, .int .i64 c1] 3))) : o.wp Try.prog a w K Q := by
  unfold Oper.wp execOp
  simp only [ho, List.map_toArray, List.map_cons, List.map_nil, h0, h1]
  go_simp
  exact hK
theorem eql_29 {w : World} {a : Act} {K : Act → World → Prop} {Q : Exit → Act → World → Prop} {o : Oper} {x y : Operand} {m n : Int} (ho : o.op = .binOp .eql 29 x y 29) (hx : a.eval x = .int .i64 m) (hy : a.eval y = .int .i64 n) (hK : K (a.put o.dst (.bool (m == n))) w) : o.wp Try.prog a w K Q := by
  unfold Oper.wp execOp
  simp only [ho, hx, hy]
  go_simp
  exact hK
theorem gtr_3 {w : World} {a : Act} {K : Act → World → Prop} {Q : Exit → Act → World → Prop} {o : Oper} {x y : Operand} {m n : Int} (ho : o.op = .binOp .gtr 3 x y 3) (hx : a.eval x = .int .i64 m) (hy : a.eval y = .int .i64 n) (hK : K (a.put o.dst (.bool (decide (n < m)))) w) : o.wp Try.prog a w K Q := by
  unfold Oper.wp execOp
  simp only [ho, hx, hy]
  go_simp
  exact hK
end Go.Proofs.Ytibncmnmjhimeaa
