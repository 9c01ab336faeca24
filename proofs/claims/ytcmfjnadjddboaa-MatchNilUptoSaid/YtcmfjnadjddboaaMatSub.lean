/- What a matcher tells of what is bound: plain. -/
import Derived.Test.YtcmfjnadjddboaaMat
namespace Go.Proofs.Ytcmfjnadjddboaa
open Go.RowKit Go

/-- What is told: in order, and what is itself is left out. -/
structure SubOf (st R : List Bd) : Prop where
  sorted : R.Pairwise fun x y => x.var < y.var
  mem : ∀ x, x ∈ R ↔ x ∈ st ∧ x.itself = false
theorem bds_ext : ∀ {l l' : List Bd}, l.Pairwise (fun x y => x.var < y.var) → l'.Pairwise (fun x y => x.var < y.var) → (∀ x, x ∈ l ↔ x ∈ l') → l = l'
  | [], [], _, _, _ => rfl
  | [], y :: r, _, _, h => absurd ((h y).2 (by simp)) (by simp)
  | x :: r, [], _, _, h => absurd ((h x).1 (by simp)) (by simp)
  | x :: r, y :: q, h1, h2, h => by
    obtain ⟨h3, h4⟩ := List.pairwise_cons.1 h1
    obtain ⟨h5, h6⟩ := List.pairwise_cons.1 h2
    have e : x = y := by
      rcases List.mem_cons.1 ((h x).1 (by simp)) with e | hx
      · exact e
      · rcases List.mem_cons.1 ((h y).2 (by simp)) with e | hy
        · exact e.symm
        · have := h5 x hx; have := h3 y hy; omega
    subst e
    congr 1
    refine bds_ext h4 h6 fun z => ?_
    constructor
    · intro hz
      rcases List.mem_cons.1 ((h z).1 (by simp [hz])) with e | hz'
      · subst e; have := h3 z hz; omega
      · exact hz'
    · intro hz
      rcases List.mem_cons.1 ((h z).2 (by simp [hz])) with e | hz'
      · subst e; have := h5 z hz; omega
      · exact hz'
theorem SubOf.unique {st R R' : List Bd} (h : SubOf st R) (h' : SubOf st R') : R = R' := bds_ext h.sorted h'.sorted fun x => (h.mem x).trans (h'.mem x).symm
theorem subOf_sorted {st L : List Bd} (hn : (st.map (·.var)).Nodup) (hp : L.Perm (st.filter fun x => !x.itself)) (hs : L.Pairwise fun x y => x.var ≤ y.var) : SubOf st L := by
  have hd : (st.filter fun x => !x.itself).Pairwise fun x y => x.var ≠ y.var := by
    unfold List.Nodup at hn
    rw [List.pairwise_map] at hn
    exact hn.filter _
  have hd' : L.Pairwise fun x y => x.var ≠ y.var := (hp.pairwise_iff fun h e => h e.symm).2 hd
  refine ⟨(hs.and hd').imp fun ⟨h1, h2⟩ => by omega, fun x => ?_⟩
  rw [hp.mem_iff, List.mem_filter]; simp
theorem nodup_len : ∀ {R st : List Bd}, R.Nodup → (∀ x ∈ R, x ∈ st) → R.length ≤ st.length
  | [], _, _, _ => Nat.zero_le _
  | x :: R, st, hn, h => by
    obtain ⟨h1, h2⟩ := List.nodup_cons.1 hn
    obtain ⟨s, t, rfl⟩ := List.append_of_mem (h x (by simp))
    have := nodup_len (R := R) (st := s ++ t) h2 fun y hy => by
      have hy2 := h y (by simp [hy])
      simp only [List.mem_append, List.mem_cons] at hy2 ⊢
      rcases hy2 with q | rfl | q
      · exact .inl q
      · exact absurd hy h1
      · exact .inr q
    simp only [List.length_append, List.length_cons] at this ⊢
    omega
theorem SubOf.length_le {st R : List Bd} (h : SubOf st R) : R.length ≤ st.length := by
  have hn : R.Nodup := h.sorted.imp fun h e => by rw [e] at h; omega
  exact nodup_len hn fun x hx => ((h.mem x).1 hx).1

/-- An entry of the map, as a binding. -/
def bdOf (st : List Bd) (y : Int × Value) : Bd := ⟨y.1, (subFind st y.1).getD (.mk 0 [])⟩
theorem subFind_dget : ∀ {st : List Bd} {i : Nat}, (st.map (·.var)).Nodup → i < st.length → subFind st (dget st i).var = some (dget st i).t
  | b :: st, 0, _, _ => by simp [subFind, dget]
  | b :: st, i + 1, hn, hi => by
    rw [List.map_cons, List.nodup_cons] at hn
    have hi' : i < st.length := by simpa using hi
    have e : dget (b :: st) (i + 1) = dget st i := by simp [dget]
    have hne : ¬ b.var = (dget st i).var := fun q => hn.1 (q ▸ List.mem_map_of_mem (dget_mem hi'))
    have := subFind_dget (st := st) hn.2 hi'
    rw [e]
    simpa [subFind, hne] using this
theorem bdOf_at {st : List Bd} {y : Int × Value} {i : Nat} (hn : (st.map (·.var)).Nodup) (hi : i < st.length) (hy : y.1 = (dget st i).var) : bdOf st y = dget st i := by
  unfold bdOf; rw [hy, subFind_dget hn hi]; rfl
theorem zip_at {st : List Bd} {ps : List Value} {y : Int × Value} (hl : ps.length = st.length) (hy : y ∈ (st.map (·.var)).zip ps) : ∃ i, i < st.length ∧ y.1 = (dget st i).var ∧ y.2 = ps.getD i undef := by
  obtain ⟨i, hi, rfl⟩ := List.getElem_of_mem hy
  have h1 : i < st.length := by simp at hi; omega
  refine ⟨i, h1, ?_, ?_⟩
  · rw [List.getElem_zip, dget_lt h1]; simp
  · rw [List.getElem_zip, List.getD_eq_getElem?_getD, List.getElem?_eq_getElem (by omega)]; rfl
theorem map_bdOf {st : List Bd} {ps : List Value} (hn : (st.map (·.var)).Nodup) (hl : ps.length = st.length) : ((st.map (·.var)).zip ps).map (bdOf st) = st := by
  apply List.ext_getElem (by simp [hl])
  intro i h1 h2
  rw [List.getElem_map, bdOf_at hn h2 (by rw [List.getElem_zip, dget_lt h2]; simp), dget_lt h2]
/-- The bindings of the entries that were handed out. -/
def told (st : List Bd) (done : List (Int × Value)) : List Bd := (done.map (bdOf st)).filter fun x => !x.itself
structure SX where
  done : List (Int × Value)
  rest : List (Int × Value)
  seen : Array Nat
  a : Option Addr
  c : Nat
  n : Nat
section
variable {st : List Bd} {ps : List Value} {es : Array MapEntry} {seen : Array Nat} {done rest : List (Int × Value)}
theorem told_new {y : Int × Value} {b : Bd} (h : bdOf st y = b) (hi : ¬ b.itself = true) : told st (done ++ [y]) = told st done ++ [b] := by
  unfold told; rw [List.map_append, List.filter_append]; simp [h, hi]
theorem told_self {y : Int × Value} {b : Bd} (h : bdOf st y = b) (hi : b.itself = true) : told st (done ++ [y]) = told st done := by
  unfold told; rw [List.map_append, List.filter_append]; simp [h, hi]
theorem told_le (hl : ps.length = st.length) (h : ItE es ((st.map (·.var)).zip ps) seen done rest) : (told st done).length ≤ st.length := by
  have h1 := h.perm.length_eq
  have h2 : (told st done).length ≤ (done.map (bdOf st)).length := List.length_filter_le _ _
  simp at h1 h2; omega
theorem told_lt (hl : ps.length = st.length) (h : ItE es ((st.map (·.var)).zip ps) seen done rest) (hr : 0 < rest.length) : (told st done).length < st.length := by
  have h1 := h.perm.length_eq
  have h2 : (told st done).length ≤ (done.map (bdOf st)).length := List.length_filter_le _ _
  simp at h1 h2; omega
theorem told_all (hn : (st.map (·.var)).Nodup) (hl : ps.length = st.length) (h : ItE es ((st.map (·.var)).zip ps) seen done []) : (told st done).Perm (st.filter fun x => !x.itself) := by
  have h1 := h.perm
  rw [List.append_nil] at h1
  have h2 := (h1.map (bdOf st)).filter (fun x => !x.itself)
  rwa [map_bdOf hn hl] at h2
theorem it_mem {y : Int × Value} {rest' : List (Int × Value)} (h : ItE es ((st.map (·.var)).zip ps) seen done rest) (hp : rest.Perm (y :: rest')) : y ∈ (st.map (·.var)).zip ps := by
  rw [← h.perm.mem_iff, List.mem_append]
  exact .inr (hp.mem_iff.2 (by simp))
end
theorem itself_iff {b : Bd} : b.itself = true ↔ b.t.f = -1 - b.var ∧ b.t.args.length = 0 := by unfold Bd.itself; simp
theorem ext1_0 {P : Program} {w : World} {a : Act} {K : Act → World → Prop} {Q : Exit → Act → World → Prop} {o : Oper} {x : Operand} {v0 : Value} (ho : o.op = .extract x 0) (hx : a.eval x = .tuple #[v0]) (hK : K (a.put o.dst (v0)) w) : o.wp P a w K Q := by
  unfold Oper.wp execOp
  simp only [ho, hx]
  go_simp
  exact hK
def BdNew (w0 w : World) (x : Bd) (v : Value) : Prop := ∃ u v', v = .agg #[.int .i64 x.var, u, v'] ∧ I64 x.var ∧ NewT w0 w x.t (.agg #[u, v'])
theorem BdNew.chg {w0 w w' : World} {x : Bd} {v : Value} {S : Nat → Prop} (h : BdNew w0 w x v) (hc : Chg S w w') (hS : ∀ b, S b → b < w0.heap.size) : BdNew w0 w' x v := by
  obtain ⟨u, v', e, h0, h1⟩ := h
  exact ⟨u, v', e, h0, InT.chg h1 hc (fun b hb hs => by have := hS b hs; omega)⟩
/-- A row of bindings that was made since. -/
def NewBs (w0 w : World) (R : List Bd) (a : Option Addr) (c : Nat) : Prop := InRow eltB (fun b => w0.heap.size ≤ b) w R a ∧ R.length ≤ c ∧ c ≤ maxLen
theorem NewBs.below {w0 w w' : World} {R : List Bd} {a : Option Addr} {c : Nat} (h : NewBs w0 w R a c) (hb : Below w.heap.size w w') : NewBs w0 w' R a c := ⟨h.1.below hb, h.2⟩

end Go.Proofs.Ytcmfjnadjddboaa
