/- What two substitutions do together. -/
import Derived.Test.YtgechlgdnnpoeaaSubPuts
import Derived.Test.YtgechlgdnnpoeaaTail3
namespace Go.Proofs.Ytgechlgdnnpoeaa
open Go.RowKit Go

/-- A binding whose term is new. -/
def BdNew (w0 w : World) (x : Bd) (v : Value) : Prop := ∃ u v', v = .agg #[.int .i64 x.var, u, v'] ∧ I64 x.var ∧ NewT w0 w x.t (.agg #[u, v'])
theorem BdNew.chg {w0 w w' : World} {x : Bd} {v : Value} {S : Nat → Prop} (h : BdNew w0 w x v) (hc : Chg S w w') (hS : ∀ b, S b → b < w0.heap.size) : BdNew w0 w' x v := by
  obtain ⟨u, v', e, h0, h1⟩ := h
  exact ⟨u, v', e, h0, InT.chg h1 hc (fun b hb hs => by have := hS b hs; omega)⟩

def Bd.ap (s : List Bd) (x : Bd) : Bd := ⟨x.var, x.t.app s⟩
def cxr (a b : List Bd) : List Bd := b.filter fun y => (subFind a y.var).isNone
def cx (a b : List Bd) : List Bd := a.map (Bd.ap b) ++ cxr a b
theorem take_ap {s l : List Bd} {k : Nat} (h : k < l.length) : (l.take k).map (Bd.ap s) ++ [(dget l k).ap s] = (l.take (k + 1)).map (Bd.ap s) := by
  rw [List.take_succ_eq_append_getElem h, List.map_append, dget_lt h]; rfl
theorem take_cxr {a b L : List Bd} {k : Nat} (h : k < b.length) (hn : subFind a (dget b k).var = none) : (L ++ cxr a (b.take k)) ++ [dget b k] = L ++ cxr a (b.take (k + 1)) := by
  unfold cxr
  rw [List.take_succ_eq_append_getElem h, List.filter_append, List.append_assoc, dget_lt h]
  rw [dget_lt h] at hn
  simp [hn]
theorem skip_cxr {a b L : List Bd} {k : Nat} {t : T} (h : k < b.length) (hn : subFind a (dget b k).var = some t) : L ++ cxr a (b.take k) = L ++ cxr a (b.take (k + 1)) := by
  unfold cxr
  rw [List.take_succ_eq_append_getElem h, List.filter_append]
  rw [dget_lt h] at hn
  simp [hn]
theorem len_cxr (a b : List Bd) : (cxr a b).length ≤ b.length := List.length_filter_le _ _

theorem subFind_isSome {l : List Bd} {m : Int} : (subFind l m).isSome = true ↔ ∃ b ∈ l, b.var = m := by
  unfold subFind
  rw [Option.isSome_map, List.find?_isSome]
  simp
/-- What is told: in order, and what is itself is left out. -/
structure CompOf (a b R : List Bd) : Prop where
  sorted : R.Pairwise fun x y => x.var < y.var
  mem : ∀ x, x ∈ R ↔ x ∈ cx a b ∧ x.itself = false
theorem sorted_ext : ∀ {l l' : List Bd}, l.Pairwise (fun x y => x.var < y.var) → l'.Pairwise (fun x y => x.var < y.var) → (∀ x, x ∈ l ↔ x ∈ l') → l = l'
  | [], [], _, _, _ => rfl
  | [], y :: r, _, _, h => absurd ((h y).2 (by simp)) (by simp)
  | x :: r, [], _, _, h => absurd ((h x).1 (by simp)) (by simp)
  | x :: r, y :: q, h1, h2, h => by
    obtain ⟨h3, h4⟩ := List.pairwise_cons.1 h1
    obtain ⟨h5, h6⟩ := List.pairwise_cons.1 h2
    have e : x = y := by
      rcases List.mem_cons.1 ((h x).1 (by simp)) with e | hx
      · exact e
      · rcases List.mem_cons.1 ((h y).2 (by simp)) with e | hy
        · exact e.symm
        · have := h5 x hx; have := h3 y hy; omega
    subst e
    congr 1
    refine sorted_ext h4 h6 fun z => ?_
    constructor
    · intro hz
      rcases List.mem_cons.1 ((h z).1 (by simp [hz])) with e | hz'
      · subst e; have := h3 z hz; omega
      · exact hz'
    · intro hz
      rcases List.mem_cons.1 ((h z).2 (by simp [hz])) with e | hz'
      · subst e; have := h5 z hz; omega
      · exact hz'
theorem CompOf.unique {a b R R' : List Bd} (h : CompOf a b R) (h' : CompOf a b R') : R = R' := sorted_ext h.sorted h'.sorted fun x => (h.mem x).trans (h'.mem x).symm

theorem cx_distinct {a b : List Bd} (ha : a.Pairwise fun x y => x.var < y.var) (hb : b.Pairwise fun x y => x.var < y.var) : (cx a b).Pairwise fun x y => x.var ≠ y.var := by
  unfold cx
  refine List.pairwise_append.2 ⟨?_, ?_, ?_⟩
  · rw [List.pairwise_map]
    exact ha.imp fun h e => by simp only [Bd.ap] at e; omega
  · exact (hb.filter _).imp fun h e => by omega
  · intro x hx y hy e
    obtain ⟨x', hx', rfl⟩ := List.mem_map.1 hx
    obtain ⟨_, hy2⟩ := List.mem_filter.1 hy
    have : (subFind a y.var).isSome = true := subFind_isSome.2 ⟨x', hx', e⟩
    rw [Option.isSome_iff_ne_none] at this
    simp at hy2
    exact this hy2
/-- What was sorted, and has lost what is itself, is it. -/
theorem compOf_sorted {a b L : List Bd} (ha : subOk (-1) a = true) (hb : subOk (-1) b = true) (hp : L.Perm (cx a b)) (hs : L.Pairwise fun x y => x.var ≤ y.var) : CompOf a b (L.filter fun x => !x.itself) := by
  have hd := cx_distinct (subOk_sorted a _ ha).2 (subOk_sorted b _ hb).2
  have hd' : L.Pairwise fun x y => x.var ≠ y.var := (hp.pairwise_iff fun h e => h e.symm).2 hd
  refine ⟨?_, fun x => ?_⟩
  · exact ((hs.and hd').imp fun ⟨h1, h2⟩ => by omega).filter _
  · rw [List.mem_filter, hp.mem_iff]; simp

end Go.Proofs.Ytgechlgdnnpoeaa
