/- Heaps, plain: by a comparison that is total; putting in, sifting up, taking the first, sifting down. -/
import Derived.Test.YtjhkoiggeepajaaEng
namespace Go.Proofs.Ytjhkoiggeepajaa
open Go.RowKit Go
set_option linter.unusedVariables false
set_option linter.unusedSimpArgs false

/-- What lies in a heap: by what it goes, whose it is, and which time it is there. -/
structure It where
  b0 : Int
  b1 : Int
  id : Int
  tm : Int
deriving DecidableEq
instance : Inhabited It := ⟨⟨0, 0, 0, 0⟩⟩
def cmp3 (a b : Int) : Int := if a < b then -1 else if b < a then 1 else 0
def orI (a b : Int) : Int := if a = 0 then b else a
/-- How two stand. -/
def itc (x y : It) : Int := orI (cmp3 x.b0 y.b0) (orI (cmp3 x.b1 y.b1) (orI (cmp3 x.id y.id) (cmp3 x.tm y.tm)))
def It.le (x y : It) : Prop := x.b0 < y.b0 ∨ (x.b0 = y.b0 ∧ (x.b1 < y.b1 ∨ (x.b1 = y.b1 ∧ (x.id < y.id ∨ (x.id = y.id ∧ x.tm ≤ y.tm)))))
theorem itc_le (x y : It) : itc x y ≤ 0 ↔ x.le y := by
  unfold itc orI cmp3 It.le
  repeat' split
  all_goals omega
theorem itc_lt (x y : It) : itc x y < 0 ↔ ¬ y.le x := by
  unfold itc orI cmp3 It.le
  repeat' split
  all_goals omega
theorem itc_ge (x y : It) : 0 ≤ itc x y ↔ y.le x := by
  unfold itc orI cmp3 It.le
  repeat' split
  all_goals omega
theorem It.le_refl (x : It) : x.le x := by unfold It.le; omega
theorem It.le_trans {x y z : It} (h : x.le y) (k : y.le z) : x.le z := by unfold It.le at *; omega
theorem It.le_total (x y : It) : x.le y ∨ y.le x := by unfold It.le; omega
theorem It.le_anti {x y : It} (h : x.le y) (k : y.le x) : x = y := by
  cases x; cases y
  unfold It.le at h k
  simp only at h k
  simp only [It.mk.injEq]
  omega
def hget (l : List It) (k : Nat) : It := l.getD k default
theorem hget_lt {l : List It} {k : Nat} (h : k < l.length) : hget l k = l[k] := by simp [hget, h]
theorem hget_mem {l : List It} {k : Nat} (h : k < l.length) : hget l k ∈ l := by rw [hget_lt h]; exact List.getElem_mem h
theorem hget_set_eq {l : List It} {k : Nat} {x : It} (h : k < l.length) : hget (l.set k x) k = x := by simp [hget, h]
theorem hget_set_ne {l : List It} {k j : Nat} {x : It} (h : k ≠ j) : hget (l.set k x) j = hget l j := by simp [hget, List.getElem?_set_ne h]
/-- A heap. -/
def IsHeap (l : List It) : Prop := ∀ i, 0 < i → i < l.length → (hget l ((i - 1) / 2)).le (hget l i)
/-- Two places changed. -/
def swp (l : List It) (i j : Nat) : List It := (l.set i (hget l j)).set j (hget l i)
theorem swp_len {l : List It} {i j : Nat} : (swp l i j).length = l.length := by simp [swp]
theorem swp_perm {l : List It} {i j : Nat} (hi : i < l.length) (hj : j < l.length) : (swp l i j).Perm l := by
  unfold swp
  rw [hget_lt hi, hget_lt hj]
  exact List.set_set_perm hi hj
theorem swp_at_i {l : List It} {i j : Nat} (hi : i < l.length) (hj : j < l.length) : hget (swp l i j) i = hget l j := by
  unfold swp
  by_cases h : j = i
  · subst h; rw [hget_set_eq (by simpa using hj)]
  · rw [hget_set_ne h, hget_set_eq hi]
theorem swp_at_j {l : List It} {i j : Nat} (hi : i < l.length) (hj : j < l.length) : hget (swp l i j) j = hget l i := by
  unfold swp
  rw [hget_set_eq (by simpa using hj)]
theorem swp_at {l : List It} {i j k : Nat} (h1 : k ≠ i) (h2 : k ≠ j) : hget (swp l i j) k = hget l k := by
  unfold swp
  rw [hget_set_ne (Ne.symm h2), hget_set_ne (Ne.symm h1)]
/-- A heap but for the place i, which may be too small. -/
structure UpTo (l : List It) (i : Nat) : Prop where
  lt : i < l.length
  rest : ∀ j, 0 < j → j < l.length → j ≠ i → (hget l ((j - 1) / 2)).le (hget l j)
  over : 0 < i → ∀ j, j < l.length → (j - 1) / 2 = i → 0 < j → (hget l ((i - 1) / 2)).le (hget l j)
theorem UpTo.start {l : List It} {x : It} (h : IsHeap l) : UpTo (l ++ [x]) l.length := by
  refine ⟨by simp, fun j h0 hj hne => ?_, fun h0 j hj he hj0 => ?_⟩
  · simp at hj
    have h1 := h j h0 (by omega)
    have e1 : hget (l ++ [x]) j = hget l j := by simp [hget, List.getElem?_append_left (show j < l.length by omega)]
    have e2 : hget (l ++ [x]) ((j - 1) / 2) = hget l ((j - 1) / 2) := by simp [hget, List.getElem?_append_left (show (j - 1) / 2 < l.length by omega)]
    rw [e1, e2]; exact h1
  · simp at hj; omega
theorem UpTo.done {l : List It} {i : Nat} (h : UpTo l i) (hd : i = 0 ∨ (hget l ((i - 1) / 2)).le (hget l i)) : IsHeap l := fun j h0 hj => by
  by_cases he : j = i
  · subst he
    rcases hd with hd | hd
    · omega
    · exact hd
  · exact h.rest j h0 hj he
theorem UpTo.step {l : List It} {i : Nat} (h : UpTo l i) (h0 : 0 < i) (hl : ¬ (hget l ((i - 1) / 2)).le (hget l i)) : UpTo (swp l i ((i - 1) / 2)) ((i - 1) / 2) := by
  have hi := h.lt
  have hu : (i - 1) / 2 < l.length := by omega
  have hlt := (It.le_total _ _).resolve_left hl
  refine ⟨by rw [swp_len]; exact hu, fun j hj0 hj hne => ?_, fun hu0 j hj he hj0 => ?_⟩
  · rw [swp_len] at hj
    by_cases hji : j = i
    · subst hji
      rw [swp_at_i hi hu, swp_at_j hi hu]; exact hlt
    · rw [swp_at hji hne]
      by_cases hp : (j - 1) / 2 = i
      · rw [hp, swp_at_i hi hu]
        exact h.over h0 j hj hp hj0
      · by_cases hp2 : (j - 1) / 2 = (i - 1) / 2
        · rw [hp2, swp_at_j hi hu]
          refine It.le_trans hlt ?_
          have := h.rest j hj0 hj hji
          rwa [hp2] at this
        · rw [swp_at hp hp2]; exact h.rest j hj0 hj hji
  · rw [swp_len] at hj
    have hpp : ((i - 1) / 2 - 1) / 2 ≠ i := by omega
    have hpq : ((i - 1) / 2 - 1) / 2 ≠ (i - 1) / 2 := by omega
    rw [swp_at hpp hpq]
    have hup := h.rest ((i - 1) / 2) hu0 hu (by omega)
    by_cases hji : j = i
    · subst hji; rw [swp_at_i hi hu]; exact hup
    · rw [swp_at hji (by omega)]
      have := h.rest j hj0 hj hji
      rw [he] at this
      exact It.le_trans hup this
/-- A heap but for the place i, which may be too great. -/
structure DownTo (l : List It) (i : Nat) : Prop where
  rest : ∀ j, 0 < j → j < l.length → (j - 1) / 2 ≠ i → (hget l ((j - 1) / 2)).le (hget l j)
  over : 0 < i → ∀ j, j < l.length → (j - 1) / 2 = i → 0 < j → (hget l ((i - 1) / 2)).le (hget l j)
theorem DownTo.done {l : List It} {i : Nat} (h : DownTo l i) (hd : ∀ j, j < l.length → (j - 1) / 2 = i → 0 < j → (hget l i).le (hget l j)) : IsHeap l := fun j h0 hj => by
  by_cases he : (j - 1) / 2 = i
  · rw [he]; exact hd j hj he h0
  · exact h.rest j h0 hj he
theorem DownTo.step {l : List It} {i k : Nat} (h : DownTo l i) (hk : k < l.length) (hki : (k - 1) / 2 = i) (hk0 : 0 < k) (hi : i < l.length) (hmin : ∀ j, j < l.length → (j - 1) / 2 = i → 0 < j → (hget l k).le (hget l j)) (hl : ¬ (hget l i).le (hget l k)) : DownTo (swp l i k) k := by
  have hlt := (It.le_total _ _).resolve_left hl
  have hne : k ≠ i := by omega
  refine ⟨fun j hj0 hj hne2 => ?_, fun _ j hj he hj0 => ?_⟩
  · rw [swp_len] at hj
    by_cases hp : (j - 1) / 2 = i
    · rw [hp, swp_at_i hi hk]
      by_cases hjk : j = k
      · subst hjk; rw [swp_at_j hi hk]; exact hlt
      · rw [swp_at (by omega) hjk]; exact hmin j hj hp hj0
    · rw [swp_at hp hne2]
      by_cases hji : j = i
      · subst hji
        rw [swp_at_i hi hk]
        exact h.over hj0 k hk hki hk0
      · by_cases hjk : j = k
        · exact absurd (by rw [hjk]; exact hki) hp
        · rw [swp_at hji hjk]; exact h.rest j hj0 hj hp
  · rw [swp_len] at hj
    rw [hki, swp_at_i hi hk, swp_at (by omega) (by omega)]
    have := h.rest j hj0 hj (by omega)
    rwa [he] at this
/-- The first is the least. -/
theorem IsHeap.least {l : List It} (h : IsHeap l) : ∀ i, i < l.length → (hget l 0).le (hget l i) := by
  intro i
  induction i using Nat.strongRecOn with
  | _ i ih =>
    intro hi
    rcases Nat.eq_zero_or_pos i with h0 | h0
    · subst h0; exact It.le_refl _
    · exact It.le_trans (ih ((i - 1) / 2) (by omega) (by omega)) (h i h0 hi)
theorem IsHeap.least_mem {l : List It} (h : IsHeap l) : ∀ y ∈ l, (hget l 0).le y := fun y hy => by
  obtain ⟨i, hi, rfl⟩ := List.getElem_of_mem hy
  rw [← hget_lt hi]; exact h.least i hi
/-- What is left when the first is taken: the last comes first. -/
def cutL (l : List It) : List It := (l.set 0 (hget l (l.length - 1))).take (l.length - 1)
theorem cutL_len {l : List It} : (cutL l).length = l.length - 1 := by simp [cutL]
theorem cutL_perm {l : List It} (h : 0 < l.length) : (hget l 0 :: cutL l).Perm l := by
  cases l with
  | nil => simp at h
  | cons x r =>
    rcases List.eq_nil_or_concat r with rfl | ⟨s, y, rfl⟩
    · simp [cutL, hget]
    · have e1 : hget (x :: s.concat y) 0 = x := rfl
      have e2 : cutL (x :: s.concat y) = y :: s := by
        simp [cutL, hget]
      rw [e1, e2, List.concat_eq_append]
      refine List.Perm.cons x ?_
      exact (List.perm_append_comm (l₁ := s) (l₂ := [y])).symm
theorem cutL_down {l : List It} (h : IsHeap l) : DownTo (cutL l) 0 := by
  refine ⟨fun j h0 hj hne => ?_, fun h => absurd h (Nat.lt_irrefl 0)⟩
  rw [cutL_len] at hj
  have key : ∀ k, 0 < k → k < l.length - 1 → hget (cutL l) k = hget l k := fun k hk0 hk => by
    have hk2 : k < (l.set 0 (hget l (l.length - 1))).length := by simp; omega
    unfold cutL
    have : hget ((l.set 0 (hget l (l.length - 1))).take (l.length - 1)) k = hget (l.set 0 (hget l (l.length - 1))) k := by
      simp only [hget, List.getD_eq_getElem?_getD, List.getElem?_take, hk, if_true]
    rw [this, hget_set_ne (by omega)]
  rw [key j h0 hj, key ((j - 1) / 2) (by omega) (by omega)]
  exact h j h0 (by omega)
end Go.Proofs.Ytjhkoiggeepajaa
