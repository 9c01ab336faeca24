/- The document's way to put two substitutions together: a merge. -/
import Derived.Test.YtgechlgdnnpoeaaCompPlain
namespace Go.Proofs.Ytgechlgdnnpoeaa
open Go.RowKit Go

def addB (R : List Bd) (y : Bd) : List Bd := if y.itself = true then R else R ++ [y]
theorem addB_yes {R : List Bd} {y : Bd} (h : y.itself = true) : addB R y = R := if_pos h
theorem addB_no {R : List Bd} {y : Bd} (h : y.itself = false) : addB R y = R ++ [y] := if_neg (by rw [h]; decide)
theorem len_addB {R : List Bd} {y : Bd} : (addB R y).length ≤ R.length + 1 := by unfold addB; split <;> simp
theorem mem_addB {R : List Bd} {x y : Bd} : x ∈ addB R y ↔ x ∈ R ∨ (x = y ∧ y.itself = false) := by
  unfold addB
  split
  · rename_i h; simp [h]
  · rename_i h; simp [h]
theorem srt_addB {R : List Bd} {y : Bd} (h : R.Pairwise fun x y => x.var < y.var) (hy : ∀ x ∈ R, x.var < y.var) : (addB R y).Pairwise fun x y => x.var < y.var := by
  unfold addB
  split
  · exact h
  · rw [List.pairwise_append]
    exact ⟨h, by simp, fun x hx z hz => by rw [List.mem_singleton] at hz; subst hz; exact hy x hx⟩

/-- How far the merge is. -/
structure MInv (a b : List Bd) (i j : Nat) (R : List Bd) : Prop where
  le1 : i ≤ a.length
  le2 : j ≤ b.length
  len : R.length ≤ i + j
  srt : R.Pairwise fun x y => x.var < y.var
  mem : ∀ x, x ∈ R ↔ (∃ k, k < i ∧ x = (dget a k).ap b ∧ x.itself = false) ∨ (∃ k, k < j ∧ x = dget b k ∧ subFind a x.var = none ∧ x.itself = false)
  lo1 : ∀ k, k < i → ∀ k', j ≤ k' → k' < b.length → (dget a k).var < (dget b k').var
  lo2 : ∀ k, k < j → ∀ k', i ≤ k' → k' < a.length → (dget b k).var < (dget a k').var
theorem MInv.start {a b : List Bd} : MInv a b 0 0 [] := ⟨Nat.zero_le _, Nat.zero_le _, Nat.zero_le _, .nil, fun x => by simp, fun k h => absurd h (Nat.not_lt_zero k), fun k h => absurd h (Nat.not_lt_zero k)⟩
theorem le_of_sorted {l : List Bd} (h : Sorted l) {i k : Nat} (hik : i ≤ k) (hk : k < l.length) : (dget l i).var ≤ (dget l k).var := by
  rcases Nat.lt_or_ge i k with q | q
  · have := h i k q hk; omega
  · obtain rfl : i = k := by omega
    exact Int.le_refl _
section
variable {a b R : List Bd} {i j : Nat}
theorem MInv.before (h : MInv a b i j R) (sa : Sorted a) (sb : Sorted b) {x : Bd} (hx : x ∈ R) : (∀ k, i ≤ k → k < a.length → x.var < (dget a k).var) ∧ ∀ k, j ≤ k → k < b.length → x.var < (dget b k).var := by
  rcases (h.mem x).1 hx with ⟨k, hk, rfl, _⟩ | ⟨k, hk, rfl, _⟩
  · exact ⟨fun k' h1 h2 => sa k k' (by omega) h2, fun k' h1 h2 => h.lo1 k hk k' h1 h2⟩
  · exact ⟨fun k' h1 h2 => h.lo2 k hk k' h1 h2, fun k' h1 h2 => sb k k' (by omega) h2⟩
theorem MInv.stepA (h : MInv a b i j R) (sa : Sorted a) (sb : Sorted b) (hi : i < a.length) (hb : j < b.length → (dget a i).var < (dget b j).var) : MInv a b (i + 1) j (addB R ((dget a i).ap b)) := by
  refine ⟨hi, h.le2, ?_, srt_addB h.srt fun x hx => (h.before sa sb hx).1 i (Nat.le_refl _) hi, fun x => ?_, fun k hk k' h1 h2 => ?_, fun k hk k' h1 h2 => h.lo2 k hk k' (by omega) h2⟩
  · have := len_addB (R := R) (y := (dget a i).ap b); have := h.len; omega
  · rw [mem_addB, h.mem]
    constructor
    · rintro ((⟨k, h1, h2⟩ | h1) | ⟨rfl, h1⟩)
      · exact .inl ⟨k, by omega, h2⟩
      · exact .inr h1
      · exact .inl ⟨i, by omega, rfl, h1⟩
    · rintro (⟨k, h1, rfl, h2⟩ | h1)
      · rcases Nat.lt_or_ge k i with q | q
        · exact .inl (.inl ⟨k, q, rfl, h2⟩)
        · obtain rfl : i = k := by omega
          exact .inr ⟨rfl, h2⟩
      · exact .inl (.inr h1)
  · rcases Nat.lt_or_ge k i with q | q
    · exact h.lo1 k q k' h1 h2
    · obtain rfl : i = k := by omega
      have := hb (by omega)
      have := le_of_sorted sb h1 h2
      omega
theorem MInv.stepE (h : MInv a b i j R) (sa : Sorted a) (sb : Sorted b) (hi : i < a.length) (hj : j < b.length) (he : (dget b j).var = (dget a i).var) : MInv a b (i + 1) (j + 1) (addB R ((dget a i).ap b)) := by
  refine ⟨hi, hj, ?_, srt_addB h.srt fun x hx => (h.before sa sb hx).1 i (Nat.le_refl _) hi, fun x => ?_, fun k hk k' h1 h2 => ?_, fun k hk k' h1 h2 => ?_⟩
  · have := len_addB (R := R) (y := (dget a i).ap b); have := h.len; omega
  · rw [mem_addB, h.mem]
    constructor
    · rintro ((⟨k, h1, h2⟩ | ⟨k, h1, h2⟩) | ⟨rfl, h1⟩)
      · exact .inl ⟨k, by omega, h2⟩
      · exact .inr ⟨k, by omega, h2⟩
      · exact .inl ⟨i, by omega, rfl, h1⟩
    · rintro (⟨k, h1, rfl, h2⟩ | ⟨k, h1, rfl, h2, h3⟩)
      · rcases Nat.lt_or_ge k i with q | q
        · exact .inl (.inl ⟨k, q, rfl, h2⟩)
        · obtain rfl : i = k := by omega
          exact .inr ⟨rfl, h2⟩
      · rcases Nat.lt_or_ge k j with q | q
        · exact .inl (.inr ⟨k, q, rfl, h2, h3⟩)
        · obtain rfl : j = k := by omega
          have : (subFind a (dget b j).var).isSome = true := subFind_isSome.2 ⟨dget a i, dget_mem hi, he.symm⟩
          rw [h2] at this; cases this
  · rcases Nat.lt_or_ge k i with q | q
    · exact h.lo1 k q k' (by omega) h2
    · obtain rfl : i = k := by omega
      have := sb j k' (by omega) h2
      omega
  · rcases Nat.lt_or_ge k j with q | q
    · exact h.lo2 k q k' (by omega) h2
    · obtain rfl : j = k := by omega
      have := sa i k' (by omega) h2
      omega
theorem MInv.stepB (h : MInv a b i j R) (sa : Sorted a) (sb : Sorted b) (hj : j < b.length) (ha : i < a.length → (dget b j).var < (dget a i).var) : MInv a b i (j + 1) (addB R (dget b j)) := by
  have hn : subFind a (dget b j).var = none := subFind_none fun k hk e => by
    rcases Nat.lt_or_ge k i with q | q
    · have := h.lo1 k q j (Nat.le_refl _) hj; omega
    · have := ha (by omega)
      have := le_of_sorted sa q hk
      omega
  refine ⟨h.le1, hj, ?_, srt_addB h.srt fun x hx => (h.before sa sb hx).2 j (Nat.le_refl _) hj, fun x => ?_, fun k hk k' h1 h2 => h.lo1 k hk k' (by omega) h2, fun k hk k' h1 h2 => ?_⟩
  · have := len_addB (R := R) (y := dget b j); have := h.len; omega
  · rw [mem_addB, h.mem]
    constructor
    · rintro ((h1 | ⟨k, h1, h2⟩) | ⟨rfl, h1⟩)
      · exact .inl h1
      · exact .inr ⟨k, by omega, h2⟩
      · exact .inr ⟨j, by omega, rfl, hn, h1⟩
    · rintro (h1 | ⟨k, h1, rfl, h2, h3⟩)
      · exact .inl (.inl h1)
      · rcases Nat.lt_or_ge k j with q | q
        · exact .inl (.inr ⟨k, q, rfl, h2, h3⟩)
        · obtain rfl : j = k := by omega
          exact .inr ⟨rfl, h3⟩
  · rcases Nat.lt_or_ge k j with q | q
    · exact h.lo2 k q k' h1 h2
    · obtain rfl : j = k := by omega
      have := ha (by omega)
      have := le_of_sorted sa h1 h2
      omega
theorem MInv.done (h : MInv a b i j R) (hi : a.length ≤ i) (hj : b.length ≤ j) : CompOf a b R := by
  refine ⟨h.srt, fun x => ?_⟩
  rw [h.mem, cx, List.mem_append, List.mem_map, cxr, List.mem_filter]
  constructor
  · rintro (⟨k, h1, rfl, h2⟩ | ⟨k, h1, rfl, h2, h3⟩)
    · exact ⟨.inl ⟨_, dget_mem (by have := h.le1; omega), rfl⟩, h2⟩
    · exact ⟨.inr ⟨dget_mem (by have := h.le2; omega), by rw [h2]; rfl⟩, h3⟩
  · rintro ⟨⟨y, hy, rfl⟩ | ⟨h1, h2⟩, h3⟩
    · obtain ⟨k, hk, rfl⟩ := List.getElem_of_mem hy
      exact .inl ⟨k, by omega, by rw [dget_lt hk], h3⟩
    · obtain ⟨k, hk, rfl⟩ := List.getElem_of_mem h1
      exact .inr ⟨k, by omega, by rw [dget_lt hk], by simpa using h2, h3⟩
end

end Go.Proofs.Ytgechlgdnnpoeaa
