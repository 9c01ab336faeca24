/- Terms whose variables have no arguments. -/
import Derived.Test.YtcmfjnadjddboaaTermR
namespace Go.Proofs.Ytcmfjnadjddboaa
open Go.RowKit Go

mutual
def T.plain : T → Bool
  | .mk f l => T.plainL l && (decide (0 ≤ f) || l.isEmpty)
def T.plainL : List T → Bool
  | [] => true
  | t :: r => t.plain && T.plainL r
end
theorem plainL_mem : ∀ {l : List T}, T.plainL l = true ↔ ∀ t ∈ l, t.plain = true
  | [] => by simp [T.plainL]
  | t :: r => by rw [T.plainL, Bool.and_eq_true, plainL_mem (l := r)]; simp
theorem plain_all {f : Int} {l : List T} (h : ∀ i, i < l.length → (tget l i).plain = true) : (T.mk f l).plain = (decide (0 ≤ f) || l.isEmpty) := by
  rw [T.plain, plainL_mem.2 (fun t ht => ?_), Bool.true_and]
  obtain ⟨i, hi, rfl⟩ := List.getElem_of_mem ht
  have := h i hi
  rwa [tget_lt hi] at this
theorem plain_no {f : Int} {l : List T} {k : Nat} (hk : k < l.length) (h : (tget l k).plain = false) : (T.mk f l).plain = false := by
  rw [T.plain]
  have : T.plainL l = false := by
    rw [Bool.eq_false_iff]; intro hp
    rw [plainL_mem.1 hp _ (tget_mem hk)] at h; cases h
  rw [this]; rfl
theorem plain_var {f : Int} {l : List T} (h1 : f < 0) (h2 : 0 < l.length) : (T.mk f l).plain = false := by
  rw [T.plain, decide_eq_false (by omega), Bool.false_or]
  have : l.isEmpty = false := by cases l with | nil => simp at h2 | cons _ _ => rfl
  rw [this, Bool.and_false]
theorem plain_yes {f : Int} {l : List T} (h0 : ¬ (f < 0 ∧ 0 < l.length)) (h : ∀ i, i < l.length → (tget l i).plain = true) : (T.mk f l).plain = true := by
  rw [plain_all h, Bool.or_eq_true, decide_eq_true_eq]
  rcases Int.lt_or_le f 0 with q | q
  · right
    have : l.length = 0 := by omega
    rw [List.length_eq_zero_iff.1 this]; rfl
  · exact .inl q
end Go.Proofs.Ytcmfjnadjddboaa
