/- Signatures, plain. -/
import Derived.Test.YtbnjppmmhhjjbaaDoorSigRows
namespace Go.Proofs.YtbnjppmmhhjjbaaDoor

/-- The first error among symbols, some of which have been met. -/
def metErr (seen : List Sy) : List Sy → Int
  | [] => 0
  | x :: r => if x.one ≠ 0 then x.one else if x ∈ seen then 113 else metErr (seen ++ [x]) r

theorem syAt_mem (x : Sy) : ∀ (l : List Sy) (k : Int), 0 ≤ k → (x ∈ l → k ≤ syAt x l k) ∧ (x ∉ l → syAt x l k = -1) := by
  intro l
  induction l with
  | nil => intro k _; simp [syAt]
  | cons y l ih =>
    intro k hk
    rw [syAt]
    split
    · rename_i h; subst h; simp
    · rename_i h
      obtain ⟨h1, h2⟩ := ih (k + 1) (by omega)
      have hne : ¬ x = y := fun e => h e.symm
      simp only [List.mem_cons, hne, false_or]
      exact ⟨fun hx => by have := h1 hx; omega, h2⟩
theorem syAt_found (x : Sy) : ∀ (l r : List Sy) (k : Int), 0 ≤ k → x ∈ l ++ r → (syAt x (l ++ r) k < k + l.length ↔ x ∈ l) := by
  intro l
  induction l with
  | nil => intro r k hk hx; have := (syAt_mem x r k hk).1 (by simpa using hx); simp; omega
  | cons y l ih =>
    intro r k hk hx
    rw [List.cons_append, syAt]
    split
    · rename_i h; subst h; simp; omega
    · rename_i h
      have hne : ¬ x = y := fun e => h e.symm
      have hx' : x ∈ l ++ r := by simpa [hne] using hx
      have := ih r (k + 1) (by omega) hx'
      rw [show k + ((y :: l).length : Int) = k + 1 + l.length by simp; omega, this]
      simp [hne]

theorem truth_one : truth.one ≠ 0 := by decide +kernel
theorem metErr_symsErr (all : List Sy) : ∀ (rest seen : List Sy), all = truth :: seen ++ rest → symsErr all rest (1 + seen.length) = metErr seen rest := by
  intro rest
  induction rest with
  | nil => intro _ _; rfl
  | cons x r ih =>
    intro seen h
    rw [symsErr, metErr]
    by_cases h1 : x.one ≠ 0
    · rw [if_pos h1, if_pos h1]
    · rw [if_neg h1, if_neg h1]
      have hne : x ≠ truth := fun e => h1 (e ▸ truth_one)
      have h2 := syAt_found x (truth :: seen) (x :: r) 0 (Int.le_refl _) (by simp)
      have e : (0 : Int) + ((truth :: seen).length : Int) = 1 + seen.length := by simp; omega
      rw [e, ← h] at h2
      simp only [List.mem_cons, hne, false_or] at h2
      by_cases h3 : x ∈ seen
      · rw [if_pos (h2.2 h3), if_pos h3]
      · rw [if_neg (fun h => h3 (h2.1 h)), if_neg h3]
        have := ih (seen ++ [x]) (by simp [h])
        rw [← this]
        congr 1
        simp; omega
theorem sigCheck_met (t : List Sy) (h : ¬ 96 < t.length + 1) : sigCheck (truth :: t) = metErr [] t := by
  unfold sigCheck
  rw [if_neg (by simpa using h)]
  have := metErr_symsErr (truth :: t) t [] rfl
  simp at this
  simpa using this

/-- A step. -/
theorem metErr_step {t : List Sy} {k : Nat} (h : k < t.length) : metErr (t.take k) (t.drop k) = if (sget t k).one ≠ 0 then (sget t k).one else if sget t k ∈ t.take k then 113 else metErr (t.take (k + 1)) (t.drop (k + 1)) := by
  rw [sget_lt h, List.drop_eq_getElem_cons h, metErr, List.take_succ_eq_append_getElem h]

end Go.Proofs.YtbnjppmmhhjjbaaDoor
