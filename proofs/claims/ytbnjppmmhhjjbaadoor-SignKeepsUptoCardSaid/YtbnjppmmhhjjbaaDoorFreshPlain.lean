/- A symbol with a new name: plain. -/
import Derived.Test.YtbnjppmmhhjjbaaDoorAddPlain
import Derived.Lib.ItoaNum
namespace Go.Proofs.YtbnjppmmhhjjbaaDoor
open Go.RowKit Go
set_option linter.unusedVariables false
set_option linter.unusedSimpArgs false

/-- The name that is tried as the k-th. -/
def numd (s : ByteArray) (k : Nat) : ByteArray := s ++ ⟨(Lib.decDigits k).toArray⟩
theorem digits_inj {i j : Nat} (hi : i < 100) (hj : j < 100) (h : Lib.decDigits i = Lib.decDigits j) : i = j := by
  have key : ∀ a b : Nat, a < 10 → b < 10 → UInt8.ofNat (48 + a) = UInt8.ofNat (48 + b) → a = b := by
    intro a b ha hb e
    have := congrArg UInt8.toNat e
    simp only [UInt8.toNat_ofNat'] at this
    omega
  by_cases h1 : i < 10
  · rw [Lib.decDigits_one h1] at h
    by_cases h2 : j < 10
    · rw [Lib.decDigits_one h2] at h
      exact key i j h1 h2 (List.cons.inj h).1
    · rw [Lib.decDigits_two h2 hj] at h; exact absurd (congrArg List.length h) (by simp)
  · rw [Lib.decDigits_two h1 hi] at h
    by_cases h2 : j < 10
    · rw [Lib.decDigits_one h2] at h; exact absurd (congrArg List.length h) (by simp)
    · rw [Lib.decDigits_two h2 hj] at h
      have a := key _ _ (by omega) (by omega) (List.cons.inj h).1
      have b := key _ _ (by omega) (by omega) (List.cons.inj (List.cons.inj h).2).1
      omega
theorem numd_inj {s : ByteArray} {i j : Nat} (hi : i < 100) (hj : j < 100) (h : numd s i = numd s j) : i = j := by
  refine digits_inj hi hj ?_
  have := congrArg (fun b : ByteArray => b.data.toList) h
  simpa [numd, ByteArray.data_append] using this
/-- Is a name borne? -/
def borne (l : List Sy) (s : ByteArray) : Bool := l.any fun y => decide (y.name = s)
theorem borne_iff {l : List Sy} {s : ByteArray} : borne l s = true ↔ ∃ y ∈ l, y.name = s := by unfold borne; simp
/-- The first number from k on whose name is not borne. -/
def firstN (l : List Sy) (s : ByteArray) : Nat → Nat → Nat
  | 0, k => k
  | m + 1, k => if borne l (numd s k) = true then firstN l s m (k + 1) else k
/-- So many names that are borne are so many symbols. -/
theorem borne_len {l : List Sy} {s : ByteArray} {k : Nat} (hk : k ≤ 100) (h : ∀ j, 1 ≤ j → j < k → borne l (numd s j) = true) : k - 1 ≤ l.length := by
  have hp : ((List.range' 1 (k - 1)).map (numd s)).Nodup := by
    unfold List.Nodup
    rw [List.pairwise_map]
    have h1 : (List.range' 1 (k - 1)).Pairwise (fun a b => a < b) := List.pairwise_lt_range'
    have h2 : ∀ a ∈ List.range' 1 (k - 1), a < k := fun a ha => by rw [List.mem_range'_1] at ha; omega
    refine (h1.imp_of_mem fun {a b} ha hb hab e => ?_)
    have := numd_inj (s := s) (by have := h2 a ha; omega) (by have := h2 b hb; omega) e
    omega
  have hs : ∀ x ∈ (List.range' 1 (k - 1)).map (numd s), x ∈ l.map (·.name) := by
    intro x hx
    obtain ⟨j, hj, rfl⟩ := List.mem_map.1 hx
    rw [List.mem_range'_1] at hj
    obtain ⟨y, hy, e⟩ := borne_iff.1 (h j (by omega) (by omega))
    exact List.mem_map.2 ⟨y, hy, e⟩
  have := nodup_le hp hs
  simpa using this
where
  nodup_le : ∀ {R st : List ByteArray}, R.Nodup → (∀ x ∈ R, x ∈ st) → R.length ≤ st.length
  | [], _, _, _ => Nat.zero_le _
  | x :: R, st, hn, h => by
    obtain ⟨h1, h2⟩ := List.nodup_cons.1 hn
    obtain ⟨s, t, rfl⟩ := List.append_of_mem (h x (by simp))
    have := nodup_le (R := R) (st := s ++ t) h2 fun y hy => by
      have hy2 := h y (by simp [hy])
      simp only [List.mem_append, List.mem_cons] at hy2 ⊢
      rcases hy2 with q | rfl | q
      · exact .inl q
      · exact absurd hy h1
      · exact .inr q
    simp only [List.length_append, List.length_cons] at this ⊢
    omega
theorem firstN_at {l : List Sy} {s : ByteArray} : ∀ {m k r : Nat}, (∀ j, k ≤ j → j < r → borne l (numd s j) = true) → k ≤ r → r ≤ k + m → borne l (numd s r) = false → firstN l s m k = r
  | 0, k, r, _, h1, h2, _ => by rw [firstN]; omega
  | m + 1, k, r, h, h1, h2, h3 => by
    rw [firstN]
    rcases Nat.lt_or_ge k r with q | q
    · rw [if_pos (h k (Nat.le_refl _) q)]
      exact firstN_at (fun j a b => h j (by omega) b) q (by omega) h3
    · obtain rfl : k = r := by omega
      rw [h3, if_neg (by decide)]
/-- What is told as a new symbol. -/
def freshRes (l : List Sy) (x : Sy) : Sy × Int :=
  if sigCheck l ≠ 0 then (⟨ByteArray.empty, 0, false⟩, sigCheck l) else if x.one ≠ 0 then (⟨ByteArray.empty, 0, false⟩, x.one) else
    if named (numd x.name (firstN l x.name l.length 1)) = true then (⟨numd x.name (firstN l x.name l.length 1), x.ar, x.pred⟩, 0) else (⟨ByteArray.empty, 0, false⟩, 111)
theorem sigCheck_len {l : List Sy} (h : sigCheck l = 0) : l.length ≤ 96 := by
  rcases Nat.lt_or_ge 96 l.length with q | q
  · unfold sigCheck at h; rw [if_pos q] at h; cases h
  · exact q
theorem fresh_at {l : List Sy} {s : ByteArray} {k : Nat} (hl : l.length ≤ 96) (h : ∀ j, 1 ≤ j → j < k → borne l (numd s j) = true) (h1 : 1 ≤ k) (hk : k ≤ 97) (h3 : borne l (numd s k) = false) : firstN l s l.length 1 = k := by
  have := borne_len (by omega) h
  exact firstN_at h h1 (by omega) h3
theorem fresh_le {l : List Sy} {s : ByteArray} {k : Nat} (hl : l.length ≤ 96) (hk : k ≤ 98) (h : ∀ j, 1 ≤ j → j < k → borne l (numd s j) = true) : k ≤ 97 := by
  have := borne_len (by omega) h
  omega
end Go.Proofs.YtbnjppmmhhjjbaaDoor
