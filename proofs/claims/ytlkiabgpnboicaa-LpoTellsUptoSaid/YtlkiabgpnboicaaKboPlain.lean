/- The order of Knuth and Bendix, as plain functions on terms: the program's way and the document's way come to the same. -/
import Derived.Test.YtlkiabgpnboicaaTerm
import Derived.Test.YtlkiabgpnboicaaSamePlain
namespace Go.Proofs.Ytlkiabgpnboicaa

/-- An order of terms, as it is handed in. -/
structure Od where
  lpo : Bool
  prec : List Int
  weights : List Int
  var : Int

namespace T
-- How often a top stands in a term.
mutual
def often (v : Int) : T → Nat
  | .mk f l => (if f = v then 1 else 0) + oftenL v l
def oftenL (v : Int) : List T → Nat
  | [] => 0
  | a :: r => often v a + oftenL v r
end
end T

namespace Od
def most : Int := 2147483647
/-- A weight as it counts. -/
def clamp (w : Int) : Int := max 0 (min w most)

def wsym (o : Od) (f : Int) : Int := if f < 0 then o.var else o.weights.getD f.toNat 0

-- What all symbols weigh together.
mutual
def raw (o : Od) : T → Int
  | .mk f l => clamp (o.wsym f) + rawL o l
def rawL (o : Od) : List T → Int
  | [] => 0
  | a :: r => raw o a + rawL o r
end

mutual
theorem raw_nonneg (o : Od) : ∀ t, 0 ≤ raw o t
  | .mk f l => by have := rawL_nonneg o l; rw [raw]; unfold clamp; omega
theorem rawL_nonneg (o : Od) : ∀ l, 0 ≤ rawL o l
  | [] => by simp [rawL]
  | a :: r => by have := raw_nonneg o a; have := rawL_nonneg o r; rw [rawL]; omega
end

def weight (o : Od) (t : T) : Int := min (o.raw t) most

mutual
def knows (o : Od) : T → Bool
  | .mk f l => if f < 0 then l.isEmpty else decide (f < o.prec.length ∧ f < o.weights.length) && knowsL o l
def knowsL (o : Od) : List T → Bool
  | [] => true
  | a :: r => knows o a && knowsL o r
end

def rank (o : Od) (f : Int) : Int := o.prec.getD f.toNat 0

/-- Symbols all the same around a variable. -/
def around (f v : Int) : T → Bool
  | .mk g [a] => g == f && (a.f == v || around f v a)
  | .mk _ _ => false

-- No variable stands in t more often than in s, of those that stand in u.
mutual
def covers (s t : T) : T → Bool
  | .mk f l => if f < 0 then decide (t.often f ≤ s.often f) else coversL s t l
def coversL (s t : T) : List T → Bool
  | [] => true
  | a :: r => covers s t a && coversL s t r
end

mutual
def above (o : Od) : T → T → Bool
  | .mk f l, t =>
    covers (.mk f l) t t && (decide (o.weight t < o.weight (.mk f l)) || (decide (o.weight (.mk f l) = o.weight t) &&
      (if f < 0 then false else if t.f < 0 then around f t.f (.mk f l) else if f ≠ t.f then decide (o.rank t.f < o.rank f) else aboveL o l t.args)))
def aboveL (o : Od) : List T → List T → Bool
  | [], _ => false
  | _ :: _, [] => true
  | a :: r, b :: q => if T.same a b then aboveL o r q else above o a b
end

/-- A relation: 0 none, 1 less, 2 equal, 3 greater. -/
def cmp (o : Od) (s t : T) : Int :=
  if T.same s t then 2 else if above o s t then 3 else if above o t s then 1 else 0
def Cmp (o : Od) (s t : T) : Int := if o.knows s && o.knows t then o.cmp s t else 0

theorem above_eq (o : Od) (s t : T) : above o s t = (covers s t t && (decide (o.weight t < o.weight s) || (decide (o.weight s = o.weight t) &&
      (if s.f < 0 then false else if t.f < 0 then around s.f t.f s else if s.f ≠ t.f then decide (o.rank t.f < o.rank s.f) else aboveL o s.args t.args)))) := by
  cases s; rw [above]; rfl

theorem asymm_step (o : Od) (s t : T) (hL : ∀ k, aboveL o s.args k = true → aboveL o k s.args = false) (h : above o s t = true) : above o t s = false := by
  rw [above_eq] at h ⊢
  simp only [Bool.and_eq_true, Bool.or_eq_true, decide_eq_true_eq] at h
  obtain ⟨_, h⟩ := h
  rw [Bool.and_eq_false_iff]
  right
  rcases h with h | ⟨h1, h2⟩
  · simp; omega
  · rw [Bool.or_eq_false_iff, Bool.and_eq_false_iff]
    refine ⟨by simp; omega, Or.inr ?_⟩
    by_cases hf : s.f < 0
    · simp [hf] at h2
    · by_cases ht : t.f < 0
      · simp [ht]
      · by_cases hft : s.f = t.f
        · simp only [ht, hft, if_false, ne_eq, not_true_eq_false] at h2 ⊢
          exact hL _ h2
        · have hft' : ¬ t.f = s.f := fun h => hft h.symm
          simp only [hf, ht, hft, hft', if_false, ne_eq, not_false_eq_true, if_true, decide_eq_true_eq, decide_eq_false_iff_not] at h2 ⊢
          omega

mutual
theorem above_asymm (o : Od) : ∀ (s t : T), above o s t = true → above o t s = false
  | .mk f l, t => asymm_step o (.mk f l) t (fun k => aboveL_asymm o l k)
theorem aboveL_asymm (o : Od) : ∀ (l k : List T), aboveL o l k = true → aboveL o k l = false
  | [], _, h => by simp [aboveL] at h
  | _ :: _, [], _ => by simp [aboveL]
  | a :: r, b :: q, h => by
    rw [aboveL] at h ⊢
    by_cases hs : T.same a b = true
    · rw [if_pos hs] at h
      rw [if_pos (by rw [T.same_symm]; exact hs)]
      exact aboveL_asymm o r q h
    · rw [if_neg hs] at h
      rw [if_neg (by rw [T.same_symm]; exact hs)]
      exact above_asymm o a b h
end

/-! ### The program's way -/

def turned (r : Int) : Int := if r = 1 then 3 else if r = 3 then 1 else r

/-- The first arguments that differ decide. -/
def reasonL (o : Od) : List T → List T → Int
  | [], [] => 1
  | _ :: _, [] => 3
  | [], _ :: _ => 1
  | a :: r, b :: q => if T.same a b then reasonL o r q else o.cmp a b

def reason (o : Od) (s t : T) : Int :=
  if o.weight t < o.weight s then 3 else if o.weight s < o.weight t then 1
  else if s.f < 0 ∧ t.f < 0 then 0
  else if t.f < 0 then (if around s.f t.f s then 3 else 0)
  else if s.f < 0 then (if around t.f s.f t then 1 else 0)
  else if s.f ≠ t.f then (if o.rank t.f < o.rank s.f then 3 else if o.rank s.f < o.rank t.f then 1 else 0)
  else reasonL o s.args t.args

theorem cmp_range (o : Od) (s t : T) : o.cmp s t = 0 ∨ o.cmp s t = 1 ∨ o.cmp s t = 2 ∨ o.cmp s t = 3 := by
  unfold cmp; (repeat' split) <;> simp

theorem reasonL_three (o : Od) : ∀ (l k : List T), T.sameL l k = false → (reasonL o l k = 3 ↔ aboveL o l k = true)
  | [], [], h => by simp [T.sameL] at h
  | _ :: _, [], _ => by simp [reasonL, aboveL]
  | [], _ :: _, _ => by simp [reasonL, aboveL]
  | a :: r, b :: q, h => by
    rw [reasonL, aboveL]
    by_cases hs : T.same a b = true
    · rw [if_pos hs, if_pos hs]
      refine reasonL_three o r q ?_
      simpa [T.sameL, hs] using h
    · rw [if_neg hs, if_neg hs]
      unfold cmp
      rw [if_neg hs]
      by_cases h1 : above o a b = true
      · simp [h1]
      · simp [h1]; split <;> simp

theorem reasonL_one (o : Od) : ∀ (l k : List T), T.sameL l k = false → (reasonL o l k = 1 ↔ aboveL o k l = true)
  | [], [], h => by simp [T.sameL] at h
  | _ :: _, [], _ => by simp [reasonL, aboveL]
  | [], _ :: _, _ => by simp [reasonL, aboveL]
  | a :: r, b :: q, h => by
    rw [reasonL, aboveL, T.same_symm b a]
    by_cases hs : T.same a b = true
    · rw [if_pos hs, if_pos hs]
      refine reasonL_one o r q ?_
      simpa [T.sameL, hs] using h
    · rw [if_neg hs, if_neg hs]
      unfold cmp
      rw [if_neg hs]
      by_cases h1 : above o a b = true
      · simp [h1, above_asymm o a b h1]
      · simp [h1]

theorem cmp_eq (o : Od) (s t : T) : o.cmp s t = if T.same s t then 2 else
    if reason o s t = 3 ∧ covers s t t = true then 3 else if reason o s t = 1 ∧ covers t s s = true then 1 else 0 := by
  unfold cmp
  by_cases hs : T.same s t = true
  · simp [hs]
  · rw [if_neg hs, if_neg hs]
    have hs' : T.same s t = false := by simpa using hs
    have hL : s.f = t.f → T.sameL s.args t.args = false := by
      intro h
      rw [← T.eta s, ← T.eta t, T.same, h] at hs'
      simpa using hs'
    have h3 : above o s t = true ↔ reason o s t = 3 ∧ covers s t t = true := by
      rw [above_eq, and_comm (a := reason o s t = 3), Bool.and_eq_true]
      refine and_congr_right (fun _ => ?_)
      unfold reason
      by_cases a : o.weight t < o.weight s
      · simp [a]
      · by_cases b : o.weight s < o.weight t
        · simp [a, b]; omega
        · have hw : o.weight s = o.weight t := by omega
          by_cases hf : s.f < 0 <;> by_cases ht : t.f < 0
          · simp [hw, hf, ht]
          · simp [hw, hf, ht]; split <;> simp
          · simp [hw, hf, ht]
          · by_cases hft : s.f = t.f
            · have := reasonL_three o s.args t.args (hL hft)
              simp [hw, ht, hft, this]
            · simp [hw, hf, ht, hft]
              by_cases c : o.rank t.f < o.rank s.f
              · simp [c]; omega
              · simp [c]; split <;> simp <;> omega
    have h1 : above o t s = true ↔ reason o s t = 1 ∧ covers t s s = true := by
      rw [above_eq, and_comm (a := reason o s t = 1), Bool.and_eq_true]
      refine and_congr_right (fun _ => ?_)
      unfold reason
      by_cases a : o.weight t < o.weight s
      · simp [a]; omega
      · by_cases b : o.weight s < o.weight t
        · simp [a, b]
        · have hw : o.weight s = o.weight t := by omega
          by_cases hf : s.f < 0 <;> by_cases ht : t.f < 0
          · simp [hw, hf, ht]
          · simp [hw, hf, ht]
          · simp [hw, hf, ht]; split <;> simp
          · by_cases hft : s.f = t.f
            · have := reasonL_one o s.args t.args (hL hft)
              simp [hw, ht, hft, this]
            · have hft' : ¬ t.f = s.f := fun h => hft h.symm
              simp [hw, hf, ht, hft, hft']
              by_cases c : o.rank t.f < o.rank s.f
              · simp [c]; omega
              · simp [c]
    simp only [h3, h1]

end Od

end Go.Proofs.Ytlkiabgpnboicaa
