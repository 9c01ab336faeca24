/- Terms compared, as a plain function. -/
import Derived.Test.YtcmfjnadjddboaaTerm
namespace Go.Proofs.Ytcmfjnadjddboaa

namespace T
mutual
def same : T → T → Bool
  | .mk f l, .mk g k => (f == g) && sameL l k
def sameL : List T → List T → Bool
  | [], [] => true
  | a :: r, b :: q => same a b && sameL r q
  | [], _ :: _ => false
  | _ :: _, [] => false
end

mutual
theorem same_iff : ∀ (s t : T), same s t = true ↔ s = t
  | .mk f l, .mk g k => by
    rw [same, Bool.and_eq_true, sameL_iff l k, beq_iff_eq]
    simp
theorem sameL_iff : ∀ (l k : List T), sameL l k = true ↔ l = k
  | [], [] => by simp [sameL]
  | a :: r, b :: q => by rw [sameL, Bool.and_eq_true, same_iff a b, sameL_iff r q]; simp
  | [], _ :: _ => by simp [sameL]
  | _ :: _, [] => by simp [sameL]
end

theorem same_refl (s : T) : same s s = true := (same_iff s s).2 rfl
theorem same_symm (s t : T) : same s t = same t s := by
  rw [Bool.eq_iff_iff, same_iff, same_iff]; exact ⟨Eq.symm, Eq.symm⟩

mutual
def cmp : T → T → Int
  | .mk f l, .mk g k => if f ≠ g then (if f < 0 ∧ g < 0 then (if g < f then -1 else 1) else if f < g then -1 else 1) else cmpL l k
def cmpL : List T → List T → Int
  | [], [] => 0
  | a :: r, b :: q => if cmp a b = 0 then cmpL r q else cmp a b
  | [], _ :: _ => -1
  | _ :: _, [] => 1
end

mutual
theorem cmp_zero : ∀ (s t : T), cmp s t = 0 ↔ s = t
  | .mk f l, .mk g k => by
    rw [cmp]
    have h := cmpL_zero l k
    by_cases hfg : f = g
    · subst hfg; simp [h]
    · rw [if_pos (by simpa using hfg)]
      simp only [T.mk.injEq, hfg, false_and, iff_false]
      (repeat' split) <;> simp
theorem cmpL_zero : ∀ (l k : List T), cmpL l k = 0 ↔ l = k
  | [], [] => by simp [cmpL]
  | a :: r, b :: q => by
    rw [cmpL]
    have h1 := cmp_zero a b
    have h2 := cmpL_zero r q
    by_cases h : cmp a b = 0
    · rw [if_pos h, h2, h1.1 h]; simp
    · rw [if_neg h]
      simp only [h, false_iff, List.cons.injEq, not_and]
      intro e; exact absurd (h1.2 e) h
  | [], _ :: _ => by simp [cmpL]
  | _ :: _, [] => by simp [cmpL]
end

theorem cmp_same (s t : T) : if same s t = true then cmp s t = 0 else ¬ cmp s t = 0 := by
  by_cases h : s = t
  · rw [if_pos ((same_iff s t).2 h)]; exact (cmp_zero s t).2 h
  · rw [if_neg (fun e => h ((same_iff s t).1 e))]; exact fun e => h ((cmp_zero s t).1 e)

theorem cmpL_drop (l q : List T) (k : Nat) (h : k < l.length) (h' : k < q.length) : cmpL (l.drop k) (q.drop k) = if cmp l[k] q[k] = 0 then cmpL (l.drop (k + 1)) (q.drop (k + 1)) else cmp l[k] q[k] := by
  rw [List.drop_eq_getElem_cons h, List.drop_eq_getElem_cons h', cmpL]
theorem cmpL_long (l q : List T) (k : Nat) (h : k < l.length) (h' : q.length ≤ k) : cmpL (l.drop k) (q.drop k) = 1 := by
  rw [List.drop_eq_getElem_cons h, List.drop_eq_nil_of_le h', cmpL]
theorem cmpL_short (l q : List T) (h : l.length < q.length) : cmpL (l.drop l.length) (q.drop l.length) = -1 := by
  rw [List.drop_eq_getElem_cons h, List.drop_eq_nil_of_le (Nat.le_refl _), cmpL]
theorem cmpL_end (l q : List T) (h : q.length ≤ l.length) : cmpL (l.drop l.length) (q.drop l.length) = 0 := by
  rw [List.drop_eq_nil_of_le h, List.drop_eq_nil_of_le (Nat.le_refl _), cmpL]
end T

end Go.Proofs.Ytcmfjnadjddboaa
