/- What clauses weigh, plain. -/
import Derived.Test.YtjhkoiggeepajaaLit
namespace Go.Proofs.Ytjhkoiggeepajaa
open Go.RowKit Go
set_option linter.unusedVariables false
set_option linter.unusedSimpArgs false

/-- Is it $true? -/
def T.isTrue (t : T) : Bool := decide (t.f = 0) && t.args.isEmpty
theorem T.isTrue_iff {t : T} : t.isTrue = true ↔ t.f = 0 ∧ t.args.length = 0 := by
  unfold T.isTrue; simp
mutual
def T.wgt : T → Nat
  | .mk f l => (if f < 0 then 1 else 2) + T.wgtL l
def T.wgtL : List T → Nat
  | [] => 0
  | a :: r => T.wgt a + T.wgtL r
end
mutual
theorem T.wgt_le : ∀ t : T, t.wgt ≤ 2 * t.size
  | .mk f l => by
    have := T.wgtL_le l
    rw [T.wgt, T.size]
    split <;> omega
theorem T.wgtL_le : ∀ l : List T, T.wgtL l ≤ 2 * T.sizeL l
  | [] => Nat.le_refl _
  | a :: r => by
    have := T.wgt_le a
    have := T.wgtL_le r
    rw [T.wgtL, T.sizeL]; omega
end
theorem T.wgtL_take {l : List T} {k : Nat} (h : k < l.length) : T.wgtL (l.take (k + 1)) = T.wgtL (l.take k) + (tget l k).wgt := by
  induction l generalizing k with
  | nil => simp at h
  | cons a r ih =>
    cases k with
    | zero => simp [T.wgtL, tget]
    | succ k =>
      simp only [List.length_cons] at h
      simp only [List.take_succ_cons, T.wgtL]
      rw [ih (by omega)]
      show _ = _ + (tget r k).wgt
      omega
theorem T.wgtL_take_le (l : List T) (k : Nat) : T.wgtL (l.take k) ≤ 2 * T.sizeL l := by
  have h1 := T.wgtL_le (l.take k)
  have h2 := T.sizeL_take_le l k
  omega
theorem sizeL_take3 {l : List T} {k : Nat} (h : k < l.length) : T.sizeL (l.take (k + 1)) = T.sizeL (l.take k) + (tget l k).size := by
  rw [T.sizeL_take_succ l k h, tget_lt h]
theorem len_le_sizeL2 : ∀ l : List T, l.length ≤ T.sizeL l
  | [] => Nat.le_refl _
  | a :: r => by
    have := len_le_sizeL2 r
    have := T.size_eq a
    rw [T.sizeL, List.length_cons]; omega
theorem size_at2 {l : List T} {f : Int} {k : Nat} (hk : k < l.length) (hz : (T.mk f l).size ≤ 4294967296) : (tget l k).size ≤ 4294967296 := by
  have := T.size_le_sizeL (tget_mem hk)
  rw [T.size] at hz; omega
/-- A literal's size; what it weighs. -/
def Li.sz (x : Li) : Nat := if x.r.isTrue = true then x.l.size else x.l.size + x.r.size
def Li.wg (x : Li) : Nat := if x.r.isTrue = true then x.l.wgt else x.l.wgt + x.r.wgt
def clSize : List Li → Nat
  | [] => 0
  | x :: r => x.sz + clSize r
def clWgt : List Li → Nat
  | [] => 0
  | x :: r => x.wg + clWgt r
theorem clSize_take {l : List Li} {k : Nat} (h : k < l.length) : clSize (l.take (k + 1)) = clSize (l.take k) + (lget l k).sz := by
  have ha : ∀ a b : List Li, clSize (a ++ b) = clSize a + clSize b := by
    intro a b; induction a with
    | nil => simp [clSize]
    | cons x r ih => simp only [List.cons_append, clSize, ih]; omega
  rw [List.take_succ_eq_append_getElem h, ha, lget_lt h]; simp [clSize]
theorem clWgt_take {l : List Li} {k : Nat} (h : k < l.length) : clWgt (l.take (k + 1)) = clWgt (l.take k) + (lget l k).wg := by
  have ha : ∀ a b : List Li, clWgt (a ++ b) = clWgt a + clWgt b := by
    intro a b; induction a with
    | nil => simp [clWgt]
    | cons x r ih => simp only [List.cons_append, clWgt, ih]; omega
  rw [List.take_succ_eq_append_getElem h, ha, lget_lt h]; simp [clWgt]
theorem Li.sz_le {x : Li} (h1 : x.l.size ≤ 4294967296) (h2 : x.r.size ≤ 4294967296) : x.sz ≤ 8589934592 := by unfold Li.sz; split <;> omega
theorem Li.wg_le {x : Li} (h1 : x.l.size ≤ 4294967296) (h2 : x.r.size ≤ 4294967296) : x.wg ≤ 17179869184 := by
  have := T.wgt_le x.l
  have := T.wgt_le x.r
  unfold Li.wg; split <;> omega
/-- By what a queue goes. -/
def weighP (k : Int) (l : List Li) (goal : Bool) : Int × Int :=
  if k = 1 then (clSize l, 0) else if k = 2 then (clWgt l, 0) else if k = 3 then (l.length, clSize l) else if k = 4 then (if goal = true then 0 else 1, clSize l) else (0, 0)
end Go.Proofs.Ytjhkoiggeepajaa
