/- Rows of integers: as lists; as functions, where they are written place by place. -/
import Derived.Test.YtnblndmjjokepaaRngK
namespace Go.Proofs.Ytnblndmjjokepaa
open Go.RowKit Go
set_option linter.unusedVariables false
set_option linter.unusedSimpArgs false

def nget (l : List Int) (k : Nat) : Int := l.getD k 0
theorem nget_lt {l : List Int} {k : Nat} (h : k < l.length) : nget l k = l[k] := by simp [nget, h]
/-- The row at 'a' holds the integers 'l'. -/
def Nums (w : World) (l : List Int) (a : Option Addr) : Prop := ∃ b o, (∀ k, k < l.length → a = some ⟨b, o, none⟩) ∧ ∀ k, k < l.length → w.cell? ⟨b, o + k, none⟩ = some (.int .i64 (nget l k))
theorem Nums.below {w w' : World} {l : List Int} {a : Option Addr} (h : Nums w l a) (hb : Below w.heap.size w w') : Nums w' l a := by
  obtain ⟨b, o, h1, h2⟩ := h
  exact ⟨b, o, h1, fun k hk => bkeeps hb _ _ (h2 k hk)⟩
theorem Nums.nil {w : World} {a : Option Addr} : Nums w [] a := ⟨0, 0, fun k hk => by simp at hk, fun k hk => by simp at hk⟩
/-- A block of 'm' integers, the i-th of which is 'g i'. -/
structure IRow (w : World) (t : TypeId) (b m : Nat) (g : Nat → Int) : Prop where
  blk : Blk w b t ((List.range m).map fun i => Value.int .i64 (g i)).toArray
section
variable {w w' : World} {t : TypeId} {b m : Nat} {g : Nat → Int}
theorem IRow.lt (h : IRow w t b m g) : b < w.heap.size := h.blk.lt
theorem IRow.below (h : IRow w t b m g) (hb : Below w.heap.size w w') : IRow w' t b m g := ⟨h.blk.below hb⟩
theorem IRow.chg {S : Nat → Prop} (h : IRow w t b m g) (hc : Chg S w w') (hS : ¬ S b) : IRow w' t b m g := ⟨chg_blk h.blk hc hS⟩
theorem IRow.upd {q : Nat} (h : IRow w t b m g) (hu : Upd q w w') (hq : b ≠ q) : IRow w' t b m g := ⟨upd_blk h.blk hu hq⟩
theorem IRow.turn {B : Nat} (h : IRow w t b m g) (k : Turn B w w') : IRow w' t b m g := ⟨blk_turn h.blk k⟩
theorem IRow.cell (h : IRow w t b m g) {i : Nat} (hi : i < m) : w.cell? ⟨b, i, none⟩ = some (.int .i64 (g i)) := by
  rw [h.blk.cell]; simp [hi]
theorem IRow.cellAt (h : IRow w t b m g) {i j : Nat} (e : j = i) (hi : i < m) : w.cell? ⟨b, j, none⟩ = some (.int .i64 (g i)) := by subst e; exact h.cell hi
theorem IRow.size (h : IRow w t b m g) {j : Nat} (hj : j < m) : j + 0 < ((List.range m).map fun i => Value.int .i64 (g i)).toArray.size := by simpa using hj
theorem IRow.congr {g' : Nat → Int} (h : IRow w t b m g) (e : g = g') : IRow w t b m g' := e ▸ h
theorem IRow.nums (h : IRow w t b m g) : Nums w ((List.range m).map g) (some ⟨b, 0, none⟩) := ⟨b, 0, fun _ _ => rfl, fun k hk => by
  simp at hk
  rw [Nat.zero_add, h.cell hk, nget_lt (by simpa using hk)]; simp⟩
theorem IRow.set (h : IRow w t b m g) {i : Nat} (v : Int) (hi : i < m) : IRow (w.setCell ⟨b, i, none⟩ (.int .i64 v)) t b m (fun k => if k = i then v else g k) := by
  refine ⟨?_⟩
  have := h.blk.set_ i (.int .i64 v)
  have e : ((List.range m).map fun k => Value.int .i64 (g k)).toArray.setIfInBounds i (.int .i64 v) = ((List.range m).map fun k => Value.int .i64 (if k = i then v else g k)).toArray := by
    rw [List.setIfInBounds_toArray]
    congr 1
    apply List.ext_getElem
    · simp
    · intro k h1 h2
      simp only [List.getElem_set, List.getElem_map, List.getElem_range]
      by_cases hk : i = k
      · rw [if_pos hk, if_pos hk.symm]
      · rw [if_neg hk, if_neg (Ne.symm hk)]
  rw [← e]; exact this
end
theorem IRow.setAt {w : World} {t : TypeId} {b m : Nat} {g : Nat → Int} (h : IRow w t b m g) {i j : Nat} (v : Int) (e : j = i) (hi : i < m) : IRow (w.setCell ⟨b, j, none⟩ (.int .i64 v)) t b m (fun k => if k = i then v else g k) := by subst e; exact h.set v hi
theorem nums_blk {w : World} {t : TypeId} {b : Nat} {l : List Int} (h : Blk w b t (l.map fun x => Value.int .i64 x).toArray) : Nums w l (some ⟨b, 0, none⟩) := ⟨b, 0, fun _ _ => rfl, fun k hk => by
  rw [Nat.zero_add, h.cell, nget_lt hk]; simp [hk]⟩
/-- A row that is made is one of zeros. -/
theorem irow_new {w : World} {t : TypeId} {b n : Nat} (h : Blk w b t (madeCells (Value.cells (.int .i64 0)) (n * 1))) : IRow w t b n (fun _ => 0) := by
  refine ⟨?_⟩
  have e : madeCells (Value.cells (.int .i64 0)) (n * 1) = ((List.range n).map fun _ => Value.int .i64 0).toArray := by
    apply Array.ext
    · simp [madeCells, Value.cells]
    · intro i h1 h2
      simp [madeCells, Value.cells, Nat.mod_one]
  rw [← e]; exact h
section
variable {P : Program} {w : World} {a : Act} {K : Act → World → Prop} {Q : Exit → Act → World → Prop} {o : Oper}
end
theorem slA_some' {b o k size c : Nat} (h : k < c) : slA (some ⟨b, o, none⟩) k size c = some ⟨b, o + k * size, none⟩ := slA_some h
/-- Does each number lie below the other one? -/
def mayB : List Int → List Int → Bool
  | [], _ => true
  | x :: r, [] => false
  | x :: r, y :: s => decide (x ≤ y) && mayB r s
theorem mayB_iff : ∀ {l s : List Int}, l.length ≤ s.length → (mayB l s = true ↔ ∀ k, k < l.length → nget l k ≤ nget s k)
  | [], s, _ => by simp [mayB]
  | x :: r, [], h => by simp at h
  | x :: r, y :: s, h => by
    simp only [List.length_cons] at h
    rw [mayB, Bool.and_eq_true, mayB_iff (by omega : r.length ≤ s.length), decide_eq_true_eq]
    constructor
    · rintro ⟨h1, h2⟩ k hk
      cases k with
      | zero => exact h1
      | succ k => exact h2 k (by simpa using hk)
    · intro h1
      exact ⟨h1 0 (by simp), fun k hk => h1 (k + 1) (by simpa using hk)⟩
theorem nums_ext {l s : List Int} (h : l.length = s.length) (e : ∀ k, k < l.length → nget l k = nget s k) : l = s := by
  apply List.ext_getElem h
  intro k h1 h2
  have := e k h1
  rwa [nget_lt h1, nget_lt h2] at this
end Go.Proofs.Ytnblndmjjokepaa
