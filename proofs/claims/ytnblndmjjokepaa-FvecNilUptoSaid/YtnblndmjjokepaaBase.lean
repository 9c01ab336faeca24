/- The memory: what outlives what is added to it; blocks that are known; integers. -/
import Derived.Test.YtnblndmjjokepaaRows
import Derived.WalkKit
import Derived.WalkSpells
import Derived.WalkLawsBesides
import Derived.Lib.Hide
import Derived.Deep.Slices
import Derived.Lib.QuietBelow

namespace Go.Proofs.Ytnblndmjjokepaa
open Go.RowKit

theorem rbool {a b : Bool} (h : b = a) : Ending.returned (.bool a) = .returned (.bool b) := by rw [h]
theorem vint {k : IntKind} {a b : Int} (h : a = b) : Value.int k a = .int k b := by rw [h]
theorem rint {k : IntKind} {a b : Int} (h : b = a) : Ending.returned (.int k a) = .returned (.int k b) := by rw [h]

theorem wrap64_add (a b : Int) : wrap64 (wrap64 a + wrap64 b) = wrap64 (a + b) := by unfold wrap64; omega
theorem wrap64_add_left (a b : Int) : wrap64 (wrap64 a + b) = wrap64 (a + b) := by unfold wrap64; omega
theorem wrap64_add_right (a b : Int) : wrap64 (a + wrap64 b) = wrap64 (a + b) := by unfold wrap64; omega
theorem wrap64_id {a : Int} (h : -9223372036854775808 ≤ a ∧ a ≤ 9223372036854775807) : wrap64 a = a := by unfold wrap64; omega

/-- An integer that an int can be. -/
def I64 (f : Int) : Prop := -9223372036854775808 ≤ f ∧ f ≤ 9223372036854775807
theorem i64_wf {f : Int} (h : (Lit.int .i64 f).wf = true) : I64 f := by
  simp [Lit.wf, IntKind.min, IntKind.max, IntKind.signed, IntKind.bits] at h
  exact ⟨by omega, by omega⟩

theorem bkeeps {w w' : World} (hb : Below w.heap.size w w') (p : Addr) (x : Value) (h : w.cell? p = some x) : w'.cell? p = some x :=
  (hb.cell (World.block_lt_of_cell? _ _ h)).trans h
theorem calloc {w : World} {p : Addr} {x : Value} (h : w.cell? p = some x) (o : Obj) : (w.alloc o).cell? p = some x := bkeeps ((Below.refl _ _).alloc (Nat.le_refl _) _) _ _ h
/-- A block's first cells. -/
def Box (w : World) (b : Nat) (vs : List Value) : Prop := ∀ i v, vs[i]? = some v → w.cell? ⟨b, i, none⟩ = some v
theorem Box.below {w w' : World} {b : Nat} {vs : List Value} (h : Box w b vs) (hb : Below w.heap.size w w') : Box w' b vs := fun i v hi => bkeeps hb _ _ (h i v hi)
theorem Box.alloc {w : World} {b : Nat} {vs : List Value} (h : Box w b vs) (o : Obj) : Box (w.alloc o) b vs := fun i v hi => calloc (h i v hi) o
theorem Box.new (w : World) (vs : List Value) (t : TypeId) : Box (w.alloc (.cells vs.toArray t)) w.heap.size vs := by
  intro i v hi
  have h := heap_alloc_new w (.cells vs.toArray t)
  simp only [World.cell?, h]
  simpa using hi
theorem Box.new' {w : World} {b : Nat} {vs : List Value} {t : TypeId} (h : w.heap.size = b) : Box (w.alloc (.cells vs.toArray t)) b vs := by subst h; exact Box.new _ _ _
theorem heap_new' {w : World} {b : Nat} {o : Obj} (h : w.heap.size = b) : (w.alloc o).heap[b]? = some o := by subst h; exact heap_alloc_new w o
theorem Box.one {w : World} {b : Nat} {x0 : Value} (h : Box w b [x0]) : w.cell? ⟨b, 0, none⟩ = some x0 := h 0 _ rfl
theorem Box.two {w : World} {b : Nat} {x0 x1 : Value} (h : Box w b [x0, x1]) : w.cell? ⟨b, 0, none⟩ = some x0 ∧ w.cell? ⟨b, 1, none⟩ = some x1 := ⟨h 0 _ rfl, h 1 _ rfl⟩
theorem Box.four {w : World} {b : Nat} {x0 x1 x2 x3 : Value} (h : Box w b [x0, x1, x2, x3]) : w.cell? ⟨b, 0, none⟩ = some x0 ∧ w.cell? ⟨b, 1, none⟩ = some x1 ∧ w.cell? ⟨b, 2, none⟩ = some x2 ∧ w.cell? ⟨b, 3, none⟩ = some x3 := ⟨h 0 _ rfl, h 1 _ rfl, h 2 _ rfl, h 3 _ rfl⟩
theorem Box.five {w : World} {b : Nat} {x0 x1 x2 x3 x4 : Value} (h : Box w b [x0, x1, x2, x3, x4]) : w.cell? ⟨b, 0, none⟩ = some x0 ∧ w.cell? ⟨b, 1, none⟩ = some x1 ∧ w.cell? ⟨b, 2, none⟩ = some x2 ∧ w.cell? ⟨b, 3, none⟩ = some x3 ∧ w.cell? ⟨b, 4, none⟩ = some x4 := ⟨h 0 _ rfl, h 1 _ rfl, h 2 _ rfl, h 3 _ rfl, h 4 _ rfl⟩
/-- A step from a world that is as it was. -/
theorem bstep {w a b : World} (h : Below w.heap.size w a) (k : Below a.heap.size a b) : Below w.heap.size w b := h.trans (k.mono h.size)
theorem balloc (w : World) (o : Obj) : Below w.heap.size w (w.alloc o) := (Below.refl _ _).alloc (Nat.le_refl _) _
theorem balloc2 (w : World) (o o' : Obj) : Below w.heap.size w ((w.alloc o).alloc o') := bstep (balloc w o) (balloc _ o')
theorem bcall {w a : World} {o : Obj} (k : Below (w.alloc o).heap.size (w.alloc o) a) : Below w.heap.size w a := bstep (balloc w o) k
theorem box1 {w w1 : World} {xs : List Value} {t1 : TypeId} (h : Below (w.alloc (.cells xs.toArray t1)).heap.size (w.alloc (.cells xs.toArray t1)) w1) : Box w1 w.heap.size xs ∧ Below w.heap.size w w1 :=
  ⟨(Box.new _ _ _).below h, bstep (balloc _ _) h⟩
theorem box2 {w w1 : World} {xs ys : List Value} {t1 t2 : TypeId} (h : Below ((w.alloc (.cells xs.toArray t1)).alloc (.cells ys.toArray t2)).heap.size ((w.alloc (.cells xs.toArray t1)).alloc (.cells ys.toArray t2)) w1) :
    Box w1 w.heap.size xs ∧ Box w1 (w.heap.size + 1) ys ∧ Below w.heap.size w w1 := by
  obtain ⟨h2, h3⟩ := box1 h
  obtain ⟨h4, h5⟩ := box1 h3
  exact ⟨h4, by rwa [World.size_alloc] at h2, h5⟩
theorem box3 {w w1 : World} {xs ys zs : List Value} {t1 t2 t3 : TypeId} (h : Below (((w.alloc (.cells xs.toArray t1)).alloc (.cells ys.toArray t2)).alloc (.cells zs.toArray t3)).heap.size (((w.alloc (.cells xs.toArray t1)).alloc (.cells ys.toArray t2)).alloc (.cells zs.toArray t3)) w1) :
    Box w1 w.heap.size xs ∧ Box w1 (w.heap.size + 1) ys ∧ Box w1 (w.heap.size + 2) zs ∧ Below w.heap.size w w1 := by
  obtain ⟨h2, h3⟩ := box1 h
  obtain ⟨h4, h5, h6⟩ := box2 h3
  exact ⟨h4, h5, by rwa [World.size_alloc, World.size_alloc] at h2, h6⟩
theorem add_plain2 {b o i : Nat} : (Addr.mk b o none).add i = ⟨b, o + i, none⟩ := by
  unfold Addr.add
  split <;> simp_all

theorem bulkAll_le {H : Type} {l : List (DataW H)} {d : DataW H} (h : d ∈ l) : Rows.uptoBulk d ≤ Rows.uptoBulkAll l := by
  induction l with
  | nil => simp at h
  | cons x r ih =>
    simp only [Rows.uptoBulkAll]
    rcases List.mem_cons.1 h with rfl | h
    · omega
    · have := ih h; omega


end Go.Proofs.Ytnblndmjjokepaa
