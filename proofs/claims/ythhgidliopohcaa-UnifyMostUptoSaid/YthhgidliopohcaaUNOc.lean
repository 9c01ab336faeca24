/- Loops over functions that lay boxes of their own: a round leaves all cells outside 'S' as they are. -/
import Derived.Test.YthhgidliopohcaaUNOa
import Derived.WalkKit
import Derived.Test.YthhgidliopohcaaUNOb

/- Operations, one law a kind and type. -/
namespace Go.Proofs.Ythhgidliopohcaa
open Go.RowKit Go
set_option linter.unusedVariables false
set_option linter.unusedSimpArgs false
set_option maxRecDepth 100000
theorem len_22 {w : World} {a : Act} {K : Act → World → Prop} {Q : Exit → Act → World → Prop} {o : Oper} {x : Operand} {r : Option Addr} {n c : Nat} (ho : o.op = .call { callee := .builtin .len, args := #[x], argTypes := #[22] }) (hx : a.eval x = .slice r n c) (hK : K (a.put o.dst (.int .i64 n)) w) : o.wp Try.prog a w K Q := by
  unfold Oper.wp execOp
  simp only [ho, resolve, List.map_toArray, List.map_cons, List.map_nil, hx]
  go_simp
  exact hK
theorem gtr_3 {w : World} {a : Act} {K : Act → World → Prop} {Q : Exit → Act → World → Prop} {o : Oper} {x y : Operand} {m n : Int} (ho : o.op = .binOp .gtr 3 x y 3) (hx : a.eval x = .int .i64 m) (hy : a.eval y = .int .i64 n) (hK : K (a.put o.dst (.bool (decide (n < m)))) w) : o.wp Try.prog a w K Q := by
  unfold Oper.wp execOp
  simp only [ho, hx, hy]
  go_simp
  exact hK
theorem lss_3 {w : World} {a : Act} {K : Act → World → Prop} {Q : Exit → Act → World → Prop} {o : Oper} {x y : Operand} {m n : Int} (ho : o.op = .binOp .lss 3 x y 3) (hx : a.eval x = .int .i64 m) (hy : a.eval y = .int .i64 n) (hK : K (a.put o.dst (.bool (decide (m < n)))) w) : o.wp Try.prog a w K Q := by
  unfold Oper.wp execOp
  simp only [ho, hx, hy]
  go_simp
  exact hK
theorem ix_22 {w : World} {a : Act} {K : Act → World → Prop} {Q : Exit → Act → World → Prop} {o : Oper} {x y : Operand} {r : Option Addr} {b p n c k : Nat} (ho : o.op = .indexAddr 22 x y) (hx : a.eval x = .slice r n c) (hr : r = some ⟨b, p, none⟩) (hy : a.eval y = .int .i64 (k : Int)) (hk : k < n) (hK : K (a.put o.dst (.pointer (some ⟨b, p + k * 4, none⟩))) w) : o.wp Try.prog a w K Q := by
  subst hr
  have h0 : (0 : Int) ≤ (k : Int) := by omega
  have h1 : (k : Int) < (n : Int) := by omega
  unfold Oper.wp execOp
  simp only [ho, hx, hy]
  go_simp
  exact hK
theorem ld_33 {w : World} {a : Act} {K : Act → World → Prop} {Q : Exit → Act → World → Prop} {o : Oper} {x : Operand} {b p : Nat} {c0 c1 c2 c3 : Value} (ho : o.op = .load 33 x) (hx : a.eval x = .pointer (some ⟨b, p, none⟩)) (h0 : w.cell? ⟨b, p, none⟩ = some c0) (h1 : w.cell? ⟨b, p + 1, none⟩ = some c1) (h2 : w.cell? ⟨b, p + 2, none⟩ = some c2) (h3 : w.cell? ⟨b, p + 3, none⟩ = some c3) (hK : K (a.put o.dst (.agg #[c0, c1, c2, c3])) w) : o.wp Try.prog a w K Q := by
  unfold Oper.wp execOp
  simp only [ho, hx]
  go_simp
  exact hK
theorem alloc_33 {w : World} {a : Act} {K : Act → World → Prop} {Q : Exit → Act → World → Prop} {o : Oper} (ho : o.op = .alloc 33) (hK : K (a.put o.dst (.pointer (some ⟨w.heap.size, 0, none⟩))) (w.alloc (.cells #[.int .i64 0, .slice none 0 0, .int .i64 0, .slice none 0 0] 33))) : o.wp Try.prog a w K Q := by
  unfold Oper.wp execOp
  simp only [ho]
  go_simp
  exact hK
theorem st_33 {w : World} {a : Act} {K : Act → World → Prop} {Q : Exit → Act → World → Prop} {o : Oper} {x y : Operand} {g p : Nat} {ty : TypeId} {cs : Array Value} {c0 c1 c2 c3 : Value} (ho : o.op = .store 33 x y) (hx : a.eval x = .pointer (some ⟨g, p, none⟩)) (hy : a.eval y = .agg #[c0, c1, c2, c3]) (k0 : c0.oneCell' = true) (k1 : c1.oneCell' = true) (k2 : c2.oneCell' = true) (k3 : c3.oneCell' = true) (hB : Blk w g ty cs) (hp : p + 3 < cs.size) (hK : ∀ v, K (a.put o.dst v) ((((w.setCell ⟨g, p, none⟩ c0).setCell ⟨g, p + 1, none⟩ c1).setCell ⟨g, p + 2, none⟩ c2).setCell ⟨g, p + 3, none⟩ c3)) : o.wp Try.prog a w K Q := by
  have h0 := (hB.cell (p)).trans (Array.getElem?_eq_getElem (by first | omega | (simp; omega)))
  have f0 := hB.frozen (p)
  have hB := hB.set_ (p) c0
  have h1 := (hB.cell (p + 1)).trans (Array.getElem?_eq_getElem (by first | omega | (simp; omega)))
  have f1 := hB.frozen (p + 1)
  have hB := hB.set_ (p + 1) c1
  have h2 := (hB.cell (p + 2)).trans (Array.getElem?_eq_getElem (by first | omega | (simp; omega)))
  have f2 := hB.frozen (p + 2)
  have hB := hB.set_ (p + 2) c2
  have h3 := (hB.cell (p + 3)).trans (Array.getElem?_eq_getElem (by first | omega | (simp; omega)))
  have f3 := hB.frozen (p + 3)
  have s0 := fun w a m => run_store Try.prog w a c0 m k0
  have s1 := fun w a m => run_store Try.prog w a c1 m k1
  have s2 := fun w a m => run_store Try.prog w a c2 m k2
  have s3 := fun w a m => run_store Try.prog w a c3 m k3
  clear hB
  unfold Oper.wp execOp
  simp only [ho, hx, hy]
  go_simp
  exact hK _
theorem ixa_33 {w : World} {a : Act} {K : Act → World → Prop} {Q : Exit → Act → World → Prop} {o : Oper} {x y : Operand} {b p k : Nat} (ho : o.op = .indexAddr 33 x y) (hx : a.eval x = .pointer (some ⟨b, p, none⟩)) (hy : a.eval y = .int .i64 (k : Int)) (hk : k < 2) (hK : K (a.put o.dst (.pointer (some ⟨b, p + k * 2, none⟩))) w) : o.wp Try.prog a w K Q := by
  have h0 : (0 : Int) ≤ (k : Int) := by omega
  have h1 : (k : Int) < (2 : Int) := by omega
  unfold Oper.wp execOp
  simp only [ho, hx, hy]
  go_simp
  exact hK
theorem ld_32 {w : World} {a : Act} {K : Act → World → Prop} {Q : Exit → Act → World → Prop} {o : Oper} {x : Operand} {b p : Nat} {c0 c1 : Value} (ho : o.op = .load 32 x) (hx : a.eval x = .pointer (some ⟨b, p, none⟩)) (h0 : w.cell? ⟨b, p, none⟩ = some c0) (h1 : w.cell? ⟨b, p + 1, none⟩ = some c1) (hK : K (a.put o.dst (.agg #[c0, c1])) w) : o.wp Try.prog a w K Q := by
  unfold Oper.wp execOp
  simp only [ho, hx]
  go_simp
  exact hK
theorem addb_3 {w : World} {a : Act} {K : Act → World → Prop} {Q : Exit → Act → World → Prop} {o : Oper} {x y : Operand} {m n r : Int} (ho : o.op = .binOp .add 3 x y 3) (hx : a.eval x = .int .i64 m) (hy : a.eval y = .int .i64 n) (hr : IntKind.i64.wrap (m + n) = r) (hK : K (a.put o.dst (.int .i64 r)) w) : o.wp Try.prog a w K Q := by
  subst hr
  unfold Oper.wp execOp
  simp only [ho, hx, hy]
  go_simp
  exact hK
theorem nilCheck_ {w : World} {a : Act} {K : Act → World → Prop} {Q : Exit → Act → World → Prop} {o : Oper} {x : Operand} {p : Addr} (ho : o.op = .nilCheck x) (hx : a.eval x = .pointer (some p)) (hK : K (a.put o.dst (.pointer (some p))) w) : o.wp Try.prog a w K Q := by
  unfold Oper.wp execOp
  simp only [ho, hx]
  go_simp
  exact hK
theorem fld_54_0 {w : World} {a : Act} {K : Act → World → Prop} {Q : Exit → Act → World → Prop} {o : Oper} {x : Operand} {b p : Nat} (ho : o.op = .fieldAddr 54 x 0) (hx : a.eval x = .pointer (some ⟨b, p, none⟩)) (hK : K (a.put o.dst (.pointer (some ⟨b, p, none⟩))) w) : o.wp Try.prog a w K Q := by
  unfold Oper.wp execOp
  simp only [ho, hx]
  go_simp
  exact hK
theorem fld_51_0 {w : World} {a : Act} {K : Act → World → Prop} {Q : Exit → Act → World → Prop} {o : Oper} {x : Operand} {b p : Nat} (ho : o.op = .fieldAddr 51 x 0) (hx : a.eval x = .pointer (some ⟨b, p, none⟩)) (hK : K (a.put o.dst (.pointer (some ⟨b, p, none⟩))) w) : o.wp Try.prog a w K Q := by
  unfold Oper.wp execOp
  simp only [ho, hx]
  go_simp
  exact hK
theorem ld_48 {w : World} {a : Act} {K : Act → World → Prop} {Q : Exit → Act → World → Prop} {o : Oper} {x : Operand} {p : Addr} {v : Value} (ho : o.op = .load 48 x) (hx : a.eval x = .pointer (some p)) (hc : w.cell? p = some v) (hK : K (a.put o.dst (v)) w) : o.wp Try.prog a w K Q := by
  unfold Oper.wp execOp
  simp only [ho, hx]
  go_simp
  exact hK
theorem len_48 {w : World} {a : Act} {K : Act → World → Prop} {Q : Exit → Act → World → Prop} {o : Oper} {x : Operand} {r : Option Addr} {n c : Nat} (ho : o.op = .call { callee := .builtin .len, args := #[x], argTypes := #[48] }) (hx : a.eval x = .slice r n c) (hK : K (a.put o.dst (.int .i64 n)) w) : o.wp Try.prog a w K Q := by
  unfold Oper.wp execOp
  simp only [ho, resolve, List.map_toArray, List.map_cons, List.map_nil, hx]
  go_simp
  exact hK
theorem ext2_0 {w : World} {a : Act} {K : Act → World → Prop} {Q : Exit → Act → World → Prop} {o : Oper} {x : Operand} {v0 v1 : Value} (ho : o.op = .extract x 0) (hx : a.eval x = .tuple #[v0, v1]) (hK : K (a.put o.dst (v0)) w) : o.wp Try.prog a w K Q := by
  unfold Oper.wp execOp
  simp only [ho, hx]
  go_simp
  exact hK
theorem ext3_0 {w : World} {a : Act} {K : Act → World → Prop} {Q : Exit → Act → World → Prop} {o : Oper} {x : Operand} {v0 v1 v2 : Value} (ho : o.op = .extract x 0) (hx : a.eval x = .tuple #[v0, v1, v2]) (hK : K (a.put o.dst (v0)) w) : o.wp Try.prog a w K Q := by
  unfold Oper.wp execOp
  simp only [ho, hx]
  go_simp
  exact hK
theorem ext2_1 {w : World} {a : Act} {K : Act → World → Prop} {Q : Exit → Act → World → Prop} {o : Oper} {x : Operand} {v0 v1 : Value} (ho : o.op = .extract x 1) (hx : a.eval x = .tuple #[v0, v1]) (hK : K (a.put o.dst (v1)) w) : o.wp Try.prog a w K Q := by
  unfold Oper.wp execOp
  simp only [ho, hx]
  go_simp
  exact hK
theorem ext3_1 {w : World} {a : Act} {K : Act → World → Prop} {Q : Exit → Act → World → Prop} {o : Oper} {x : Operand} {v0 v1 v2 : Value} (ho : o.op = .extract x 1) (hx : a.eval x = .tuple #[v0, v1, v2]) (hK : K (a.put o.dst (v1)) w) : o.wp Try.prog a w K Q := by
  unfold Oper.wp execOp
  simp only [ho, hx]
  go_simp
  exact hK
theorem ext3_2 {w : World} {a : Act} {K : Act → World → Prop} {Q : Exit → Act → World → Prop} {o : Oper} {x : Operand} {v0 v1 v2 : Value} (ho : o.op = .extract x 2) (hx : a.eval x = .tuple #[v0, v1, v2]) (hK : K (a.put o.dst (v2)) w) : o.wp Try.prog a w K Q := by
  unfold Oper.wp execOp
  simp only [ho, hx]
  go_simp
  exact hK
theorem neq_25 {w : World} {a : Act} {K : Act → World → Prop} {Q : Exit → Act → World → Prop} {o : Oper} {x y : Operand} {m n : Int} (ho : o.op = .binOp .neq 25 x y 25) (hx : a.eval x = .int .i64 m) (hy : a.eval y = .int .i64 n) (hK : K (a.put o.dst (.bool (m != n))) w) : o.wp Try.prog a w K Q := by
  unfold Oper.wp execOp
  simp only [ho, hx, hy]
  go_simp
  exact hK
theorem fld_54_1 {w : World} {a : Act} {K : Act → World → Prop} {Q : Exit → Act → World → Prop} {o : Oper} {x : Operand} {b p : Nat} (ho : o.op = .fieldAddr 54 x 1) (hx : a.eval x = .pointer (some ⟨b, p, none⟩)) (hK : K (a.put o.dst (.pointer (some ⟨b, p + 2, none⟩))) w) : o.wp Try.prog a w K Q := by
  unfold Oper.wp execOp
  simp only [ho, hx]
  go_simp
  exact hK
theorem eql_3 {w : World} {a : Act} {K : Act → World → Prop} {Q : Exit → Act → World → Prop} {o : Oper} {x y : Operand} {m n : Int} (ho : o.op = .binOp .eql 3 x y 3) (hx : a.eval x = .int .i64 m) (hy : a.eval y = .int .i64 n) (hK : K (a.put o.dst (.bool (m == n))) w) : o.wp Try.prog a w K Q := by
  unfold Oper.wp execOp
  simp only [ho, hx, hy]
  go_simp
  exact hK
theorem subb_3 {w : World} {a : Act} {K : Act → World → Prop} {Q : Exit → Act → World → Prop} {o : Oper} {x y : Operand} {m n r : Int} (ho : o.op = .binOp .sub 3 x y 3) (hx : a.eval x = .int .i64 m) (hy : a.eval y = .int .i64 n) (hr : IntKind.i64.wrap (m - n) = r) (hK : K (a.put o.dst (.int .i64 r)) w) : o.wp Try.prog a w K Q := by
  subst hr
  unfold Oper.wp execOp
  simp only [ho, hx, hy]
  go_simp
  exact hK
theorem fld_51_1 {w : World} {a : Act} {K : Act → World → Prop} {Q : Exit → Act → World → Prop} {o : Oper} {x : Operand} {b p : Nat} (ho : o.op = .fieldAddr 51 x 1) (hx : a.eval x = .pointer (some ⟨b, p, none⟩)) (hK : K (a.put o.dst (.pointer (some ⟨b, p + 1, none⟩))) w) : o.wp Try.prog a w K Q := by
  unfold Oper.wp execOp
  simp only [ho, hx]
  go_simp
  exact hK
theorem ld_49 {w : World} {a : Act} {K : Act → World → Prop} {Q : Exit → Act → World → Prop} {o : Oper} {x : Operand} {p : Addr} {v : Value} (ho : o.op = .load 49 x) (hx : a.eval x = .pointer (some p)) (hc : w.cell? p = some v) (hK : K (a.put o.dst (v)) w) : o.wp Try.prog a w K Q := by
  unfold Oper.wp execOp
  simp only [ho, hx]
  go_simp
  exact hK
theorem ix_49 {w : World} {a : Act} {K : Act → World → Prop} {Q : Exit → Act → World → Prop} {o : Oper} {x y : Operand} {r : Option Addr} {b p n c k : Nat} (ho : o.op = .indexAddr 49 x y) (hx : a.eval x = .slice r n c) (hr : r = some ⟨b, p, none⟩) (hy : a.eval y = .int .i64 (k : Int)) (hk : k < n) (hK : K (a.put o.dst (.pointer (some ⟨b, p + k * 2, none⟩))) w) : o.wp Try.prog a w K Q := by
  subst hr
  have h0 : (0 : Int) ≤ (k : Int) := by omega
  have h1 : (k : Int) < (n : Int) := by omega
  unfold Oper.wp execOp
  simp only [ho, hx, hy]
  go_simp
  exact hK
theorem fld_57_0 {w : World} {a : Act} {K : Act → World → Prop} {Q : Exit → Act → World → Prop} {o : Oper} {x : Operand} {b p : Nat} (ho : o.op = .fieldAddr 57 x 0) (hx : a.eval x = .pointer (some ⟨b, p, none⟩)) (hK : K (a.put o.dst (.pointer (some ⟨b, p, none⟩))) w) : o.wp Try.prog a w K Q := by
  unfold Oper.wp execOp
  simp only [ho, hx]
  go_simp
  exact hK
theorem ld_3 {w : World} {a : Act} {K : Act → World → Prop} {Q : Exit → Act → World → Prop} {o : Oper} {x : Operand} {p : Addr} {v : Value} (ho : o.op = .load 3 x) (hx : a.eval x = .pointer (some p)) (hc : w.cell? p = some v) (hK : K (a.put o.dst (v)) w) : o.wp Try.prog a w K Q := by
  unfold Oper.wp execOp
  simp only [ho, hx]
  go_simp
  exact hK
theorem ix_45 {w : World} {a : Act} {K : Act → World → Prop} {Q : Exit → Act → World → Prop} {o : Oper} {x y : Operand} {r : Option Addr} {b p n c k : Nat} (ho : o.op = .indexAddr 45 x y) (hx : a.eval x = .slice r n c) (hr : r = some ⟨b, p, none⟩) (hy : a.eval y = .int .i64 (k : Int)) (hk : k < n) (hK : K (a.put o.dst (.pointer (some ⟨b, p + k * 3, none⟩))) w) : o.wp Try.prog a w K Q := by
  subst hr
  have h0 : (0 : Int) ≤ (k : Int) := by omega
  have h1 : (k : Int) < (n : Int) := by omega
  unfold Oper.wp execOp
  simp only [ho, hx, hy]
  go_simp
  exact hK
theorem fld_59_0 {w : World} {a : Act} {K : Act → World → Prop} {Q : Exit → Act → World → Prop} {o : Oper} {x : Operand} {b p : Nat} (ho : o.op = .fieldAddr 59 x 0) (hx : a.eval x = .pointer (some ⟨b, p, none⟩)) (hK : K (a.put o.dst (.pointer (some ⟨b, p, none⟩))) w) : o.wp Try.prog a w K Q := by
  unfold Oper.wp execOp
  simp only [ho, hx]
  go_simp
  exact hK
theorem fld_59_1 {w : World} {a : Act} {K : Act → World → Prop} {Q : Exit → Act → World → Prop} {o : Oper} {x : Operand} {b p : Nat} (ho : o.op = .fieldAddr 59 x 1) (hx : a.eval x = .pointer (some ⟨b, p, none⟩)) (hK : K (a.put o.dst (.pointer (some ⟨b, p + 1, none⟩))) w) : o.wp Try.prog a w K Q := by
  unfold Oper.wp execOp
  simp only [ho, hx]
  go_simp
  exact hK
theorem build_41_0_1 {w : World} {a : Act} {K : Act → World → Prop} {Q : Exit → Act → World → Prop} {o : Oper} {x0 x1 : Operand} {c0 : Int} {c1 c2 : Value} (ho : o.op = .build 41 #[(0, x0), (1, x1)]) (h0 : a.eval x0 = .int .i64 c0) (h1 : a.eval x1 = .agg #[c1, c2]) (hK : K (a.put o.dst (.agg #[.int .i64 c0, c1, c2])) w) : o.wp Try.prog a w K Q := by
  unfold Oper.wp execOp
  simp only [ho, List.map_toArray, List.map_cons, List.map_nil, h0, h1]
  go_simp
  exact hK
theorem row_24_1 {w : World} {a : Act} {K : Act → World → Prop} {Q : Exit → Act → World → Prop} {o : Oper} {x0 : Operand} {c0 c1 c2 : Value} (ho : o.op = .buildSlice 24 1 #[(0, x0)]) (h0 : a.eval x0 = .agg #[c0, c1, c2]) (hK : K (a.put o.dst (.slice (some ⟨w.heap.size, 0, none⟩) 1 1)) (w.alloc (.cells #[c0, c1, c2] 41))) : o.wp Try.prog a w K Q := by
  unfold Oper.wp execOp
  simp only [ho, List.map_toArray, List.map_cons, List.map_nil, h0]
  go_simp
  exact hK
theorem box_32 {w : World} {a : Act} {K : Act → World → Prop} {Q : Exit → Act → World → Prop} {o : Oper} {x : Operand} {c0 c1 : Value} (ho : o.op = .box 32 x) (hx : a.eval x = .agg #[c0, c1]) (hK : K (a.put o.dst (.pointer (some ⟨w.heap.size, 0, none⟩))) (w.alloc (.cells #[c0, c1] 32))) : o.wp Try.prog a w K Q := by
  unfold Oper.wp execOp
  simp only [ho, hx]
  go_simp
  exact hK
theorem build_33_0_1 {w : World} {a : Act} {K : Act → World → Prop} {Q : Exit → Act → World → Prop} {o : Oper} {x0 x1 : Operand} {c0 c1 : Value} {c2 c3 : Value} (ho : o.op = .build 33 #[(0, x0), (1, x1)]) (h0 : a.eval x0 = .agg #[c0, c1]) (h1 : a.eval x1 = .agg #[c2, c3]) (hK : K (a.put o.dst (.agg #[c0, c1, c2, c3])) w) : o.wp Try.prog a w K Q := by
  unfold Oper.wp execOp
  simp only [ho, List.map_toArray, List.map_cons, List.map_nil, h0, h1]
  go_simp
  exact hK
theorem row_22_1 {w : World} {a : Act} {K : Act → World → Prop} {Q : Exit → Act → World → Prop} {o : Oper} {x0 : Operand} {c0 c1 c2 c3 : Value} (ho : o.op = .buildSlice 22 1 #[(0, x0)]) (h0 : a.eval x0 = .agg #[c0, c1, c2, c3]) (hK : K (a.put o.dst (.slice (some ⟨w.heap.size, 0, none⟩) 1 1)) (w.alloc (.cells #[c0, c1, c2, c3] 33))) : o.wp Try.prog a w K Q := by
  unfold Oper.wp execOp
  simp only [ho, List.map_toArray, List.map_cons, List.map_nil, h0]
  go_simp
  exact hK
theorem eql_25 {w : World} {a : Act} {K : Act → World → Prop} {Q : Exit → Act → World → Prop} {o : Oper} {x y : Operand} {m n : Int} (ho : o.op = .binOp .eql 25 x y 25) (hx : a.eval x = .int .i64 m) (hy : a.eval y = .int .i64 n) (hK : K (a.put o.dst (.bool (m == n))) w) : o.wp Try.prog a w K Q := by
  unfold Oper.wp execOp
  simp only [ho, hx, hy]
  go_simp
  exact hK
theorem fld_32_0 {w : World} {a : Act} {K : Act → World → Prop} {Q : Exit → Act → World → Prop} {o : Oper} {x : Operand} {b p : Nat} (ho : o.op = .fieldAddr 32 x 0) (hx : a.eval x = .pointer (some ⟨b, p, none⟩)) (hK : K (a.put o.dst (.pointer (some ⟨b, p, none⟩))) w) : o.wp Try.prog a w K Q := by
  unfold Oper.wp execOp
  simp only [ho, hx]
  go_simp
  exact hK
theorem ixa_52 {w : World} {a : Act} {K : Act → World → Prop} {Q : Exit → Act → World → Prop} {o : Oper} {x y : Operand} {b p k : Nat} (ho : o.op = .indexAddr 52 x y) (hx : a.eval x = .pointer (some ⟨b, p, none⟩)) (hy : a.eval y = .int .i64 (k : Int)) (hk : k < 96) (hK : K (a.put o.dst (.pointer (some ⟨b, p + k, none⟩))) w) : o.wp Try.prog a w K Q := by
  have h0 : (0 : Int) ≤ (k : Int) := by omega
  have h1 : (k : Int) < (96 : Int) := by omega
  unfold Oper.wp execOp
  simp only [ho, hx, hy]
  go_simp
  exact hK
theorem build_57_0 {w : World} {a : Act} {K : Act → World → Prop} {Q : Exit → Act → World → Prop} {o : Oper} {x0 : Operand} {c0 : Int} (ho : o.op = .build 57 #[(0, x0)]) (h0 : a.eval x0 = .int .i64 c0) (hK : K (a.put o.dst (.agg #[.int .i64 c0, .slice none 0 0])) w) : o.wp Try.prog a w K Q := by
  unfold Oper.wp execOp
  simp only [ho, List.map_toArray, List.map_cons, List.map_nil, h0]
  go_simp
  exact hK
theorem st_3 {w : World} {a : Act} {K : Act → World → Prop} {Q : Exit → Act → World → Prop} {o : Oper} {x y : Operand} {g p : Nat} {ty : TypeId} {cs : Array Value} {c0 : Int} (ho : o.op = .store 3 x y) (hx : a.eval x = .pointer (some ⟨g, p, none⟩)) (hy : a.eval y = .int .i64 c0) (hB : Blk w g ty cs) (hp : p + 0 < cs.size) (hK : ∀ v, K (a.put o.dst v) (w.setCell ⟨g, p, none⟩ (.int .i64 c0))) : o.wp Try.prog a w K Q := by
  have h0 := (hB.cell (p)).trans (Array.getElem?_eq_getElem (by first | omega | (simp; omega)))
  have f0 := hB.frozen (p)
  clear hB
  unfold Oper.wp execOp
  simp only [ho, hx, hy]
  go_simp
  exact hK _
theorem alloc_57 {w : World} {a : Act} {K : Act → World → Prop} {Q : Exit → Act → World → Prop} {o : Oper} (ho : o.op = .alloc 57) (hK : K (a.put o.dst (.pointer (some ⟨w.heap.size, 0, none⟩))) (w.alloc (.cells #[.int .i64 0, .slice none 0 0] 57))) : o.wp Try.prog a w K Q := by
  unfold Oper.wp execOp
  simp only [ho]
  go_simp
  exact hK
theorem st_57 {w : World} {a : Act} {K : Act → World → Prop} {Q : Exit → Act → World → Prop} {o : Oper} {x y : Operand} {g p : Nat} {ty : TypeId} {cs : Array Value} {c0 c1 : Value} (ho : o.op = .store 57 x y) (hx : a.eval x = .pointer (some ⟨g, p, none⟩)) (hy : a.eval y = .agg #[c0, c1]) (k0 : c0.oneCell' = true) (k1 : c1.oneCell' = true) (hB : Blk w g ty cs) (hp : p + 1 < cs.size) (hK : ∀ v, K (a.put o.dst v) ((w.setCell ⟨g, p, none⟩ c0).setCell ⟨g, p + 1, none⟩ c1)) : o.wp Try.prog a w K Q := by
  have h0 := (hB.cell (p)).trans (Array.getElem?_eq_getElem (by first | omega | (simp; omega)))
  have f0 := hB.frozen (p)
  have hB := hB.set_ (p) c0
  have h1 := (hB.cell (p + 1)).trans (Array.getElem?_eq_getElem (by first | omega | (simp; omega)))
  have f1 := hB.frozen (p + 1)
  have s0 := fun w a m => run_store Try.prog w a c0 m k0
  have s1 := fun w a m => run_store Try.prog w a c1 m k1
  clear hB
  unfold Oper.wp execOp
  simp only [ho, hx, hy]
  go_simp
  exact hK _
theorem fld_32_1 {w : World} {a : Act} {K : Act → World → Prop} {Q : Exit → Act → World → Prop} {o : Oper} {x : Operand} {b p : Nat} (ho : o.op = .fieldAddr 32 x 1) (hx : a.eval x = .pointer (some ⟨b, p, none⟩)) (hK : K (a.put o.dst (.pointer (some ⟨b, p + 1, none⟩))) w) : o.wp Try.prog a w K Q := by
  unfold Oper.wp execOp
  simp only [ho, hx]
  go_simp
  exact hK
theorem ld_30 {w : World} {a : Act} {K : Act → World → Prop} {Q : Exit → Act → World → Prop} {o : Oper} {x : Operand} {p : Addr} {v : Value} (ho : o.op = .load 30 x) (hx : a.eval x = .pointer (some p)) (hc : w.cell? p = some v) (hK : K (a.put o.dst (v)) w) : o.wp Try.prog a w K Q := by
  unfold Oper.wp execOp
  simp only [ho, hx]
  go_simp
  exact hK
theorem len_30 {w : World} {a : Act} {K : Act → World → Prop} {Q : Exit → Act → World → Prop} {o : Oper} {x : Operand} {r : Option Addr} {n c : Nat} (ho : o.op = .call { callee := .builtin .len, args := #[x], argTypes := #[30] }) (hx : a.eval x = .slice r n c) (hK : K (a.put o.dst (.int .i64 n)) w) : o.wp Try.prog a w K Q := by
  unfold Oper.wp execOp
  simp only [ho, resolve, List.map_toArray, List.map_cons, List.map_nil, hx]
  go_simp
  exact hK
theorem fld_57_1 {w : World} {a : Act} {K : Act → World → Prop} {Q : Exit → Act → World → Prop} {o : Oper} {x : Operand} {b p : Nat} (ho : o.op = .fieldAddr 57 x 1) (hx : a.eval x = .pointer (some ⟨b, p, none⟩)) (hK : K (a.put o.dst (.pointer (some ⟨b, p + 1, none⟩))) w) : o.wp Try.prog a w K Q := by
  unfold Oper.wp execOp
  simp only [ho, hx]
  go_simp
  exact hK
theorem ix_30 {w : World} {a : Act} {K : Act → World → Prop} {Q : Exit → Act → World → Prop} {o : Oper} {x y : Operand} {r : Option Addr} {b p n c k : Nat} (ho : o.op = .indexAddr 30 x y) (hx : a.eval x = .slice r n c) (hr : r = some ⟨b, p, none⟩) (hy : a.eval y = .int .i64 (k : Int)) (hk : k < n) (hK : K (a.put o.dst (.pointer (some ⟨b, p + k * 2, none⟩))) w) : o.wp Try.prog a w K Q := by
  subst hr
  have h0 : (0 : Int) ≤ (k : Int) := by omega
  have h1 : (k : Int) < (n : Int) := by omega
  unfold Oper.wp execOp
  simp only [ho, hx, hy]
  go_simp
  exact hK
theorem row_48_1 {w : World} {a : Act} {K : Act → World → Prop} {Q : Exit → Act → World → Prop} {o : Oper} {x0 : Operand} {c0 : Int} (ho : o.op = .buildSlice 48 1 #[(0, x0)]) (h0 : a.eval x0 = .int .i64 c0) (hK : K (a.put o.dst (.slice (some ⟨w.heap.size, 0, none⟩) 1 1)) (w.alloc (.cells #[.int .i64 c0] 3))) : o.wp Try.prog a w K Q := by
  unfold Oper.wp execOp
  simp only [ho, List.map_toArray, List.map_cons, List.map_nil, h0]
  go_simp
  exact hK
theorem st_48 {w : World} {a : Act} {K : Act → World → Prop} {Q : Exit → Act → World → Prop} {o : Oper} {x y : Operand} {g p : Nat} {ty : TypeId} {cs : Array Value} {c0a : Option Addr} {c0n c0c : Nat} (ho : o.op = .store 48 x y) (hx : a.eval x = .pointer (some ⟨g, p, none⟩)) (hy : a.eval y = .slice c0a c0n c0c) (hB : Blk w g ty cs) (hp : p + 0 < cs.size) (hK : ∀ v, K (a.put o.dst v) (w.setCell ⟨g, p, none⟩ (.slice c0a c0n c0c))) : o.wp Try.prog a w K Q := by
  have h0 := (hB.cell (p)).trans (Array.getElem?_eq_getElem (by first | omega | (simp; omega)))
  have f0 := hB.frozen (p)
  clear hB
  unfold Oper.wp execOp
  simp only [ho, hx, hy]
  go_simp
  exact hK _
theorem ld_57 {w : World} {a : Act} {K : Act → World → Prop} {Q : Exit → Act → World → Prop} {o : Oper} {x : Operand} {b p : Nat} {c0 c1 : Value} (ho : o.op = .load 57 x) (hx : a.eval x = .pointer (some ⟨b, p, none⟩)) (h0 : w.cell? ⟨b, p, none⟩ = some c0) (h1 : w.cell? ⟨b, p + 1, none⟩ = some c1) (hK : K (a.put o.dst (.agg #[c0, c1])) w) : o.wp Try.prog a w K Q := by
  unfold Oper.wp execOp
  simp only [ho, hx]
  go_simp
  exact hK
theorem build_94_0_1 {w : World} {a : Act} {K : Act → World → Prop} {Q : Exit → Act → World → Prop} {o : Oper} {x0 x1 : Operand} {c0 : Int} {c1 : Int} (ho : o.op = .build 94 #[(0, x0), (1, x1)]) (h0 : a.eval x0 = .int .i64 c0) (h1 : a.eval x1 = .int .i64 c1) (hK : K (a.put o.dst (.agg #[.int .i64 c0, .int .i64 c1])) w) : o.wp Try.prog a w K Q := by
  unfold Oper.wp execOp
  simp only [ho, List.map_toArray, List.map_cons, List.map_nil, h0, h1]
  go_simp
  exact hK
theorem row_95_1 {w : World} {a : Act} {K : Act → World → Prop} {Q : Exit → Act → World → Prop} {o : Oper} {x0 : Operand} {c0 c1 : Value} (ho : o.op = .buildSlice 95 1 #[(0, x0)]) (h0 : a.eval x0 = .agg #[c0, c1]) (hK : K (a.put o.dst (.slice (some ⟨w.heap.size, 0, none⟩) 1 1)) (w.alloc (.cells #[c0, c1] 94))) : o.wp Try.prog a w K Q := by
  unfold Oper.wp execOp
  simp only [ho, List.map_toArray, List.map_cons, List.map_nil, h0]
  go_simp
  exact hK
theorem len_95 {w : World} {a : Act} {K : Act → World → Prop} {Q : Exit → Act → World → Prop} {o : Oper} {x : Operand} {r : Option Addr} {n c : Nat} (ho : o.op = .call { callee := .builtin .len, args := #[x], argTypes := #[95] }) (hx : a.eval x = .slice r n c) (hK : K (a.put o.dst (.int .i64 n)) w) : o.wp Try.prog a w K Q := by
  unfold Oper.wp execOp
  simp only [ho, resolve, List.map_toArray, List.map_cons, List.map_nil, hx]
  go_simp
  exact hK
theorem ix_95 {w : World} {a : Act} {K : Act → World → Prop} {Q : Exit → Act → World → Prop} {o : Oper} {x y : Operand} {r : Option Addr} {b p n c k : Nat} (ho : o.op = .indexAddr 95 x y) (hx : a.eval x = .slice r n c) (hr : r = some ⟨b, p, none⟩) (hy : a.eval y = .int .i64 (k : Int)) (hk : k < n) (hK : K (a.put o.dst (.pointer (some ⟨b, p + k * 2, none⟩))) w) : o.wp Try.prog a w K Q := by
  subst hr
  have h0 : (0 : Int) ≤ (k : Int) := by omega
  have h1 : (k : Int) < (n : Int) := by omega
  unfold Oper.wp execOp
  simp only [ho, hx, hy]
  go_simp
  exact hK
theorem ld_94 {w : World} {a : Act} {K : Act → World → Prop} {Q : Exit → Act → World → Prop} {o : Oper} {x : Operand} {b p : Nat} {c0 c1 : Value} (ho : o.op = .load 94 x) (hx : a.eval x = .pointer (some ⟨b, p, none⟩)) (h0 : w.cell? ⟨b, p, none⟩ = some c0) (h1 : w.cell? ⟨b, p + 1, none⟩ = some c1) (hK : K (a.put o.dst (.agg #[c0, c1])) w) : o.wp Try.prog a w K Q := by
  unfold Oper.wp execOp
  simp only [ho, hx]
  go_simp
  exact hK
theorem alloc_94 {w : World} {a : Act} {K : Act → World → Prop} {Q : Exit → Act → World → Prop} {o : Oper} (ho : o.op = .alloc 94) (hK : K (a.put o.dst (.pointer (some ⟨w.heap.size, 0, none⟩))) (w.alloc (.cells #[.int .i64 0, .int .i64 0] 94))) : o.wp Try.prog a w K Q := by
  unfold Oper.wp execOp
  simp only [ho]
  go_simp
  exact hK
theorem st_94 {w : World} {a : Act} {K : Act → World → Prop} {Q : Exit → Act → World → Prop} {o : Oper} {x y : Operand} {g p : Nat} {ty : TypeId} {cs : Array Value} {c0 c1 : Value} (ho : o.op = .store 94 x y) (hx : a.eval x = .pointer (some ⟨g, p, none⟩)) (hy : a.eval y = .agg #[c0, c1]) (k0 : c0.oneCell' = true) (k1 : c1.oneCell' = true) (hB : Blk w g ty cs) (hp : p + 1 < cs.size) (hK : ∀ v, K (a.put o.dst v) ((w.setCell ⟨g, p, none⟩ c0).setCell ⟨g, p + 1, none⟩ c1)) : o.wp Try.prog a w K Q := by
  have h0 := (hB.cell (p)).trans (Array.getElem?_eq_getElem (by first | omega | (simp; omega)))
  have f0 := hB.frozen (p)
  have hB := hB.set_ (p) c0
  have h1 := (hB.cell (p + 1)).trans (Array.getElem?_eq_getElem (by first | omega | (simp; omega)))
  have f1 := hB.frozen (p + 1)
  have s0 := fun w a m => run_store Try.prog w a c0 m k0
  have s1 := fun w a m => run_store Try.prog w a c1 m k1
  clear hB
  unfold Oper.wp execOp
  simp only [ho, hx, hy]
  go_simp
  exact hK _
theorem shi_95 {w : World} {a : Act} {K : Act → World → Prop} {Q : Exit → Act → World → Prop} {o : Oper} {x hi : Operand} {r : Option Addr} {n c k : Nat} (ho : o.op = .slice 95 x none (some hi) none) (hx : a.eval x = .slice r n c) (hl : a.eval hi = .int .i64 (k : Int)) (hk : k ≤ c) (hK : K (a.put o.dst (.slice r k c)) w) : o.wp Try.prog a w K Q := by
  have h0 : (0 : Int) ≤ (k : Int) := by omega
  have h1 : (k : Int) ≤ (c : Int) := by omega
  unfold Oper.wp execOp
  simp only [ho, hx, hl, Option.map_some, Option.map_none]
  go_simp
  exact hK
theorem ixa_94 {w : World} {a : Act} {K : Act → World → Prop} {Q : Exit → Act → World → Prop} {o : Oper} {x y : Operand} {b p k : Nat} (ho : o.op = .indexAddr 94 x y) (hx : a.eval x = .pointer (some ⟨b, p, none⟩)) (hy : a.eval y = .int .i64 (k : Int)) (hk : k < 2) (hK : K (a.put o.dst (.pointer (some ⟨b, p + k, none⟩))) w) : o.wp Try.prog a w K Q := by
  have h0 : (0 : Int) ≤ (k : Int) := by omega
  have h1 : (k : Int) < (2 : Int) := by omega
  unfold Oper.wp execOp
  simp only [ho, hx, hy]
  go_simp
  exact hK
theorem geq_3 {w : World} {a : Act} {K : Act → World → Prop} {Q : Exit → Act → World → Prop} {o : Oper} {x y : Operand} {m n : Int} (ho : o.op = .binOp .geq 3 x y 3) (hx : a.eval x = .int .i64 m) (hy : a.eval y = .int .i64 n) (hK : K (a.put o.dst (.bool (decide (n ≤ m)))) w) : o.wp Try.prog a w K Q := by
  unfold Oper.wp execOp
  simp only [ho, hx, hy]
  go_simp
  exact hK
theorem ix_48 {w : World} {a : Act} {K : Act → World → Prop} {Q : Exit → Act → World → Prop} {o : Oper} {x y : Operand} {r : Option Addr} {b p n c k : Nat} (ho : o.op = .indexAddr 48 x y) (hx : a.eval x = .slice r n c) (hr : r = some ⟨b, p, none⟩) (hy : a.eval y = .int .i64 (k : Int)) (hk : k < n) (hK : K (a.put o.dst (.pointer (some ⟨b, p + k, none⟩))) w) : o.wp Try.prog a w K Q := by
  subst hr
  have h0 : (0 : Int) ≤ (k : Int) := by omega
  have h1 : (k : Int) < (n : Int) := by omega
  unfold Oper.wp execOp
  simp only [ho, hx, hy]
  go_simp
  exact hK
theorem neq_3 {w : World} {a : Act} {K : Act → World → Prop} {Q : Exit → Act → World → Prop} {o : Oper} {x y : Operand} {m n : Int} (ho : o.op = .binOp .neq 3 x y 3) (hx : a.eval x = .int .i64 m) (hy : a.eval y = .int .i64 n) (hK : K (a.put o.dst (.bool (m != n))) w) : o.wp Try.prog a w K Q := by
  unfold Oper.wp execOp
  simp only [ho, hx, hy]
  go_simp
  exact hK
theorem fld_59_2 {w : World} {a : Act} {K : Act → World → Prop} {Q : Exit → Act → World → Prop} {o : Oper} {x : Operand} {b p : Nat} (ho : o.op = .fieldAddr 59 x 2) (hx : a.eval x = .pointer (some ⟨b, p, none⟩)) (hK : K (a.put o.dst (.pointer (some ⟨b, p + 2, none⟩))) w) : o.wp Try.prog a w K Q := by
  unfold Oper.wp execOp
  simp only [ho, hx]
  go_simp
  exact hK
theorem ld_4 {w : World} {a : Act} {K : Act → World → Prop} {Q : Exit → Act → World → Prop} {o : Oper} {x : Operand} {p : Addr} {v : Value} (ho : o.op = .load 4 x) (hx : a.eval x = .pointer (some p)) (hc : w.cell? p = some v) (hK : K (a.put o.dst (v)) w) : o.wp Try.prog a w K Q := by
  unfold Oper.wp execOp
  simp only [ho, hx]
  go_simp
  exact hK
theorem st_4 {w : World} {a : Act} {K : Act → World → Prop} {Q : Exit → Act → World → Prop} {o : Oper} {x y : Operand} {g p : Nat} {ty : TypeId} {cs : Array Value} {c0 : Bool} (ho : o.op = .store 4 x y) (hx : a.eval x = .pointer (some ⟨g, p, none⟩)) (hy : a.eval y = .bool c0) (hB : Blk w g ty cs) (hp : p + 0 < cs.size) (hK : ∀ v, K (a.put o.dst v) (w.setCell ⟨g, p, none⟩ (.bool c0))) : o.wp Try.prog a w K Q := by
  have h0 := (hB.cell (p)).trans (Array.getElem?_eq_getElem (by first | omega | (simp; omega)))
  have f0 := hB.frozen (p)
  clear hB
  unfold Oper.wp execOp
  simp only [ho, hx, hy]
  go_simp
  exact hK _
theorem ld_59 {w : World} {a : Act} {K : Act → World → Prop} {Q : Exit → Act → World → Prop} {o : Oper} {x : Operand} {b p : Nat} {c0 c1 c2 : Value} (ho : o.op = .load 59 x) (hx : a.eval x = .pointer (some ⟨b, p, none⟩)) (h0 : w.cell? ⟨b, p, none⟩ = some c0) (h1 : w.cell? ⟨b, p + 1, none⟩ = some c1) (h2 : w.cell? ⟨b, p + 2, none⟩ = some c2) (hK : K (a.put o.dst (.agg #[c0, c1, c2])) w) : o.wp Try.prog a w K Q := by
  unfold Oper.wp execOp
  simp only [ho, hx]
  go_simp
  exact hK
theorem alloc_59 {w : World} {a : Act} {K : Act → World → Prop} {Q : Exit → Act → World → Prop} {o : Oper} (ho : o.op = .alloc 59) (hK : K (a.put o.dst (.pointer (some ⟨w.heap.size, 0, none⟩))) (w.alloc (.cells #[.int .i64 0, .int .i64 0, .bool false] 59))) : o.wp Try.prog a w K Q := by
  unfold Oper.wp execOp
  simp only [ho]
  go_simp
  exact hK
theorem st_59 {w : World} {a : Act} {K : Act → World → Prop} {Q : Exit → Act → World → Prop} {o : Oper} {x y : Operand} {g p : Nat} {ty : TypeId} {cs : Array Value} {c0 c1 c2 : Value} (ho : o.op = .store 59 x y) (hx : a.eval x = .pointer (some ⟨g, p, none⟩)) (hy : a.eval y = .agg #[c0, c1, c2]) (k0 : c0.oneCell' = true) (k1 : c1.oneCell' = true) (k2 : c2.oneCell' = true) (hB : Blk w g ty cs) (hp : p + 2 < cs.size) (hK : ∀ v, K (a.put o.dst v) (((w.setCell ⟨g, p, none⟩ c0).setCell ⟨g, p + 1, none⟩ c1).setCell ⟨g, p + 2, none⟩ c2)) : o.wp Try.prog a w K Q := by
  have h0 := (hB.cell (p)).trans (Array.getElem?_eq_getElem (by first | omega | (simp; omega)))
  have f0 := hB.frozen (p)
  have hB := hB.set_ (p) c0
  have h1 := (hB.cell (p + 1)).trans (Array.getElem?_eq_getElem (by first | omega | (simp; omega)))
  have f1 := hB.frozen (p + 1)
  have hB := hB.set_ (p + 1) c1
  have h2 := (hB.cell (p + 2)).trans (Array.getElem?_eq_getElem (by first | omega | (simp; omega)))
  have f2 := hB.frozen (p + 2)
  have s0 := fun w a m => run_store Try.prog w a c0 m k0
  have s1 := fun w a m => run_store Try.prog w a c1 m k1
  have s2 := fun w a m => run_store Try.prog w a c2 m k2
  clear hB
  unfold Oper.wp execOp
  simp only [ho, hx, hy]
  go_simp
  exact hK _
theorem min_3 {w : World} {a : Act} {K : Act → World → Prop} {Q : Exit → Act → World → Prop} {o : Oper} {x y : Operand} {m n : Int} (ho : o.op = .call { callee := .builtin .min, args := #[x, y], argTypes := #[3, 3] }) (hx : a.eval x = .int .i64 m) (hy : a.eval y = .int .i64 n) (hK : K (a.put o.dst (.int .i64 (min m n))) w) : o.wp Try.prog a w K Q := by
  unfold Oper.wp execOp
  simp only [ho, resolve, List.map_toArray, List.map_cons, List.map_nil, hx, hy]
  go_simp
  first
    | exact hK
    | (have e : min m n = (if n < m then n else m) := by split <;> omega
       rw [e] at hK
       exact hK)
theorem max_3 {w : World} {a : Act} {K : Act → World → Prop} {Q : Exit → Act → World → Prop} {o : Oper} {x y : Operand} {m n : Int} (ho : o.op = .call { callee := .builtin .max, args := #[x, y], argTypes := #[3, 3] }) (hx : a.eval x = .int .i64 m) (hy : a.eval y = .int .i64 n) (hK : K (a.put o.dst (.int .i64 (max m n))) w) : o.wp Try.prog a w K Q := by
  unfold Oper.wp execOp
  simp only [ho, resolve, List.map_toArray, List.map_cons, List.map_nil, hx, hy]
  go_simp
  first
    | exact hK
    | (have e : max m n = (if m < n then n else m) := by split <;> omega
       rw [e] at hK
       exact hK)
theorem build_59_0_1 {w : World} {a : Act} {K : Act → World → Prop} {Q : Exit → Act → World → Prop} {o : Oper} {x0 x1 : Operand} {c0 : Int} {c1 : Int} (ho : o.op = .build 59 #[(0, x0), (1, x1)]) (h0 : a.eval x0 = .int .i64 c0) (h1 : a.eval x1 = .int .i64 c1) (hK : K (a.put o.dst (.agg #[.int .i64 c0, .int .i64 c1, .bool false])) w) : o.wp Try.prog a w K Q := by
  unfold Oper.wp execOp
  simp only [ho, List.map_toArray, List.map_cons, List.map_nil, h0, h1]
  go_simp
  exact hK
theorem alloc_32 {w : World} {a : Act} {K : Act → World → Prop} {Q : Exit → Act → World → Prop} {o : Oper} (ho : o.op = .alloc 32) (hK : K (a.put o.dst (.pointer (some ⟨w.heap.size, 0, none⟩))) (w.alloc (.cells #[.int .i64 0, .slice none 0 0] 32))) : o.wp Try.prog a w K Q := by
  unfold Oper.wp execOp
  simp only [ho]
  go_simp
  exact hK
theorem build_32_0 {w : World} {a : Act} {K : Act → World → Prop} {Q : Exit → Act → World → Prop} {o : Oper} {x0 : Operand} {c0 : Int} (ho : o.op = .build 32 #[(0, x0)]) (h0 : a.eval x0 = .int .i64 c0) (hK : K (a.put o.dst (.agg #[.int .i64 c0, .slice none 0 0])) w) : o.wp Try.prog a w K Q := by
  unfold Oper.wp execOp
  simp only [ho, List.map_toArray, List.map_cons, List.map_nil, h0]
  go_simp
  exact hK
theorem st_32 {w : World} {a : Act} {K : Act → World → Prop} {Q : Exit → Act → World → Prop} {o : Oper} {x y : Operand} {g p : Nat} {ty : TypeId} {cs : Array Value} {c0 c1 : Value} (ho : o.op = .store 32 x y) (hx : a.eval x = .pointer (some ⟨g, p, none⟩)) (hy : a.eval y = .agg #[c0, c1]) (k0 : c0.oneCell' = true) (k1 : c1.oneCell' = true) (hB : Blk w g ty cs) (hp : p + 1 < cs.size) (hK : ∀ v, K (a.put o.dst v) ((w.setCell ⟨g, p, none⟩ c0).setCell ⟨g, p + 1, none⟩ c1)) : o.wp Try.prog a w K Q := by
  have h0 := (hB.cell (p)).trans (Array.getElem?_eq_getElem (by first | omega | (simp; omega)))
  have f0 := hB.frozen (p)
  have hB := hB.set_ (p) c0
  have h1 := (hB.cell (p + 1)).trans (Array.getElem?_eq_getElem (by first | omega | (simp; omega)))
  have f1 := hB.frozen (p + 1)
  have s0 := fun w a m => run_store Try.prog w a c0 m k0
  have s1 := fun w a m => run_store Try.prog w a c1 m k1
  clear hB
  unfold Oper.wp execOp
  simp only [ho, hx, hy]
  go_simp
  exact hK _
theorem row_30_1 {w : World} {a : Act} {K : Act → World → Prop} {Q : Exit → Act → World → Prop} {o : Oper} {x0 : Operand} {c0 c1 : Value} (ho : o.op = .buildSlice 30 1 #[(0, x0)]) (h0 : a.eval x0 = .agg #[c0, c1]) (hK : K (a.put o.dst (.slice (some ⟨w.heap.size, 0, none⟩) 1 1)) (w.alloc (.cells #[c0, c1] 32))) : o.wp Try.prog a w K Q := by
  unfold Oper.wp execOp
  simp only [ho, List.map_toArray, List.map_cons, List.map_nil, h0]
  go_simp
  exact hK
theorem st_30 {w : World} {a : Act} {K : Act → World → Prop} {Q : Exit → Act → World → Prop} {o : Oper} {x y : Operand} {g p : Nat} {ty : TypeId} {cs : Array Value} {c0a : Option Addr} {c0n c0c : Nat} (ho : o.op = .store 30 x y) (hx : a.eval x = .pointer (some ⟨g, p, none⟩)) (hy : a.eval y = .slice c0a c0n c0c) (hB : Blk w g ty cs) (hp : p + 0 < cs.size) (hK : ∀ v, K (a.put o.dst v) (w.setCell ⟨g, p, none⟩ (.slice c0a c0n c0c))) : o.wp Try.prog a w K Q := by
  have h0 := (hB.cell (p)).trans (Array.getElem?_eq_getElem (by first | omega | (simp; omega)))
  have f0 := hB.frozen (p)
  clear hB
  unfold Oper.wp execOp
  simp only [ho, hx, hy]
  go_simp
  exact hK _
theorem box_57 {w : World} {a : Act} {K : Act → World → Prop} {Q : Exit → Act → World → Prop} {o : Oper} {x : Operand} {c0 c1 : Value} (ho : o.op = .box 57 x) (hx : a.eval x = .agg #[c0, c1]) (hK : K (a.put o.dst (.pointer (some ⟨w.heap.size, 0, none⟩))) (w.alloc (.cells #[c0, c1] 57))) : o.wp Try.prog a w K Q := by
  unfold Oper.wp execOp
  simp only [ho, hx]
  go_simp
  exact hK
theorem row_49_1 {w : World} {a : Act} {K : Act → World → Prop} {Q : Exit → Act → World → Prop} {o : Oper} {x0 : Operand} {c0 c1 : Value} (ho : o.op = .buildSlice 49 1 #[(0, x0)]) (h0 : a.eval x0 = .agg #[c0, c1]) (hK : K (a.put o.dst (.slice (some ⟨w.heap.size, 0, none⟩) 1 1)) (w.alloc (.cells #[c0, c1] 57))) : o.wp Try.prog a w K Q := by
  unfold Oper.wp execOp
  simp only [ho, List.map_toArray, List.map_cons, List.map_nil, h0]
  go_simp
  exact hK
theorem st_49 {w : World} {a : Act} {K : Act → World → Prop} {Q : Exit → Act → World → Prop} {o : Oper} {x y : Operand} {g p : Nat} {ty : TypeId} {cs : Array Value} {c0a : Option Addr} {c0n c0c : Nat} (ho : o.op = .store 49 x y) (hx : a.eval x = .pointer (some ⟨g, p, none⟩)) (hy : a.eval y = .slice c0a c0n c0c) (hB : Blk w g ty cs) (hp : p + 0 < cs.size) (hK : ∀ v, K (a.put o.dst v) (w.setCell ⟨g, p, none⟩ (.slice c0a c0n c0c))) : o.wp Try.prog a w K Q := by
  have h0 := (hB.cell (p)).trans (Array.getElem?_eq_getElem (by first | omega | (simp; omega)))
  have f0 := hB.frozen (p)
  clear hB
  unfold Oper.wp execOp
  simp only [ho, hx, hy]
  go_simp
  exact hK _
theorem build_32_0_1 {w : World} {a : Act} {K : Act → World → Prop} {Q : Exit → Act → World → Prop} {o : Oper} {x0 x1 : Operand} {c0 : Int} {c1a : Option Addr} {c1n c1c : Nat} (ho : o.op = .build 32 #[(0, x0), (1, x1)]) (h0 : a.eval x0 = .int .i64 c0) (h1 : a.eval x1 = .slice c1a c1n c1c) (hK : K (a.put o.dst (.agg #[.int .i64 c0, .slice c1a c1n c1c])) w) : o.wp Try.prog a w K Q := by
  unfold Oper.wp execOp
  simp only [ho, List.map_toArray, List.map_cons, List.map_nil, h0, h1]
  go_simp
  exact hK
theorem row_30_2 {w : World} {a : Act} {K : Act → World → Prop} {Q : Exit → Act → World → Prop} {o : Oper} {x0 x1 : Operand} {c0 c1 : Value} {c2 c3 : Value} (ho : o.op = .buildSlice 30 2 #[(0, x0), (1, x1)]) (h0 : a.eval x0 = .agg #[c0, c1]) (h1 : a.eval x1 = .agg #[c2, c3]) (hK : K (a.put o.dst (.slice (some ⟨w.heap.size, 0, none⟩) 2 2)) (w.alloc (.cells #[c0, c1, c2, c3] 32))) : o.wp Try.prog a w K Q := by
  unfold Oper.wp execOp
  simp only [ho, List.map_toArray, List.map_cons, List.map_nil, h0, h1]
  go_simp
  exact hK
theorem len_24 {w : World} {a : Act} {K : Act → World → Prop} {Q : Exit → Act → World → Prop} {o : Oper} {x : Operand} {r : Option Addr} {n c : Nat} (ho : o.op = .call { callee := .builtin .len, args := #[x], argTypes := #[24] }) (hx : a.eval x = .slice r n c) (hK : K (a.put o.dst (.int .i64 n)) w) : o.wp Try.prog a w K Q := by
  unfold Oper.wp execOp
  simp only [ho, resolve, List.map_toArray, List.map_cons, List.map_nil, hx]
  go_simp
  exact hK
theorem ix_24 {w : World} {a : Act} {K : Act → World → Prop} {Q : Exit → Act → World → Prop} {o : Oper} {x y : Operand} {r : Option Addr} {b p n c k : Nat} (ho : o.op = .indexAddr 24 x y) (hx : a.eval x = .slice r n c) (hr : r = some ⟨b, p, none⟩) (hy : a.eval y = .int .i64 (k : Int)) (hk : k < n) (hK : K (a.put o.dst (.pointer (some ⟨b, p + k * 3, none⟩))) w) : o.wp Try.prog a w K Q := by
  subst hr
  have h0 : (0 : Int) ≤ (k : Int) := by omega
  have h1 : (k : Int) < (n : Int) := by omega
  unfold Oper.wp execOp
  simp only [ho, hx, hy]
  go_simp
  exact hK
theorem fld_41_1 {w : World} {a : Act} {K : Act → World → Prop} {Q : Exit → Act → World → Prop} {o : Oper} {x : Operand} {b p : Nat} (ho : o.op = .fieldAddr 41 x 1) (hx : a.eval x = .pointer (some ⟨b, p, none⟩)) (hK : K (a.put o.dst (.pointer (some ⟨b, p + 1, none⟩))) w) : o.wp Try.prog a w K Q := by
  unfold Oper.wp execOp
  simp only [ho, hx]
  go_simp
  exact hK
theorem fld_41_0 {w : World} {a : Act} {K : Act → World → Prop} {Q : Exit → Act → World → Prop} {o : Oper} {x : Operand} {b p : Nat} (ho : o.op = .fieldAddr 41 x 0) (hx : a.eval x = .pointer (some ⟨b, p, none⟩)) (hK : K (a.put o.dst (.pointer (some ⟨b, p, none⟩))) w) : o.wp Try.prog a w K Q := by
  unfold Oper.wp execOp
  simp only [ho, hx]
  go_simp
  exact hK
theorem box_3 {w : World} {a : Act} {K : Act → World → Prop} {Q : Exit → Act → World → Prop} {o : Oper} {x : Operand} {c0 : Int} (ho : o.op = .box 3 x) (hx : a.eval x = .int .i64 c0) (hK : K (a.put o.dst (.pointer (some ⟨w.heap.size, 0, none⟩))) (w.alloc (.cells #[.int .i64 c0] 3))) : o.wp Try.prog a w K Q := by
  unfold Oper.wp execOp
  simp only [ho, hx]
  go_simp
  exact hK
theorem alloc_3 {w : World} {a : Act} {K : Act → World → Prop} {Q : Exit → Act → World → Prop} {o : Oper} (ho : o.op = .alloc 3) (hK : K (a.put o.dst (.pointer (some ⟨w.heap.size, 0, none⟩))) (w.alloc (.cells #[.int .i64 0] 3))) : o.wp Try.prog a w K Q := by
  unfold Oper.wp execOp
  simp only [ho]
  go_simp
  exact hK
theorem alloc_93 {w : World} {a : Act} {K : Act → World → Prop} {Q : Exit → Act → World → Prop} {o : Oper} (ho : o.op = .alloc 93) (hK : K (a.put o.dst (.pointer (some ⟨w.heap.size, 0, none⟩))) (w.alloc (.cells #[.nilFunc] 93))) : o.wp Try.prog a w K Q := by
  unfold Oper.wp execOp
  simp only [ho]
  go_simp
  exact hK
theorem st_93 {w : World} {a : Act} {K : Act → World → Prop} {Q : Exit → Act → World → Prop} {o : Oper} {x y : Operand} {g p : Nat} {ty : TypeId} {cs : Array Value} {c0f : Fn} {c0x c0y : Array Value} (ho : o.op = .store 93 x y) (hx : a.eval x = .pointer (some ⟨g, p, none⟩)) (hy : a.eval y = .func c0f c0x c0y) (hB : Blk w g ty cs) (hp : p + 0 < cs.size) (hK : ∀ v, K (a.put o.dst v) (w.setCell ⟨g, p, none⟩ (.func c0f c0x c0y))) : o.wp Try.prog a w K Q := by
  have h0 := (hB.cell (p)).trans (Array.getElem?_eq_getElem (by first | omega | (simp; omega)))
  have f0 := hB.frozen (p)
  have s0 := fun w a m => run_store Try.prog w a (.func c0f c0x c0y) m rfl
  clear hB
  unfold Oper.wp execOp
  simp only [ho, hx, hy]
  go_simp
  exact hK _
theorem ld_93 {w : World} {a : Act} {K : Act → World → Prop} {Q : Exit → Act → World → Prop} {o : Oper} {x : Operand} {p : Addr} {v : Value} (ho : o.op = .load 93 x) (hx : a.eval x = .pointer (some p)) (hc : w.cell? p = some v) (hK : K (a.put o.dst (v)) w) : o.wp Try.prog a w K Q := by
  unfold Oper.wp execOp
  simp only [ho, hx]
  go_simp
  exact hK
theorem negb_3 {w : World} {a : Act} {K : Act → World → Prop} {Q : Exit → Act → World → Prop} {o : Oper} {x : Operand} {m r : Int} (ho : o.op = .unOp .neg 3 x) (hx : a.eval x = .int .i64 m) (hr : IntKind.i64.wrap (-m) = r) (hK : K (a.put o.dst (.int .i64 r)) w) : o.wp Try.prog a w K Q := by
  subst hr
  unfold Oper.wp execOp
  simp only [ho, hx]
  go_simp
  exact hK
theorem leq_3 {w : World} {a : Act} {K : Act → World → Prop} {Q : Exit → Act → World → Prop} {o : Oper} {x y : Operand} {m n : Int} (ho : o.op = .binOp .leq 3 x y 3) (hx : a.eval x = .int .i64 m) (hy : a.eval y = .int .i64 n) (hK : K (a.put o.dst (.bool (decide (m ≤ n)))) w) : o.wp Try.prog a w K Q := by
  unfold Oper.wp execOp
  simp only [ho, hx, hy]
  go_simp
  exact hK
end Go.Proofs.Ythhgidliopohcaa

/- Regions in whatever order in which a row grows by append and is then given to a variable ('l = append(l, f(..))'). -/
namespace Go.Proofs.Ythhgidliopohcaa
open Go.RowKit Go
set_option linter.unusedVariables false
set_option linter.unusedSimpArgs false
section
variable {P : Program} {ops : Array Oper}
structure CtxH (ops : Array Oper) (chain : List Nat) (R : Nat → Value → World → Prop) (G : List (Option Value) → World → Prop) (n : Fr) (K Ke : Known) (i : Nat) (o : Oper) (a : Act) (w : World) (vs : List (Option Value)) : Prop where
  now : G vs w
  kn : Kn n K a
  dep : ∀ j d, depB ops o j d = true → chain.contains j = false → R j (a.tmps.getD d undef) w
  len : vs.length = chain.length
  link : ∀ (p c d : Nat), chain[p]? = some c → depB ops o c d = true → vs[p]? = some (some (a.tmps.getD d undef))
  done : ∀ (p c : Nat), chain[p]? = some c → o.after.any (fun e => e.on == c && Region.binds .any e) = true → ∃ v, vs[p]? = some (some v)
  most : ∀ (p c : Nat), chain[p]? = some c → afterB ops c i = true → vs[p]? = some none
  mostT : ∀ (p c : Nat), chain[p]? = some c → (ancL ops c).contains i = true → vs[p]? = some none
  old : ∀ d v, look Ke d = some v → (∀ c, (ops[c]?).bind (·.dst) = some d → (ancL ops c).contains i = true) → a.tmps.getD d undef = v
def SoundH (P : Program) (ops : Array Oper) (Q : Exit → Act → World → Prop) (chain : List Nat) (R : Nat → Value → World → Prop) (Le : World → World → Prop) (G : List (Option Value) → World → Prop) (n : Fr) (K Ke : Known) (i : Nat) (o : Oper) : Prop :=
  (chain.contains i = false ∧ ∃ β, GuardIs R o β ∧ (∀ g b, o.guard = some (g, b) → chain.contains g = false) ∧ (β = false → ∀ w, R i undef w) ∧
    (β = true → ∀ (a : Act) (w : World) (vs : List (Option Value)), CtxH ops chain R G n K Ke i o a w vs →
      o.wpIn (fen n.r) 0 P a w (fun a' w' => ∃ v, a' = Act.put a o.dst v ∧ Le w w' ∧ G vs w' ∧ R i v w') Q)) ∨
  (∃ p, chain[p]? = some i ∧ o.guard = none ∧ ∀ (a : Act) (w : World) (vs : List (Option Value)), CtxH ops chain R G n K Ke i o a w vs → vs[p]? = some none →
      o.wpIn (fen n.r) 0 P a w (fun a' w' => ∃ v, a' = Act.put a o.dst v ∧ Le w w' ∧ G (vs.set p (some v)) w') Q)
def SoundFromH (P : Program) (ops : Array Oper) (Q : Exit → Act → World → Prop) (chain : List Nat) (R : Nat → Value → World → Prop) (Le : World → World → Prop) (G : List (Option Value) → World → Prop) (n : Fr) (K Ke : Known) : Nat → List Oper → Prop
  | _, [] => True
  | k, o :: r => SoundH P ops Q chain R Le G n K Ke k o ∧ SoundFromH P ops Q chain R Le G n K Ke (k + 1) r
theorem SoundFromH.at_ {Q : Exit → Act → World → Prop} {chain : List Nat} {R : Nat → Value → World → Prop} {Le : World → World → Prop} {G : List (Option Value) → World → Prop} {n : Fr} {K Ke : Known} : ∀ {l : List Oper} {k : Nat}, SoundFromH P ops Q chain R Le G n K Ke k l → ∀ i o, l[i]? = some o → SoundH P ops Q chain R Le G n K Ke (k + i) o
  | [], _, _, i, o, h => by simp at h
  | x :: r, k, h, 0, o, ho => by simp at ho; subst ho; exact h.1
  | x :: r, k, h, i + 1, o, ho => by
    have := h.2.at_ i o (by simpa using ho)
    rwa [show k + 1 + i = k + (i + 1) by omega] at this
structure AtH (ops : Array Oper) (chain : List Nat) (R : Nat → Value → World → Prop) (G : List (Option Value) → World → Prop) (n : Fr) (K Ke : Known) (listed : Array Bool) (a : Act) (vs : List (Option Value)) (w : World) : Prop where
  size : listed.size = ops.size
  kn : Kn n K a
  plain : ∀ i d, chain.contains i = false → listed.getD i false = true → (ops[i]?).bind (·.dst) = some d → R i (a.tmps.getD d undef) w
  link : ∀ p c : Nat, chain[p]? = some c → (listed.getD c false = true ↔ ∃ v, vs[p]? = some (some v))
  vals : ∀ (p c d : Nat), chain[p]? = some c → listed.getD c false = true → (ops[c]?).bind (·.dst) = some d → vs[p]? = some (some (a.tmps.getD d undef))
  len : vs.length = chain.length
  closed : ∀ i o, ops[i]? = some o → listed.getD i false = true → ∀ e ∈ o.after, Region.binds .any e = true → listed.getD e.on false = true
  now : G vs w
  old : ∀ d v, look Ke d = some v → (∀ c, (ops[c]?).bind (·.dst) = some d → listed.getD c false = false) → a.tmps.getD d undef = v
end
section
variable {P : Program} {ops : Array Oper} {S : Nat → Prop}
/-- That slot 'd' is not written yet. -/
def earlyB (ops : Array Oper) (i d : Nat) : Bool := (List.range ops.size).all fun c => !((ops[c]?).bind (·.dst) == some d) || (ancL ops c).contains i
theorem earlyB_of {ops : Array Oper} {i d : Nat} (h : earlyB ops i d = true) : ∀ c, (ops[c]?).bind (·.dst) = some d → (ancL ops c).contains i = true := fun c hc => by
  have hlt : c < ops.size := by
    rcases Nat.lt_or_ge c ops.size with h | h
    · exact h
    · simp [Array.getElem?_eq_none h] at hc
  have := List.all_eq_true.1 h c (List.mem_range.2 hlt)
  simpa [hc] using this
structure CtxA3 (ops : Array Oper) (l : List (Bool × SpS S)) (chain : List Nat) (first : Nat) (n : Fr) (K Ke : Known) (w0 : World) (i : Nat) (o : Oper) (a : Act) (w : World) : Prop extends CtxA ops l chain first n K w0 i o a w where
  old : ∀ d v, look Ke d = some v → earlyB ops i d = true → a.tmps.getD d undef = v
def Tail3 (P : Program) (ops : Array Oper) (Q : Exit → Act → World → Prop) (l : List (Bool × SpS S)) (n : Fr) (K Ke : Known) (w0 : World) (p q N : Nat) (GA : Option Addr → Nat → World → Prop) : Nat → List Oper → Prop
  | _, [] => True
  | i, o :: r => (([p, q].contains i = false ∧ ∃ β, GuardIs (optS l) o β ∧ (∀ g b, o.guard = some (g, b) → [p, q].contains g = false) ∧ (β = false → ∀ w, optS l i undef w) ∧
      (β = true → ∀ a w, CtxA3 ops l [p, q] p n K Ke w0 i o a w → o.wp P a w (fun a' w' => ∃ v, a' = Act.put a o.dst v ∧ Below w.heap.size w w' ∧ optS l i v w') Q)) ∨
    (i = p ∧ o.guard = none ∧ ∀ a w, CtxB ops l [p, q] n K w0 o a w → o.wp P a w (fun a' w' => ∃ ra rc, a' = Act.put a o.dst (.slice ra N rc) ∧ GA ra rc w' ∧ Chg S w w') Q) ∨
    (i = q ∧ o.guard = none ∧ ∃ d, depB ops o p d = true ∧ o.op = .assign (.tmp d))) ∧ Tail3 P ops Q l n K Ke w0 p q N GA (i + 1) r
def G3 (S : Nat → Prop) (w0 : World) (N : Nat) (GA : Option Addr → Nat → World → Prop) : List (Option Value) → World → Prop
  | [none, none], w => Below w0.heap.size w0 w
  | [some v, none], w => ∃ ra rc, v = .slice ra N rc ∧ GA ra rc w ∧ Chg S w0 w
  | [some v, some u], w => ∃ ra rc, v = .slice ra N rc ∧ u = .slice ra N rc ∧ GA ra rc w ∧ Chg S w0 w
  | _, _ => False
theorem G3.chg {w0 w : World} {N : Nat} {GA : Option Addr → Nat → World → Prop} : ∀ {vs : List (Option Value)}, G3 S w0 N GA vs w → Chg S w0 w
  | [none, none], h => .ofBelow h
  | [some _, none], h => by obtain ⟨_, _, _, _, h⟩ := h; exact h
  | [some _, some _], h => by obtain ⟨_, _, _, _, _, h⟩ := h; exact h
  | [none, some _], h => h.elim
  | [], h => h.elim
  | [x], h => by cases x <;> exact h.elim
  | _ :: _ :: _ :: _, h => by simp [G3] at h
theorem Tail3.gen {Q : Exit → Act → World → Prop} {l : List (Bool × SpS S)} {n : Fr} {K Ke : Known} {w0 : World} {p q N : Nat} {GA : Option Addr → Nat → World → Prop} (hpq : p ≠ q) (hGA : ∀ ra rc w w', Below w.heap.size w w' → GA ra rc w → GA ra rc w') : ∀ {lo : List Oper} {i : Nat}, Tail3 P ops Q l n K Ke w0 p q N GA i lo →
    SoundFromH P ops Q [p, q] (optS l) (Chg S) (G3 S w0 N GA) n K Ke i lo
  | [], _, _ => trivial
  | o :: r, i, ⟨h, hr⟩ => by
    refine ⟨?_, hr.gen hpq hGA⟩
    rcases h with ⟨hi, β, h1, h2, h3, h4⟩ | ⟨rfl, hg, h4⟩ | ⟨rfl, hg, d, hd, ho⟩
    · refine .inl ⟨hi, β, h1, h2, h3, fun hβ a w vs C => ?_⟩
      refine Oper.wpIn_mono ?_ (wpIn_of (h4 hβ a w ⟨⟨C.now.chg, C.kn, C.dep, fun he => ?_⟩, fun d v hd hb => C.old d v hd (earlyB_of hb)⟩) (by rintro a' w' ⟨v, rfl, _⟩; exact put_defers _ _ _))
      · rintro a' w' ⟨v, rfl, hb, hR⟩
        refine ⟨v, rfl, .ofBelow hb, ?_, hR⟩
        match vs, C.len, C.now with
        | [none, none], _, h => exact bstep h hb
        | [some _, none], _, ⟨ra, rc, e, h, hc⟩ => exact ⟨ra, rc, e, hGA _ _ _ _ hb h, hc.trans (.ofBelow hb)⟩
        | [some _, some _], _, ⟨ra, rc, e, e2, h, hc⟩ => exact ⟨ra, rc, e, e2, hGA _ _ _ _ hb h, hc.trans (.ofBelow hb)⟩
        | [none, some _], _, h => exact h.elim
      · have := C.mostT 0 p rfl he
        match vs, C.len, C.now, this with
        | [none, none], _, h, _ => exact h
        | [none, some _], _, h, _ => exact h.elim
    · refine .inr ⟨0, rfl, hg, fun a w vs C hn => ?_⟩
      match vs, C.len, C.now, hn, C with
      | [none, none], _, h, _, C =>
        refine Oper.wpIn_mono ?_ (wpIn_of (h4 a w ⟨h, C.kn, C.dep⟩) (by rintro a' w' ⟨_, _, rfl, _⟩; exact put_defers _ _ _))
        rintro a' w' ⟨ra, rc, rfl, hG, hc⟩
        exact ⟨_, rfl, hc, ra, rc, rfl, hG, (Chg.ofBelow h).trans hc⟩
      | [none, some _], _, h, _, _ => exact h.elim
    · refine .inr ⟨1, rfl, hg, fun a w vs C hn => ?_⟩
      have hl := C.link 0 p d rfl hd
      match vs, C.len, C.now, hn, hl, C with
      | [some v, none], _, ⟨ra, rc, e, h, hc⟩, _, hl, C =>
        have hv : v = a.tmps.getD d undef := by simpa using hl
        refine Oper.wpIn_mono ?_ (wpIn_of (K := fun a' w' => a' = Act.put a o.dst (.slice ra N rc) ∧ w' = w) (wp_assign ho (show a.tmps.getD d undef = .slice ra N rc from (hv ▸ e)) ⟨rfl, rfl⟩) (by rintro a' w' ⟨rfl, _⟩; exact put_defers _ _ _))
        rintro a' w' ⟨rfl, rfl⟩
        exact ⟨_, rfl, .refl _ _, ra, rc, e, rfl, h, hc⟩
end
end Go.Proofs.Ythhgidliopohcaa

/- Regions in whatever order, in which operations that change the memory may be guarded: one behind the other, each with what it yields. -/
namespace Go.Proofs.Ythhgidliopohcaa
open Go.RowKit Go
set_option linter.unusedVariables false
set_option linter.unusedSimpArgs false
section
variable {P : Program} {ops : Array Oper}
structure CtxQ (ops : Array Oper) (chain : List Nat) (R : Nat → Value → World → Prop) (G : List (Option Value) → World → Prop) (n : Fr) (K Ke : Known) (i : Nat) (o : Oper) (a : Act) (w : World) (vs : List (Option Value)) : Prop extends CtxH ops chain R G n K Ke i o a w vs where
 anc : ∀ (p c : Nat), chain[p]? = some c → o.after.any (fun e => Region.binds .any e && (ancL ops e.on).contains c) = true → ∃ v, vs[p]? = some (some v)
def SoundQ (P : Program) (ops : Array Oper) (Q : Exit → Act → World → Prop) (chain : List Nat) (R : Nat → Value → World → Prop) (Le : World → World → Prop) (G : List (Option Value) → World → Prop) (n : Fr) (K Ke : Known) (i : Nat) (o : Oper) : Prop :=
 (chain.contains i = false ∧ ∃ β, GuardIs R o β ∧ (∀ g b, o.guard = some (g, b) → chain.contains g = false) ∧ (β = false → ∀ w, R i undef w) ∧
  (β = true → ∀ (a : Act) (w : World) (vs : List (Option Value)), CtxQ ops chain R G n K Ke i o a w vs →
   o.wpIn (fen n.r) 0 P a w (fun a' w' => ∃ v, a' = Act.put a o.dst v ∧ Le w w' ∧ G vs w' ∧ R i v w') Q)) ∨
 (∃ p, chain[p]? = some i ∧ ∃ β, GuardIs R o β ∧ (∀ g b, o.guard = some (g, b) → chain.contains g = false) ∧
  (β = false → ∀ (a : Act) (w : World) (vs : List (Option Value)), CtxQ ops chain R G n K Ke i o a w vs → vs[p]? = some none → G (vs.set p (some undef)) w) ∧
  (β = true → ∀ (a : Act) (w : World) (vs : List (Option Value)), CtxQ ops chain R G n K Ke i o a w vs → vs[p]? = some none →
   o.wpIn (fen n.r) 0 P a w (fun a' w' => ∃ v, a' = Act.put a o.dst v ∧ Le w w' ∧ G (vs.set p (some v)) w') Q))
def SoundFromQ (P : Program) (ops : Array Oper) (Q : Exit → Act → World → Prop) (chain : List Nat) (R : Nat → Value → World → Prop) (Le : World → World → Prop) (G : List (Option Value) → World → Prop) (n : Fr) (K Ke : Known) : Nat → List Oper → Prop
 | _, [] => True
 | k, o :: r => SoundQ P ops Q chain R Le G n K Ke k o ∧ SoundFromQ P ops Q chain R Le G n K Ke (k + 1) r
theorem SoundFromQ.at_ {Q : Exit → Act → World → Prop} {chain : List Nat} {R : Nat → Value → World → Prop} {Le : World → World → Prop} {G : List (Option Value) → World → Prop} {n : Fr} {K Ke : Known} : ∀ {l : List Oper} {k : Nat}, SoundFromQ P ops Q chain R Le G n K Ke k l → ∀ i o, l[i]? = some o → SoundQ P ops Q chain R Le G n K Ke (k + i) o
 | [], _, _, i, o, h => by simp at h
 | x :: r, k, h, 0, o, ho => by simp at ho; subst ho; exact h.1
 | x :: r, k, h, i + 1, o, ho => by
  have := h.2.at_ i o (by simpa using ho)
  rwa [show k + 1 + i = k + (i + 1) by omega] at this
theorem wp_any_genQ {Q : Exit → Act → World → Prop} {n : Fr} {K Ke : Known} (chain : List Nat) (R : Nat → Value → World → Prop) (Le : World → World → Prop) (G : List (Option Value) → World → Prop)
  (hB : opsB ops n.n = true) (hnd : chain.Nodup) (hin : (chain.all fun c => Nat.blt c ops.size) = true) (hclear : clearB ops K = true)
  (hR : ∀ i v w w', R i v w → Le w w' → R i v w')
  (h : SoundFromQ P ops Q chain R Le G n K Ke 0 ops.toList)
  (hQ : ∀ (a : Act) (w : World) (vs : List (Option Value)), Kn n K a → vs.length = chain.length → (∀ p, p < chain.length → ∃ v, vs[p]? = some (some v)) → G vs w → (∀ i d, (ops[i]?).bind (·.dst) = some d → chain.contains i = false → R i (a.tmps.getD d undef) w) → (∀ (p c d : Nat), chain[p]? = some c → (ops[c]?).bind (·.dst) = some d → vs[p]? = some (some (a.tmps.getD d undef))) → Q .normal a w) :
  ∀ (a0 : Act) (w0 : World), Kn n K a0 → Kn n Ke a0 → G (List.replicate chain.length none) w0 → wpAnyIn (fen n.r) 0 P .any ops Q ops.size (Array.replicate ops.size false) a0 w0 := by
 have main : ∀ (fuel : Nat) (listed : Array Bool) (a : Act) (vs : List (Option Value)) (w : World), listed.toList.count false ≤ fuel → AtH ops chain R G n K Ke listed a vs w →
   wpAnyIn (fen n.r) 0 P .any ops Q fuel listed a w := by
  intro fuel
  have done : ∀ (listed : Array Bool) (a : Act) (vs : List (Option Value)) (w : World), Region.ready .any ops listed = [] → AtH ops chain R G n K Ke listed a vs w → Q .normal a w := by
   intro listed a vs w hr H
   have all : ∀ i, i < ops.size → listed.getD i false = true := fun i hi => by
    have := ready_nil hB H.size hr i hi
    have hs := H.size
    simpa [Array.getD, show i < listed.size by omega] using this
   have hin' : ∀ p c, chain[p]? = some c → c < ops.size := fun p c hc => by
    have := List.all_eq_true.1 hin _ (List.mem_of_getElem? hc)
    simpa [Nat.blt_eq] using this
   have lt_of : ∀ i d, (ops[i]?).bind (·.dst) = some d → i < ops.size := fun i d hd => by
    rcases Nat.lt_or_ge i ops.size with h | h
    ·exact h
    ·simp [Array.getElem?_eq_none h] at hd
   exact hQ a w vs H.kn H.len (fun p hp => (H.link p chain[p] (by simp [hp])).1 (all _ (hin' p _ (by simp [hp])))) H.now (fun i d hd hc => H.plain i d hc (all i (lt_of i d hd)) hd) (fun p c d hc hd => H.vals p c d hc (all c (hin' p c hc)) hd)
  induction fuel with
  | zero =>
   intro listed a vs w hc H
   have hr : Region.ready .any ops listed = [] := by
    cases hr : Region.ready .any ops listed with
    | nil => rfl
    | cons i r =>
     have := (mem_ready (md := .any) (ops := ops) (j := i) (listed := listed)).1 (by rw [hr]; simp)
     rw [count_zero hc i] at this
     simp at this
   exact ⟨hr, done listed a vs w hr H⟩
  | succ fuel ih =>
   intro listed a vs w hc H
   refine ⟨fun hr => done listed a vs w hr H, fun i hi => ?_⟩
   obtain ⟨hun, o, ho, haf⟩ := mem_ready.1 hi
   have hilt : i < ops.size := by
    rcases Nat.lt_or_ge i ops.size with h | h
    ·exact h
    ·simp [Array.getElem?_eq_none h] at ho
   have hils : i < listed.size := by have := H.size; omega
   have hun' := getD_false_of hun
   have ok := opsB_spec hB ho
   have hs2 := h.at_ i o (by simpa using ho)
   rw [Nat.zero_add] at hs2
   have after_of : ∀ j d, depB ops o j d = true → listed.getD j false = true ∧ (ops[j]?).bind (·.dst) = some d := by
    intro j d hj
    simp only [depB, Bool.and_eq_true, Array.any_eq_true, beq_iff_eq] at hj
    obtain ⟨⟨k, hk, h1, h2⟩, h3⟩ := hj
    exact ⟨h1 ▸ haf _ (Array.getElem_mem hk) h2, h3⟩
   have ctx : CtxH ops chain R G n K Ke i o a w vs := by
    have opt : ∀ p c, chain[p]? = some c → listed.getD c false = false → vs[p]? = some none := fun p c hc hl => by
     have hp : p < vs.length := by rw [H.len]; exact (List.getElem?_eq_some_iff.1 hc).1
     rw [List.getElem?_eq_getElem hp]
     cases hx : vs[p] with
     | none => rfl
     | some v =>
      have := (H.link p c hc).2 ⟨v, by rw [List.getElem?_eq_getElem hp, hx]⟩
      rw [hl] at this; cases this
    refine ⟨H.now, H.kn, fun j d hj hc => H.plain j d hc (after_of j d hj).1 (after_of j d hj).2, H.len, fun p c d hc hj => H.vals p c d hc (after_of c d hj).1 (after_of c d hj).2, fun p c hc ha => ?_, fun p c hc ha => opt p c hc ?_, fun p c hc ha => opt p c hc ?_, fun d v hd hc => H.old d v hd fun c hcd => ?_⟩
    ·simp only [Array.any_eq_true, Bool.and_eq_true, beq_iff_eq] at ha
     obtain ⟨k, hk, h1, h2⟩ := ha
     exact (H.link p c hc).1 (h1 ▸ haf _ (Array.getElem_mem hk) h2)
    ·cases hl : listed.getD c false with
     | false => rfl
     | true =>
      exfalso
      unfold afterB at ha
      split at ha
      ·rename_i oc hoc
       simp only [Array.any_eq_true, Bool.and_eq_true, beq_iff_eq] at ha
       obtain ⟨k, hk, h1, h2⟩ := ha
       have := H.closed c oc hoc hl _ (Array.getElem_mem hk) h2
       rw [h1, hun'] at this
       cases this
      ·cases ha
    ·cases hl : listed.getD c false with
     | false => rfl
     | true =>
      exfalso
      have := anc_listed H.closed hl i (by simpa using ha)
      rw [hun'] at this
      cases this
    ·cases hl : listed.getD c false with
     | false => rfl
     | true =>
      exfalso
      have := anc_listed H.closed hl i (by simpa using hc c hcd)
      rw [hun'] at this
      cases this
   have ctxQ : CtxQ ops chain R G n K Ke i o a w vs := ⟨ctx, fun p c hc ha => by
    simp only [Array.any_eq_true, Bool.and_eq_true] at ha
    obtain ⟨k, hk, h1, h2⟩ := ha
    exact (H.link p c hc).1 (anc_listed H.closed (haf _ (Array.getElem_mem hk) h1) c (by simpa using h2))⟩
   unfold wpOpIn
   simp only [ho]
   -- what is behind a step
   have step : ∀ (v : Value) (vs' : List (Option Value)) (w' : World), (∀ j u, R j u w → R j u w') → G vs' w' → (∀ d, o.dst = some d → chain.contains i = false → R i v w') →
     ((chain.contains i = false ∧ vs' = vs) ∨ (∃ p, chain[p]? = some i ∧ vs' = vs.set p (some v))) →
     wpAnyIn (fen n.r) 0 P .any ops Q fuel (listed.setIfInBounds i true) (Act.put a o.dst v) w' := by
    intro v vs' w' hle hG hRi hvs
    have hc' := count_set (l := listed) hils hun hc
    have hset : ∀ j, (listed.setIfInBounds i true).getD j false = true ↔ j = i ∨ listed.getD j false = true := by
     intro j
     by_cases hj : j = i
     ·subst hj; simp [getD_set_eq hils]
     ·rw [getD_set_ne false (Ne.symm hj)]; simp [hj]
    have hother : ∀ j k, j ≠ i → (ops[j]?).bind (·.dst) = some k → (Act.put a o.dst v).tmps.getD k undef = a.tmps.getD k undef := by
     intro j k hji hjk
     refine act_put_other (fun hd => ?_)
     have hjlt : j < ops.size := by
      rcases Nat.lt_or_ge j ops.size with h | h
      ·exact h
      ·simp [Array.getElem?_eq_none h] at hjk
     exact hji (ok.own k j hd hjlt hjk).symm
    have hself : ∀ d, (ops[i]?).bind (·.dst) = some d → (Act.put a o.dst v).tmps.getD d undef = v := by
     intro d hd
     rw [ho] at hd
     simp only [Option.bind_some] at hd
     rw [hd]
     exact act_put_self (by rw [H.kn.size]; exact ok.lt d hd)
    refine ih _ _ vs' w' hc' ⟨by simpa using H.size, H.kn.put_clear (fun k hk => clearB_look hclear (mem_dsts ho hk)) v, fun j d hjc hj hjd => ?_, fun p c hpc => ?_, fun p c d hpc hp hcd => ?_, ?_, fun j oj hoj hj e he hb => ?_, hG, fun d u hd hc => ?_⟩
    ·by_cases hji : j = i
     ·subst hji
      rw [hself d hjd]
      rw [ho] at hjd
      exact hRi d hjd hjc
     ·rw [hother j d hji hjd]
      exact hle _ _ (H.plain j d hjc (((hset j).1 hj).resolve_left hji) hjd)
    ·rw [hset]
     rcases hvs with ⟨hci, rfl⟩ | ⟨q, hq, rfl⟩
     ·have : c ≠ i := by
       rintro rfl
       have := List.mem_of_getElem? hpc
       simp [this] at hci
      exact ⟨fun h => (H.link p c hpc).1 (h.resolve_left this), fun h => .inr ((H.link p c hpc).2 h)⟩
     ·have hpl : q < vs.length := by rw [H.len]; exact (List.getElem?_eq_some_iff.1 hq).1
      by_cases hpq : p = q
      ·subst hpq
       rw [hq] at hpc
       simp only [Option.some.injEq] at hpc
       subst hpc
       exact ⟨fun _ => ⟨v, by rw [List.getElem?_set_self hpl]⟩, fun _ => .inl rfl⟩
      ·have hci : c ≠ i := by
        rintro rfl
        exact hpq ((List.getElem?_inj (List.getElem?_eq_some_iff.1 hpc).1 hnd).1 (hpc.trans hq.symm))
       rw [List.getElem?_set_ne (Ne.symm hpq)]
       exact ⟨fun h => (H.link p c hpc).1 (h.resolve_left hci), fun h => .inr ((H.link p c hpc).2 h)⟩
    ·rcases hvs with ⟨hci, rfl⟩ | ⟨q, hq, rfl⟩
     ·have hne : c ≠ i := by
       rintro rfl
       have := List.mem_of_getElem? hpc
       simp [this] at hci
      rw [hother c d hne hcd]
      exact H.vals p c d hpc (((hset c).1 hp).resolve_left hne) hcd
     ·have hpl : q < vs.length := by rw [H.len]; exact (List.getElem?_eq_some_iff.1 hq).1
      by_cases hpq : p = q
      ·subst hpq
       rw [hq] at hpc
       simp only [Option.some.injEq] at hpc
       subst hpc
       rw [hself d hcd, List.getElem?_set_self hpl]
      ·have hne : c ≠ i := by
        rintro rfl
        exact hpq ((List.getElem?_inj (List.getElem?_eq_some_iff.1 hpc).1 hnd).1 (hpc.trans hq.symm))
       rw [hother c d hne hcd, List.getElem?_set_ne (Ne.symm hpq)]
       exact H.vals p c d hpc (((hset c).1 hp).resolve_left hne) hcd
    ·rcases hvs with ⟨hci, rfl⟩ | ⟨q, hq, rfl⟩
     ·exact H.len
     ·rw [List.length_set]; exact H.len
    ·rw [hset]
     by_cases hji : j = i
     ·subst hji
      rw [ho] at hoj
      simp only [Option.some.injEq] at hoj
      subst hoj
      exact .inr (haf e he hb)
     ·exact .inr (H.closed j oj hoj (((hset j).1 hj).resolve_left hji) e he hb)
    ·have hne : o.dst ≠ some d := fun e => by
      have := hc i (by rw [ho]; exact e)
      rw [(hset i).2 (.inl rfl)] at this
      cases this
     rw [act_put_other hne]
     refine H.old d u hd fun c hcd => ?_
     cases hl : listed.getD c false with
     | false => rfl
     | true => have := hc c hcd; rw [(hset c).2 (.inr hl)] at this; cases this
   have known : ∀ {β : Bool}, GuardIs R o β → (∀ g b, o.guard = some (g, b) → chain.contains g = false) → Region.wanted o (yielded ops a.tmps) = β := by
    intro β hg hgc
    have known : ∀ g c d b, o.guard = some (g, b) → (∀ v w, R g v w → (d = true → v = .bool c) ∧ (d = false → v = undef)) → yielded ops a.tmps g = if d then some c else none := by
     intro g c dd b hgb hv
     obtain ⟨⟨e, he, h1, h2⟩, d, hd⟩ := ok.guard g b hgb
     have hv := hv (a.tmps.getD d undef) w (H.plain g d (hgc g b hgb) (h1 ▸ haf e he h2) hd)
     have hdlt : d < a.tmps.size := by
      obtain ⟨og, hog, hgd⟩ := Option.bind_eq_some_iff.1 hd
      rw [H.kn.size]
      exact (opsB_spec hB hog).lt d hgd
     unfold yielded
     rw [hd]
     simp only [Array.getD_eq_getD_getElem?, Array.getElem?_eq_getElem hdlt, Option.getD_some] at hv
     cases dd with
     | true => simp [hdlt, hv.1 rfl]
     | false => simp [hdlt, hv.2 rfl, undef]
    cases hg with
    | none h => unfold Region.wanted; rw [h]
    | @yes g c d h hv => have := known _ _ _ _ h hv; unfold Region.wanted; rw [h]; simp only [this]; cases d <;> simp
    | @no g c d h hv => have := known _ _ _ _ h hv; unfold Region.wanted; rw [h]; simp only [this]; cases d <;> cases c <;> simp
   rcases hs2 with ⟨hci, β, hg, hgc, hs1, hs2⟩ | ⟨p, hp, β, hg, hgc, hs1, hs2⟩
   ·have hwant := known hg hgc
    cases hβ : β with
    | false =>
     rw [hβ] at hwant
     simp only [hwant, Bool.false_eq_true, if_false]
     refine ⟨fun f _ => fen_fn _ f, ?_⟩
     exact step undef vs w (fun _ _ h => h) H.now (fun _ _ _ => hs1 hβ w) (.inl ⟨hci, rfl⟩)
    | true =>
     rw [hβ] at hwant
     simp only [hwant, if_true]
     refine Oper.wpIn_mono ?_ (hs2 hβ a w vs ctxQ)
     rintro a' w' ⟨v, rfl, hle, hG, hRi⟩
     exact step v vs w' (fun j u hj => hR j u _ _ hj hle) hG (fun _ _ _ => hRi) (.inl ⟨hci, rfl⟩)
   ·have hwant := known hg hgc
    have hnone : vs[p]? = some none := by
     have hp' : p < vs.length := by rw [H.len]; exact (List.getElem?_eq_some_iff.1 hp).1
     rw [List.getElem?_eq_getElem hp']
     cases hx : vs[p] with
     | none => rfl
     | some v =>
      have := (H.link p i hp).2 ⟨v, by rw [List.getElem?_eq_getElem hp', hx]⟩
      rw [hun'] at this; cases this
    have hcc : chain.contains i = true := by
     have := List.mem_of_getElem? hp
     simpa using this
    cases hβ : β with
    | false =>
     rw [hβ] at hwant
     simp only [hwant, Bool.false_eq_true, if_false]
     refine ⟨fun f _ => fen_fn _ f, ?_⟩
     exact step undef (vs.set p (some undef)) w (fun _ _ h => h) (hs1 hβ a w vs ctxQ hnone) (fun _ _ h => by rw [hcc] at h; cases h) (.inr ⟨p, hp, rfl⟩)
    | true =>
     rw [hβ] at hwant
     simp only [hwant, if_true]
     refine Oper.wpIn_mono ?_ (hs2 hβ a w vs ctxQ hnone)
     rintro a' w' ⟨v, rfl, hle, hG⟩
     exact step v (vs.set p (some v)) w' (fun j u hj => hR j u _ _ hj hle) hG (fun _ _ h => by rw [hcc] at h; cases h) (.inr ⟨p, hp, rfl⟩)
 intro a0 w0 hk0 hke h0
 have nothing' : ∀ i, (Array.replicate ops.size false).getD i false = false := fun i => by
  by_cases h : i < ops.size <;> simp [Array.getD, h]
 refine main _ _ _ (List.replicate chain.length none) _ (by simp) ⟨by simp, hk0, fun i d _ hi => ?_, fun p c hpc => ?_, fun p c d _ hp => ?_, by simp, fun i o _ hi => ?_, h0, fun d v hd _ => hke.knows d v hd⟩
 ·rw [nothing'] at hi; cases hi
 ·rw [nothing']
  refine ⟨fun h => (by cases h), fun ⟨v, hv⟩ => ?_⟩
  have hp := (List.getElem?_eq_some_iff.1 hpc).1
  simp [hp] at hv
 ·rw [nothing'] at hp; cases hp
 ·rw [nothing'] at hi; cases hi
theorem WC.genQ {id : Nat} {dr : Bool} {Q : Exit → Act → World → Prop} {n : Fr} {K : Known} {w : World} (chain : List Nat) (R : Nat → Value → World → Prop) (Le : World → World → Prop) (G : List (Option Value) → World → Prop) (K0 : Known)
  (hs : subK K0 K) (hclear : clearB ops K0 = true) (hm : P.follows .mixedOrders = true) (hB : opsB ops n.n = true) (hnd : chain.Nodup) (hin : (chain.all fun c => Nat.blt c ops.size) = true)
  (hR : ∀ i v w w', R i v w → Le w w' → R i v w') (h0 : G (List.replicate chain.length none) (bif dr then w.drew else w))
  (h : SoundFromQ P ops Q chain R Le G n K0 K 0 ops.toList)
  (hQ : ∀ (a : Act) (w : World) (vs : List (Option Value)), Kn n K0 a → vs.length = chain.length → (∀ p, p < chain.length → ∃ v, vs[p]? = some (some v)) → G vs w → (∀ i d, (ops[i]?).bind (·.dst) = some d → chain.contains i = false → R i (a.tmps.getD d undef) w) → (∀ (p c d : Nat), chain[p]? = some c → (ops[c]?).bind (·.dst) = some d → vs[p]? = some (some (a.tmps.getD d undef))) → Q .normal a w) :
  WC P n K w (.region id ops dr) Q := by
 intro a ha
 have main := wp_any_genQ (Ke := K) chain R Le G hB hnd hin hclear hR h hQ a
 cases dr with
 | true => exact wpIn_region_any hm (main _ (ha.sub hs) ha h0)
 | false => exact any_start hB (main _ (ha.sub hs) ha h0)
/-! ### Values that are told -/
/-- Which of the operations of the chain are done, and what they have yielded. -/
def Vals (vals : List Value) (m : Nat) : List (Option Value) := vals.map some ++ List.replicate (m - vals.length) none
variable {S : Nat → Prop}
def GH (S : Nat → Prop) (w0 : World) (m : Nat) (cv : List (Option (Bool × Value))) (GV : List Value → World → Prop) (vs : List (Option Value)) (w : World) : Prop :=
 ∃ vals, vals.length ≤ m ∧ vs = Vals vals m ∧ GV vals w ∧ Chg S w0 w ∧ ∀ (q : Nat) b x, cv[q]? = some (some (b, x)) → b = true → ∀ v, vals[q]? = some v → v = x
theorem vals_some {vals : List Value} {m q : Nat} {v : Value} (h : (Vals vals m)[q]? = some (some v)) : vals[q]? = some v := by
 unfold Vals at h
 rcases Nat.lt_or_ge q vals.length with hq | hq
 ·rw [List.getElem?_append_left (by simpa using hq), List.getElem?_map, List.getElem?_eq_getElem hq] at h
  rw [List.getElem?_eq_getElem hq]; simpa using h
 ·rw [List.getElem?_append_right (by simpa using hq), List.getElem?_replicate] at h
  split at h
  ·cases h
  ·cases h
theorem vals_none {vals : List Value} {m q : Nat} (h : (Vals vals m)[q]? = some none) : vals.length ≤ q := by
 unfold Vals at h
 rcases Nat.lt_or_ge q vals.length with hq | hq
 ·rw [List.getElem?_append_left (by simpa using hq), List.getElem?_map, List.getElem?_eq_getElem hq] at h
  cases h
 ·exact hq
theorem vals_set {vals : List Value} {m : Nat} {v : Value} (h : vals.length < m) : (Vals vals m).set vals.length (some v) = Vals (vals ++ [v]) m := by
 unfold Vals
 rw [List.set_append_right _ _ (by simp), List.map_append, List.length_append, List.append_assoc]
 congr 1
 obtain ⟨k, hk⟩ : ∃ k, m - vals.length = k + 1 := ⟨m - vals.length - 1, by omega⟩
 rw [hk, List.replicate_succ, List.length_map, Nat.sub_self, List.set_cons_zero, show m - (vals.length + [v].length) = k by simp; omega]
 rfl
/-- What an operation finds: 'l' says what the others yield, 'cv' what those of the chain do; 'early': where it must come ahead of an operation of the chain. -/
structure CtxV (ops : Array Oper) (S : Nat → Prop) (l : List (Bool × SpS S)) (chain : List Nat) (cv : List (Option (Bool × Value))) (GV : List Value → World → Prop) (n : Fr) (K Ke : Known) (w0 : World) (i : Nat) (o : Oper) (a : Act) (w : World) : Prop where
 chg : Chg S w0 w
 kn : Kn n K a
 dep : ∀ j d, depB ops o j d = true → chain.contains j = false → optS l j (a.tmps.getD d undef) w
 link : ∀ (q c d : Nat) (b : Bool) (x : Value), chain[q]? = some c → depB ops o c d = true → cv[q]? = some (some (b, x)) → b = true → a.tmps.getD d undef = x
 old : ∀ d v, look Ke d = some v → earlyB ops i d = true → a.tmps.getD d undef = v
 early : ∀ (q c : Nat), chain[q]? = some c → (ancL ops c).contains i = true → ∃ vals, vals.length ≤ q ∧ GV vals w ∧ ∀ (q' c' d : Nat), chain[q']? = some c' → depB ops o c' d = true → vals[q']? = some (a.tmps.getD d undef)
/-- .. and an operation of the chain: what was yielded before it. -/
structure CtxW (ops : Array Oper) (S : Nat → Prop) (l : List (Bool × SpS S)) (chain : List Nat) (cv : List (Option (Bool × Value))) (GV : List Value → World → Prop) (n : Fr) (K Ke : Known) (w0 : World) (i p : Nat) (o : Oper) (a : Act) (w : World) (vals : List Value) : Prop extends CtxV ops S l chain cv GV n K Ke w0 i o a w where
 len : vals.length = p
 now : GV vals w
 val : ∀ (q c d : Nat), chain[q]? = some c → depB ops o c d = true → vals[q]? = some (a.tmps.getD d undef)
/-- That the operation 'o' comes behind the one ahead of it in the chain. -/
def behind (ops : Array Oper) (chain : List Nat) (p : Nat) (o : Oper) : Bool := match p with | 0 => true | p + 1 => match chain[p]? with | some c => o.after.any (fun e => Region.binds .any e && (ancL ops e.on).contains c) | none => false
def SeqV (P : Program) (ops : Array Oper) (Q : Exit → Act → World → Prop) (l : List (Bool × SpS S)) (chain : List Nat) (cv : List (Option (Bool × Value))) (GV : List Value → World → Prop) (n : Fr) (K Ke : Known) (w0 : World) : Nat → List Oper → Prop
 | _, [] => True
 | i, o :: r => ((chain.contains i = false ∧ ∃ β, GuardIs (optS l) o β ∧ (∀ g b, o.guard = some (g, b) → chain.contains g = false) ∧ (β = false → ∀ w, optS l i undef w) ∧
   (β = true → ∀ a w, CtxV ops S l chain cv GV n K Ke w0 i o a w → o.wp P a w (fun a' w' => ∃ v, a' = Act.put a o.dst v ∧ Below w.heap.size w w' ∧ optS l i v w') Q)) ∨
  (∃ p, chain[p]? = some i ∧ behind ops chain p o = true ∧ ∃ β, GuardIs (optS l) o β ∧ (∀ g b, o.guard = some (g, b) → chain.contains g = false) ∧
   (β = false → ∀ w vals, vals.length = p → GV vals w → GV (vals ++ [undef]) w ∧ ∀ b x, cv[p]? = some (some (b, x)) → b = true → undef = x) ∧
   (β = true → ∀ a w vals, CtxW ops S l chain cv GV n K Ke w0 i p o a w vals → o.wp P a w (fun a' w' => ∃ v, a' = Act.put a o.dst v ∧ Chg S w w' ∧ GV (vals ++ [v]) w' ∧ ∀ b x, cv[p]? = some (some (b, x)) → b = true → v = x) Q))) ∧ SeqV P ops Q l chain cv GV n K Ke w0 (i + 1) r
theorem cv_snoc {cv : List (Option (Bool × Value))} {vals : List Value} {v : Value} (h : ∀ (q : Nat) b x, cv[q]? = some (some (b, x)) → b = true → ∀ v, vals[q]? = some v → v = x) (hv : ∀ b x, cv[vals.length]? = some (some (b, x)) → b = true → v = x) : ∀ (q : Nat) b x, cv[q]? = some (some (b, x)) → b = true → ∀ u, (vals ++ [v])[q]? = some u → u = x := by
 intro q b x hq hb u hu
 rcases Nat.lt_trichotomy q vals.length with c | c | c
 ·rw [List.getElem?_append_left c] at hu; exact h q b x hq hb u hu
 ·subst c
  rw [List.getElem?_append_right (Nat.le_refl _), Nat.sub_self] at hu
  have : v = u := by simpa using hu
  rw [← this]; exact hv b x hq hb
 ·rw [List.getElem?_append_right (by omega)] at hu
  obtain ⟨k, hk⟩ : ∃ k, q - vals.length = k + 1 := ⟨q - vals.length - 1, by omega⟩
  rw [hk] at hu; cases hu
theorem SeqV.gen {Q : Exit → Act → World → Prop} {l : List (Bool × SpS S)} {chain : List Nat} {cv : List (Option (Bool × Value))} {GV : List Value → World → Prop} {n : Fr} {K Ke : Known} {w0 : World} (hGV : ∀ vals w w', Below w.heap.size w w' → GV vals w → GV vals w') : ∀ {lo : List Oper} {i : Nat}, SeqV P ops Q l chain cv GV n K Ke w0 i lo →
  SoundFromQ P ops Q chain (optS l) (Chg S) (GH S w0 chain.length cv GV) n K Ke i lo
 | [], _, _ => trivial
 | o :: r, i, ⟨h, hr⟩ => by
  refine ⟨?_, hr.gen hGV⟩
  have ctx : ∀ {a w vs vals}, CtxQ ops chain (optS l) (GH S w0 chain.length cv GV) n K Ke i o a w vs → vs = Vals vals chain.length → Chg S w0 w → (∀ (q : Nat) b x, cv[q]? = some (some (b, x)) → b = true → ∀ v, vals[q]? = some v → v = x) → GV vals w → CtxV ops S l chain cv GV n K Ke w0 i o a w := fun {a w vs vals} C e hc hv hg =>
   ⟨hc, C.kn, C.dep, fun q c d b x h1 h2 h3 h4 => hv q b x h3 h4 _ (vals_some (e ▸ C.link q c d h1 h2)), fun d v hd hb => C.old d v hd (earlyB_of hb), fun q c h1 h2 => ⟨vals, vals_none (e ▸ C.mostT q c h1 h2), hg, fun q' c' d h3 h4 => vals_some (e ▸ C.link q' c' d h3 h4)⟩⟩
  rcases h with ⟨hi, β, h1, h2, h3, h4⟩ | ⟨p, hp, hbh, β, h1, h2, h3, h4⟩
  ·refine .inl ⟨hi, β, h1, h2, h3, fun hβ a w vs C => ?_⟩
   obtain ⟨vals, k1, k2, k3, k4, k5⟩ := C.now
   refine Oper.wpIn_mono ?_ (wpIn_of (h4 hβ a w (ctx C k2 k4 k5 k3)) (by rintro a' w' ⟨v, rfl, _⟩; exact put_defers _ _ _))
   rintro a' w' ⟨v, rfl, hb, hR⟩
   exact ⟨v, rfl, .ofBelow hb, ⟨vals, k1, k2, hGV _ _ _ hb k3, k4.trans (.ofBelow hb), k5⟩, hR⟩
  ·have hpl : p < chain.length := (List.getElem?_eq_some_iff.1 hp).1
   have len : ∀ {a w vs vals}, CtxQ ops chain (optS l) (GH S w0 chain.length cv GV) n K Ke i o a w vs → vs = Vals vals chain.length → vs[p]? = some none → vals.length = p := fun {a w vs vals} C e hn => by
    have h5 := vals_none (e ▸ hn)
    cases p with
    | zero => omega
    | succ p =>
     unfold behind at hbh
     obtain ⟨c, hc⟩ : ∃ c, chain[p]? = some c := ⟨chain[p], List.getElem?_eq_getElem (by omega)⟩
     simp only [hc] at hbh
     obtain ⟨v, hv⟩ := C.anc p c hc hbh
     have h6 := vals_some (e ▸ hv)
     have := (List.getElem?_eq_some_iff.1 h6).1
     omega
   refine .inr ⟨p, hp, β, h1, h2, fun hβ a w vs C hn => ?_, fun hβ a w vs C hn => ?_⟩
   ·obtain ⟨vals, k1, k2, k3, k4, k5⟩ := C.now
    have hl := len C k2 hn
    obtain ⟨z1, z2⟩ := h3 hβ w vals hl k3
    refine ⟨vals ++ [undef], by simp; omega, ?_, z1, k4, cv_snoc k5 (hl ▸ z2)⟩
    rw [k2, ← hl, vals_set (by omega)]
   ·obtain ⟨vals, k1, k2, k3, k4, k5⟩ := C.now
    have hl := len C k2 hn
    refine Oper.wpIn_mono ?_ (wpIn_of (h4 hβ a w vals ⟨ctx C k2 k4 k5 k3, hl, k3, fun q c d z1 z2 => vals_some (k2 ▸ C.link q c d z1 z2)⟩) (by rintro a' w' ⟨v, rfl, _⟩; exact put_defers _ _ _))
    rintro a' w' ⟨v, rfl, hc, z1, z2⟩
    refine ⟨v, rfl, hc, vals ++ [v], by simp; omega, ?_, z1, k4.trans hc, cv_snoc k5 (hl ▸ z2)⟩
    rw [k2, ← hl, vals_set (by omega)]
theorem cvIs {v X : Value} {β : Bool} (h : v = X) : ∀ b x, (some (some (β, X)) : Option (Option (Bool × Value))) = some (some (b, x)) → b = true → v = x := fun b x e _ => by cases e; exact h
theorem cvNo {v : Value} : ∀ b x, (some none : Option (Option (Bool × Value))) = some (some (b, x)) → b = true → v = x := fun b x e => by cases e
theorem vlen0 {l : List Value} (h : l.length = 0) : l = [] := List.length_eq_zero_iff.1 h
theorem vlen1 {l : List Value} (h : l.length = 1) : ∃ a, l = [a] := by
 match l, h with
 | [a], _ => exact ⟨a, rfl⟩
theorem vlen2 {l : List Value} (h : l.length = 2) : ∃ a b, l = [a, b] := by
 match l, h with
 | [a, b], _ => exact ⟨a, b, rfl⟩
theorem vlen3 {l : List Value} (h : l.length = 3) : ∃ a b c, l = [a, b, c] := by
 match l, h with
 | [a, b, c], _ => exact ⟨a, b, c, rfl⟩
theorem vlen4 {l : List Value} (h : l.length = 4) : ∃ a b c d, l = [a, b, c, d] := by
 match l, h with
 | [a, b, c, d], _ => exact ⟨a, b, c, d, rfl⟩
theorem WC.seqV {id : Nat} {dr : Bool} {Q : Exit → Act → World → Prop} {n : Fr} {K : Known} {w : World} (l : List (Bool × SpS S)) (K0 : Known) (chain : List Nat) (cv : List (Option (Bool × Value))) (GV : List Value → World → Prop) (hGV : ∀ vals w w', Below w.heap.size w w' → GV vals w → GV vals w') (hnd : chain.Nodup)
  (hs : subK K0 K) (hclear : clearB ops K0 = true) (hm : P.follows .mixedOrders = true) (hB : opsB ops n.n = true) (hin : (chain.all fun c => Nat.blt c ops.size) = true) (h0 : GV [] w)
  (h : SeqV P ops Q l chain cv GV n K0 K w 0 ops.toList)
  (hQ : ∀ (a : Act) (w' : World) (vals : List Value), Kn n K0 a → vals.length = chain.length → GV vals w' → Chg S w w' → (∀ i d, (ops[i]?).bind (·.dst) = some d → chain.contains i = false → optS l i (a.tmps.getD d undef) w') → (∀ (p c d : Nat), chain[p]? = some c → (ops[c]?).bind (·.dst) = some d → vals[p]? = some (a.tmps.getD d undef)) → (∀ (p c d : Nat) b x, chain[p]? = some c → (ops[c]?).bind (·.dst) = some d → cv[p]? = some (some (b, x)) → b = true → a.tmps.getD d undef = x) → Q .normal a w') :
  WC P n K w (.region id ops dr) Q := by
 refine WC.genQ chain (optS l) (Chg S) (GH S w chain.length cv GV) K0 hs hclear hm hB hnd hin (optSKeep l) ?_ (h.gen hGV) (fun a w' vs hk hlen hall hG hu hl => ?_)
 ·refine ⟨[], Nat.zero_le _, by simp [Vals], ?_, ?_, fun q b x _ _ v hv => (nomatch hv)⟩
  ·cases dr with
   | true => exact hGV _ _ _ (Below.refl _ _).drew h0
   | false => exact h0
  ·cases dr with
   | true => exact .ofBelow (Below.refl _ _).drew
   | false => exact .ofBelow (Below.refl _ _)
 ·obtain ⟨vals, k1, k2, k3, k4, k5⟩ := hG
  have hlv : vals.length = chain.length := by
   rcases Nat.lt_or_ge vals.length chain.length with c | c
   ·obtain ⟨v, hv⟩ := hall vals.length c
    have h6 := (List.getElem?_eq_some_iff.1 (vals_some (k2 ▸ hv))).1
    omega
   ·omega
  have hv : ∀ (p c d : Nat), chain[p]? = some c → (ops[c]?).bind (·.dst) = some d → vals[p]? = some (a.tmps.getD d undef) := fun p c d z1 z2 => vals_some (k2 ▸ hl p c d z1 z2)
  exact hQ a w' vals hk hlv k3 k4 hu hv (fun p c d b x z1 z2 z3 z4 => k5 p b x z3 z4 _ (hv p c d z1 z2))
end
end Go.Proofs.Ythhgidliopohcaa

/- What stands for a part: the document's program. -/
namespace Go.Proofs.Ythhgidliopohcaa
open Go.RowKit Go
set_option linter.unusedVariables false
set_option linter.unusedSimpArgs false
end Go.Proofs.Ythhgidliopohcaa

/- Regions in whatever order: two calls that make things, two new boxes, what is made is stored into them. -/
namespace Go.Proofs.Ythhgidliopohcaa
open Go.RowKit Go
def vcells : Value → Array Value
 | .agg cs => cs
 | v => #[v]
def PKeep (P : (Nat → Prop) → World → Value → Prop) : Prop := ∀ (S : Nat → Prop) (w w' : World) (v : Value), (∀ (p : Addr) (x : Value), S p.block → w.cell? p = some x → w'.cell? p = some x) → P S w v → P S w' v
def PMono (P : (Nat → Prop) → World → Value → Prop) : Prop := ∀ (S S' : Nat → Prop) (w : World) (v : Value), (∀ b, S b → b < w.heap.size → S' b) → P S w v → P S' w v
section
variable {w0 w w' : World} {t1 t2 g : Nat} {z1 z2 : Array Value} {x1 x2 va vb vp vq : Option Value} {P1 P2 : (Nat → Prop) → World → Value → Prop}
/-- A box: new, apart from what was made; empty, or what was made lies in it. -/
def BoxS (w0 : World) (S1 S2 : Nat → Prop) (t : Nat) (z : Array Value) (x va vp : Option Value) (w : World) : Prop :=
 ∀ v, va = some v → ∃ g cs, v = .pointer (some ⟨g, 0, none⟩) ∧ w0.heap.size ≤ g ∧ ¬ S1 g ∧ ¬ S2 g ∧ Blk w g t cs ∧ (vp = none → cs = z) ∧ (∀ u, vp = some u → ∃ y, x = some y ∧ cs = vcells y)
structure BxS (w0 : World) (P1 P2 : (Nat → Prop) → World → Value → Prop) (t1 : Nat) (z1 : Array Value) (t2 : Nat) (z2 : Array Value) (x1 x2 va vb vp vq : Option Value) (w : World) : Prop where
 below : Below w0.heap.size w0 w
 wit : ∃ S1 S2 : Nat → Prop, (∀ b, S1 b → w0.heap.size ≤ b ∧ b < w.heap.size) ∧ (∀ b, S2 b → w0.heap.size ≤ b ∧ b < w.heap.size) ∧ (∀ v, x1 = some v → P1 S1 w v) ∧ (∀ v, x2 = some v → P2 S2 w v) ∧
  BoxS w0 S1 S2 t1 z1 x1 va vp w ∧ BoxS w0 S1 S2 t2 z2 x2 vb vq w
 ne : ∀ v u, va = some v → vb = some u → v ≠ u
 pa : va = none → vp = none
 qb : vb = none → vq = none
def BxG (w0 : World) (P1 P2 : (Nat → Prop) → World → Value → Prop) (t1 : Nat) (z1 : Array Value) (t2 : Nat) (z2 : Array Value) : List (Option Value) → World → Prop
 | [x1, x2, va, vb, vp, vq], w => BxS w0 P1 P2 t1 z1 t2 z2 x1 x2 va vb vp vq w
 | _, _ => False
theorem BoxS.step {S1 S2 : Nat → Prop} (h : BoxS w0 S1 S2 t1 z1 x1 va vp w) (hb : Below w.heap.size w w') : BoxS w0 S1 S2 t1 z1 x1 va vp w' := fun v hv => by
 obtain ⟨g, cs, h1, h2, h3, h4, h5, h6⟩ := h v hv
 exact ⟨g, cs, h1, h2, h3, h4, h5.below hb, h6⟩
theorem BxS.step (k1 : PKeep P1) (k2 : PKeep P2) (h : BxS w0 P1 P2 t1 z1 t2 z2 x1 x2 va vb vp vq w) (hb : Below w.heap.size w w') : BxS w0 P1 P2 t1 z1 t2 z2 x1 x2 va vb vp vq w' := by
 obtain ⟨S1, S2, h1, h2, h3, h4, h5, h6⟩ := h.wit
 have hs := hb.size
 exact ⟨bstep h.below hb, ⟨S1, S2, fun b q => ⟨(h1 b q).1, by have := (h1 b q).2; omega⟩, fun b q => ⟨(h2 b q).1, by have := (h2 b q).2; omega⟩, fun v q => k1 _ _ _ _ (fun p x _ hx => bkeeps hb p x hx) (h3 v q), fun v q => k2 _ _ _ _ (fun p x _ hx => bkeeps hb p x hx) (h4 v q), h5.step hb, h6.step hb⟩, h.ne, h.pa, h.qb⟩
theorem BoxS.lt {S1 S2 : Nat → Prop} {S1' S2' : Nat → Prop} (h : BoxS w0 S1 S2 t1 z1 x1 va vp w) (h1 : ∀ b, b < w.heap.size → S1' b → S1 b) (h2 : ∀ b, b < w.heap.size → S2' b → S2 b) : BoxS w0 S1' S2' t1 z1 x1 va vp w := fun v hv => by
 obtain ⟨g, cs, e, h3, h4, h5, h6, h7⟩ := h v hv
 exact ⟨g, cs, e, h3, fun q => h4 (h1 g h6.lt q), fun q => h5 (h2 g h6.lt q), h6, h7⟩
theorem BxS.callA (k1 : PKeep P1) (k2 : PKeep P2) (m1 : PMono P1) {v : Value} (h : BxS w0 P1 P2 t1 z1 t2 z2 none x2 va vb vp vq w) (hb : Below w.heap.size w w') (hv : P1 (fun b => w.heap.size ≤ b) w' v) : BxS w0 P1 P2 t1 z1 t2 z2 (some v) x2 va vb vp vq w' := by
 obtain ⟨S1, S2, h1, h2, h3, h4, h5, h6⟩ := h.wit
 have hs := hb.size
 have h0 := h.below.size
 have far : ∀ b, b < w.heap.size → (w.heap.size ≤ b ∧ b < w'.heap.size) → S1 b := fun b q r => by omega
 refine ⟨bstep h.below hb, ⟨fun b => w.heap.size ≤ b ∧ b < w'.heap.size, S2, fun b q => ⟨by omega, q.2⟩, fun b q => ⟨(h2 b q).1, by have := (h2 b q).2; omega⟩, fun u q => ?_, fun v q => k2 _ _ _ _ (fun p x _ hx => bkeeps hb p x hx) (h4 v q), ?_, (h6.lt far (fun _ _ q => q)).step hb⟩, h.ne, h.pa, h.qb⟩
 ·obtain rfl := Option.some.inj q
  exact m1 _ _ _ _ (fun b q r => ⟨q, r⟩) hv
 ·refine BoxS.step (w := w) (fun v hv => ?_) hb
  obtain ⟨g, cs, e, q3, q4, q5, q6, q7, q8⟩ := h5 v hv
  refine ⟨g, cs, e, q3, fun q => q4 (far g q6.lt q), q5, q6, q7, fun u hu => ?_⟩
  obtain ⟨y, hy, _⟩ := q8 u hu
  cases hy
theorem BxS.callB (k1 : PKeep P1) (k2 : PKeep P2) (m2 : PMono P2) {v : Value} (h : BxS w0 P1 P2 t1 z1 t2 z2 x1 none va vb vp vq w) (hb : Below w.heap.size w w') (hv : P2 (fun b => w.heap.size ≤ b) w' v) : BxS w0 P1 P2 t1 z1 t2 z2 x1 (some v) va vb vp vq w' := by
 obtain ⟨S1, S2, h1, h2, h3, h4, h5, h6⟩ := h.wit
 have hs := hb.size
 have h0 := h.below.size
 have far : ∀ b, b < w.heap.size → (w.heap.size ≤ b ∧ b < w'.heap.size) → S2 b := fun b q r => by omega
 refine ⟨bstep h.below hb, ⟨S1, fun b => w.heap.size ≤ b ∧ b < w'.heap.size, fun b q => ⟨(h1 b q).1, by have := (h1 b q).2; omega⟩, fun b q => ⟨by omega, q.2⟩, fun v q => k1 _ _ _ _ (fun p x _ hx => bkeeps hb p x hx) (h3 v q), fun u q => ?_, (h5.lt (fun _ _ q => q) far).step hb, ?_⟩, h.ne, h.pa, h.qb⟩
 ·obtain rfl := Option.some.inj q
  exact m2 _ _ _ _ (fun b q r => ⟨q, r⟩) hv
 ·refine BoxS.step (w := w) (fun v hv => ?_) hb
  obtain ⟨g, cs, e, q3, q4, q5, q6, q7, q8⟩ := h6 v hv
  refine ⟨g, cs, e, q3, q4, fun q => q5 (far g q6.lt q), q6, q7, fun u hu => ?_⟩
  obtain ⟨y, hy, _⟩ := q8 u hu
  cases hy
theorem BxS.allocA (k1 : PKeep P1) (k2 : PKeep P2) (h : BxS w0 P1 P2 t1 z1 t2 z2 x1 x2 none vb vp vq w) : BxS w0 P1 P2 t1 z1 t2 z2 x1 x2 (some (.pointer (some ⟨w.heap.size, 0, none⟩))) vb vp vq (w.alloc (.cells z1 t1)) := by
 have hp := h.pa rfl
 subst hp
 have h0 := h.below.size
 have hst := h.step k1 k2 (balloc w (.cells z1 t1))
 obtain ⟨S1, S2, h1, h2, h3, h4, h5, h6⟩ := h.wit
 have hs := (balloc w (.cells z1 t1)).size
 refine ⟨hst.below, ⟨S1, S2, fun b q => ⟨(h1 b q).1, by have := (h1 b q).2; omega⟩, fun b q => ⟨(h2 b q).1, by have := (h2 b q).2; omega⟩, fun v q => k1 _ _ _ _ (fun p x _ hx => bkeeps (balloc _ _) p x hx) (h3 v q), fun v q => k2 _ _ _ _ (fun p x _ hx => bkeeps (balloc _ _) p x hx) (h4 v q), fun v hv => ?_, h6.step (balloc _ _)⟩, fun v u hv hu => ?_, fun e => (by cases e), h.qb⟩
 ·exact ⟨_, _, (Option.some.inj hv).symm, h0, fun q => by have := (h1 _ q).2; omega, fun q => by have := (h2 _ q).2; omega, Blk.new' rfl, fun _ => rfl, fun u hu => (by cases hu)⟩
 ·obtain ⟨g, cs, rfl, _, _, _, q6, _⟩ := h6 u hu
  obtain rfl := Option.some.inj hv
  have := q6.lt
  simp only [ne_eq, Value.pointer.injEq, Option.some.injEq, Addr.mk.injEq, and_true]
  omega
theorem BxS.allocB (k1 : PKeep P1) (k2 : PKeep P2) (h : BxS w0 P1 P2 t1 z1 t2 z2 x1 x2 va none vp vq w) : BxS w0 P1 P2 t1 z1 t2 z2 x1 x2 va (some (.pointer (some ⟨w.heap.size, 0, none⟩))) vp vq (w.alloc (.cells z2 t2)) := by
 have hp := h.qb rfl
 subst hp
 have h0 := h.below.size
 have hst := h.step k1 k2 (balloc w (.cells z2 t2))
 obtain ⟨S1, S2, h1, h2, h3, h4, h5, h6⟩ := h.wit
 have hs := (balloc w (.cells z2 t2)).size
 refine ⟨hst.below, ⟨S1, S2, fun b q => ⟨(h1 b q).1, by have := (h1 b q).2; omega⟩, fun b q => ⟨(h2 b q).1, by have := (h2 b q).2; omega⟩, fun v q => k1 _ _ _ _ (fun p x _ hx => bkeeps (balloc _ _) p x hx) (h3 v q), fun v q => k2 _ _ _ _ (fun p x _ hx => bkeeps (balloc _ _) p x hx) (h4 v q), h5.step (balloc _ _), fun v hv => ?_⟩, fun v u hv hu => ?_, h.pa, fun e => (by cases e)⟩
 ·exact ⟨_, _, (Option.some.inj hv).symm, h0, fun q => by have := (h1 _ q).2; omega, fun q => by have := (h2 _ q).2; omega, Blk.new' rfl, fun _ => rfl, fun u hu => (by cases hu)⟩
 ·obtain ⟨g, cs, rfl, _, _, _, q6, _⟩ := h5 v hv
  obtain rfl := Option.some.inj hu
  have := q6.lt
  simp only [ne_eq, Value.pointer.injEq, Option.some.injEq, Addr.mk.injEq, and_true]
  omega
theorem upd_keep {S : Nat → Prop} (hu : Upd g w w') (hS : ¬ S g) (p : Addr) (x : Value) (hp : S p.block) (hx : w.cell? p = some x) : w'.cell? p = some x := by
 unfold World.cell? at hx ⊢
 rw [hu.block p.block (fun e => hS (e ▸ hp))]; exact hx
theorem BxS.storeA (k1 : PKeep P1) (k2 : PKeep P2) {q y : Value} (h : BxS w0 P1 P2 t1 z1 t2 z2 (some y) x2 (some (.pointer (some ⟨g, 0, none⟩))) vb none vq w) (hu : Upd g w w') (hB : Blk w' g t1 (vcells y)) : BxS w0 P1 P2 t1 z1 t2 z2 (some y) x2 (some (.pointer (some ⟨g, 0, none⟩))) vb (some q) vq w' := by
 obtain ⟨S1, S2, h1, h2, h3, h4, h5, h6⟩ := h.wit
 obtain ⟨g', cs, e, q1, q2, q3, q4, _⟩ := h5 _ rfl
 simp only [Value.pointer.injEq, Option.some.injEq, Addr.mk.injEq, and_true] at e
 subst e
 have hs := hu.size
 refine ⟨upd_below h.below hu q1, ⟨S1, S2, fun b q => ⟨(h1 b q).1, by have := (h1 b q).2; omega⟩, fun b q => ⟨(h2 b q).1, by have := (h2 b q).2; omega⟩, fun v q => k1 _ _ _ _ (upd_keep hu q2) (h3 v q), fun v q => k2 _ _ _ _ (upd_keep hu q3) (h4 v q), fun v hv => ?_, fun v hv => ?_⟩, h.ne, fun e => (by cases e), h.qb⟩
 ·exact ⟨g, _, (Option.some.inj hv).symm, q1, q2, q3, hB, fun e => (by cases e), fun u _ => ⟨y, rfl, rfl⟩⟩
 ·obtain ⟨g2, cs2, rfl, r1, r2, r3, r4, r5⟩ := h6 v hv
  have := h.ne _ _ rfl hv
  simp only [ne_eq, Value.pointer.injEq, Option.some.injEq, Addr.mk.injEq, and_true] at this
  exact ⟨g2, cs2, rfl, r1, r2, r3, upd_blk r4 hu (fun e => this e.symm), r5⟩
theorem BxS.storeB (k1 : PKeep P1) (k2 : PKeep P2) {q y : Value} (h : BxS w0 P1 P2 t1 z1 t2 z2 x1 (some y) va (some (.pointer (some ⟨g, 0, none⟩))) vp none w) (hu : Upd g w w') (hB : Blk w' g t2 (vcells y)) : BxS w0 P1 P2 t1 z1 t2 z2 x1 (some y) va (some (.pointer (some ⟨g, 0, none⟩))) vp (some q) w' := by
 obtain ⟨S1, S2, h1, h2, h3, h4, h5, h6⟩ := h.wit
 obtain ⟨g', cs, e, q1, q2, q3, q4, _⟩ := h6 _ rfl
 simp only [Value.pointer.injEq, Option.some.injEq, Addr.mk.injEq, and_true] at e
 subst e
 have hs := hu.size
 refine ⟨upd_below h.below hu q1, ⟨S1, S2, fun b q => ⟨(h1 b q).1, by have := (h1 b q).2; omega⟩, fun b q => ⟨(h2 b q).1, by have := (h2 b q).2; omega⟩, fun v q => k1 _ _ _ _ (upd_keep hu q2) (h3 v q), fun v q => k2 _ _ _ _ (upd_keep hu q3) (h4 v q), fun v hv => ?_, fun v hv => ?_⟩, h.ne, h.pa, fun e => (by cases e)⟩
 ·obtain ⟨g2, cs2, rfl, r1, r2, r3, r4, r5⟩ := h5 v hv
  have := h.ne _ _ hv rfl
  simp only [ne_eq, Value.pointer.injEq, Option.some.injEq, Addr.mk.injEq, and_true] at this
  exact ⟨g2, cs2, rfl, r1, r2, r3, upd_blk r4 hu this, r5⟩
 ·exact ⟨g, _, (Option.some.inj hv).symm, q1, q2, q3, hB, fun e => (by cases e), fun u _ => ⟨y, rfl, rfl⟩⟩
end
section
variable {P : Program} {ops : Array Oper} {P1 P2 : (Nat → Prop) → World → Value → Prop}
def valR2 (l : List (Bool × Value)) (i : Nat) (v : Value) : Prop := (l.getD i (true, undef)).1 = true → v = (l.getD i (true, undef)).2
theorem valVal2 {l : List (Bool × Value)} {i : Nat} {v x : Value} {β : Bool} (h : valR2 l i v) (e : l.getD i (true, undef) = (β, x)) (hβ : β = true) : v = x := by
 have := h (by rw [e]; exact hβ)
 rw [e] at this; exact this
structure CtxX (ops : Array Oper) (l : List (Bool × Value)) (chain : List Nat) (n : Fr) (K : Known) (w0 : World) (o : Oper) (a : Act) (w : World) : Prop where
 below : Below w0.heap.size w0 w
 kn : Kn n K a
 dep : ∀ j d, depB ops o j d = true → chain.contains j = false → valR2 l j (a.tmps.getD d undef)
def SoundX (P : Program) (ops : Array Oper) (Q : Exit → Act → World → Prop) (l : List (Bool × Value)) (n : Fr) (K : Known) (w0 : World) (P1 P2 : (Nat → Prop) → World → Value → Prop) (t1 : Nat) (z1 : Array Value) (t2 : Nat) (z2 : Array Value) (ic id ia ib ip iq : Nat) : Nat → List Oper → Prop
 | _, [] => True
 | i, o :: r => (([ic, id, ia, ib, ip, iq].contains i = false ∧ o.guard = none ∧
    (∀ a w, CtxX ops l [ic, id, ia, ib, ip, iq] n K w0 o a w → o.wp P a w (fun a' w' => ∃ v, a' = Act.put a o.dst v ∧ w' = w ∧ valR2 l i v) Q)) ∨
   (i = ic ∧ o.guard = none ∧ ∀ a w, CtxX ops l [ic, id, ia, ib, ip, iq] n K w0 o a w → o.wp P a w (fun a' w' => ∃ v, a' = Act.put a o.dst v ∧ Below w.heap.size w w' ∧ P1 (fun b => w.heap.size ≤ b) w' v) Q) ∨
   (i = id ∧ o.guard = none ∧ ∀ a w, CtxX ops l [ic, id, ia, ib, ip, iq] n K w0 o a w → o.wp P a w (fun a' w' => ∃ v, a' = Act.put a o.dst v ∧ Below w.heap.size w w' ∧ P2 (fun b => w.heap.size ≤ b) w' v) Q) ∨
   (i = ia ∧ o.guard = none ∧ ∀ a w, CtxX ops l [ic, id, ia, ib, ip, iq] n K w0 o a w → o.wp P a w (fun a' w' => a' = Act.put a o.dst (.pointer (some ⟨w.heap.size, 0, none⟩)) ∧ w' = w.alloc (.cells z1 t1)) Q) ∨
   (i = ib ∧ o.guard = none ∧ ∀ a w, CtxX ops l [ic, id, ia, ib, ip, iq] n K w0 o a w → o.wp P a w (fun a' w' => a' = Act.put a o.dst (.pointer (some ⟨w.heap.size, 0, none⟩)) ∧ w' = w.alloc (.cells z2 t2)) Q) ∨
   (i = ip ∧ o.guard = none ∧ ∃ dp dx, depB ops o ia dp = true ∧ depB ops o ic dx = true ∧ ∀ a w g S, CtxX ops l [ic, id, ia, ib, ip, iq] n K w0 o a w → a.tmps.getD dp undef = .pointer (some ⟨g, 0, none⟩) → Blk w g t1 z1 → P1 S w (a.tmps.getD dx undef) → o.wp P a w (fun a' w' => ∃ v, a' = Act.put a o.dst v ∧ Upd g w w' ∧ Blk w' g t1 (vcells (a.tmps.getD dx undef))) Q) ∨
   (i = iq ∧ o.guard = none ∧ ∃ dp dx, depB ops o ib dp = true ∧ depB ops o id dx = true ∧ ∀ a w g S, CtxX ops l [ic, id, ia, ib, ip, iq] n K w0 o a w → a.tmps.getD dp undef = .pointer (some ⟨g, 0, none⟩) → Blk w g t2 z2 → P2 S w (a.tmps.getD dx undef) → o.wp P a w (fun a' w' => ∃ v, a' = Act.put a o.dst v ∧ Upd g w w' ∧ Blk w' g t2 (vcells (a.tmps.getD dx undef))) Q)) ∧ SoundX P ops Q l n K w0 P1 P2 t1 z1 t2 z2 ic id ia ib ip iq (i + 1) r
theorem SoundX.gen (k1 : PKeep P1) (k2 : PKeep P2) (m1 : PMono P1) (m2 : PMono P2) {Q : Exit → Act → World → Prop} {l : List (Bool × Value)} {n : Fr} {K : Known} {w0 : World} {t1 : Nat} {z1 : Array Value} {t2 : Nat} {z2 : Array Value} {ic id ia ib ip iq : Nat} : ∀ {lo : List Oper} {i : Nat}, SoundX P ops Q l n K w0 P1 P2 t1 z1 t2 z2 ic id ia ib ip iq i lo →
  SoundFromG P ops Q [ic, id, ia, ib, ip, iq] (fun i v _ => valR2 l i v) (fun _ _ => True) (BxG w0 P1 P2 t1 z1 t2 z2) n K i lo
 | [], _, _ => trivial
 | o :: r, i, ⟨h, hr⟩ => by
  refine ⟨?_, hr.gen k1 k2 m1 m2⟩
  have mk : ∀ {a : Act} {w : World} {vs : List (Option Value)} (_ : CtxG ops [ic, id, ia, ib, ip, iq] (fun i v _ => valR2 l i v) (BxG w0 P1 P2 t1 z1 t2 z2) n K i o a w vs), CtxX ops l [ic, id, ia, ib, ip, iq] n K w0 o a w := by
   intro a w vs C
   match vs, C.len, C.now with
   | [x1, x2, va, vb, vp, vq], _, hG => exact ⟨BxS.below hG, C.kn, C.dep⟩
  rcases h with ⟨h1, h2, h3⟩ | ⟨rfl, h1, h2⟩ | ⟨rfl, h1, h2⟩ | ⟨rfl, h1, h2⟩ | ⟨rfl, h1, h2⟩ | ⟨rfl, h1, dp, dx, h2, hx, h3⟩ | ⟨rfl, h1, dp, dx, h2, hx, h3⟩
  ·refine .inl ⟨h1, true, .none h2, fun g b hb => by (rw [h2] at hb; cases hb), fun e => (by cases e), fun _ a w vs C => ?_⟩
   refine Oper.wpIn_mono ?_ (wpIn_of (h3 a w (mk C)) (by rintro a' w' ⟨v, rfl, _⟩; exact put_defers _ _ _))
   rintro a' w' ⟨v, rfl, rfl, hv⟩
   exact ⟨v, rfl, trivial, C.now, hv⟩
  ·refine .inr ⟨0, rfl, h1, fun a w vs C hn => ?_⟩
   refine Oper.wpIn_mono ?_ (wpIn_of (h2 a w (mk C)) (by rintro a' w' ⟨v, rfl, _⟩; exact put_defers _ _ _))
   rintro a' w' ⟨v, rfl, hb, hv⟩
   match vs, C.len, hn, C.now with
   | [x1, x2, va, vb, vp, vq], _, hn, hG =>
    simp only [List.getElem?_cons_zero, Option.some.injEq] at hn
    subst hn
    exact ⟨_, rfl, trivial, BxS.callA k1 k2 m1 hG hb hv⟩
  ·refine .inr ⟨1, rfl, h1, fun a w vs C hn => ?_⟩
   refine Oper.wpIn_mono ?_ (wpIn_of (h2 a w (mk C)) (by rintro a' w' ⟨v, rfl, _⟩; exact put_defers _ _ _))
   rintro a' w' ⟨v, rfl, hb, hv⟩
   match vs, C.len, hn, C.now with
   | [x1, x2, va, vb, vp, vq], _, hn, hG =>
    simp only [List.getElem?_cons_zero, List.getElem?_cons_succ, Option.some.injEq] at hn
    subst hn
    exact ⟨_, rfl, trivial, BxS.callB k1 k2 m2 hG hb hv⟩
  ·refine .inr ⟨2, rfl, h1, fun a w vs C hn => ?_⟩
   refine Oper.wpIn_mono ?_ (wpIn_of (h2 a w (mk C)) (by rintro a' w' ⟨rfl, _⟩; exact put_defers _ _ _))
   rintro a' w' ⟨rfl, rfl⟩
   match vs, C.len, hn, C.now with
   | [x1, x2, va, vb, vp, vq], _, hn, hG =>
    simp only [List.getElem?_cons_zero, List.getElem?_cons_succ, Option.some.injEq] at hn
    subst hn
    exact ⟨_, rfl, trivial, BxS.allocA k1 k2 hG⟩
  ·refine .inr ⟨3, rfl, h1, fun a w vs C hn => ?_⟩
   refine Oper.wpIn_mono ?_ (wpIn_of (h2 a w (mk C)) (by rintro a' w' ⟨rfl, _⟩; exact put_defers _ _ _))
   rintro a' w' ⟨rfl, rfl⟩
   match vs, C.len, hn, C.now with
   | [x1, x2, va, vb, vp, vq], _, hn, hG =>
    simp only [List.getElem?_cons_zero, List.getElem?_cons_succ, Option.some.injEq] at hn
    subst hn
    exact ⟨_, rfl, trivial, BxS.allocB k1 k2 hG⟩
  ·refine .inr ⟨4, rfl, h1, fun a w vs C hn => ?_⟩
   have e0 := C.link 2 ia dp rfl h2
   have e1 := C.link 0 ic dx rfl hx
   match vs, C.len, hn, e0, e1, C.now, C with
   | [x1, x2, va, vb, vp, vq], _, hn, e0, e1, hG, C =>
    simp only [List.getElem?_cons_zero, List.getElem?_cons_succ, Option.some.injEq] at hn e0 e1
    subst hn e0 e1
    have hG' : BxS w0 P1 P2 t1 z1 t2 z2 (some (a.tmps.getD dx undef)) x2 (some (a.tmps.getD dp undef)) vb none vq w := hG
    obtain ⟨S1, S2, _, _, p1, _, b1, _⟩ := hG'.wit
    obtain ⟨g, cs, h5, _, _, _, h6, h7, _⟩ := b1 _ rfl
    obtain rfl := h7 rfl
    refine Oper.wpIn_mono ?_ (wpIn_of (h3 a w g S1 (mk C) h5 h6 (p1 _ rfl)) (by rintro a' w' ⟨v, rfl, _⟩; exact put_defers _ _ _))
    rintro a' w' ⟨v, rfl, h7, h8⟩
    refine ⟨v, rfl, trivial, ?_⟩
    show BxS w0 P1 P2 t1 cs t2 z2 (some (a.tmps.getD dx undef)) x2 (some (a.tmps.getD dp undef)) vb (some v) vq w'
    rw [h5] at hG' ⊢
    exact BxS.storeA k1 k2 hG' h7 h8
  ·refine .inr ⟨5, rfl, h1, fun a w vs C hn => ?_⟩
   have e0 := C.link 3 ib dp rfl h2
   have e1 := C.link 1 id dx rfl hx
   match vs, C.len, hn, e0, e1, C.now, C with
   | [x1, x2, va, vb, vp, vq], _, hn, e0, e1, hG, C =>
    simp only [List.getElem?_cons_zero, List.getElem?_cons_succ, Option.some.injEq] at hn e0 e1
    subst hn e0 e1
    have hG' : BxS w0 P1 P2 t1 z1 t2 z2 x1 (some (a.tmps.getD dx undef)) va (some (a.tmps.getD dp undef)) vp none w := hG
    obtain ⟨S1, S2, _, _, _, p2, _, b2⟩ := hG'.wit
    obtain ⟨g, cs, h5, _, _, _, h6, h7, _⟩ := b2 _ rfl
    obtain rfl := h7 rfl
    refine Oper.wpIn_mono ?_ (wpIn_of (h3 a w g S2 (mk C) h5 h6 (p2 _ rfl)) (by rintro a' w' ⟨v, rfl, _⟩; exact put_defers _ _ _))
    rintro a' w' ⟨v, rfl, h7, h8⟩
    refine ⟨v, rfl, trivial, ?_⟩
    show BxS w0 P1 P2 t1 z1 t2 cs x1 (some (a.tmps.getD dx undef)) va (some (a.tmps.getD dp undef)) vp (some v) w'
    rw [h5] at hG' ⊢
    exact BxS.storeB k1 k2 hG' h7 h8
theorem WC.box2 {rid : Nat} {dr : Bool} {Q : Exit → Act → World → Prop} {n : Fr} {K : Known} {w : World} (P1 P2 : (Nat → Prop) → World → Value → Prop) (k1 : PKeep P1) (k2 : PKeep P2) (m1 : PMono P1) (m2 : PMono P2) (l : List (Bool × Value)) (K0 : Known) {t1 : Nat} {z1 : Array Value} {t2 : Nat} {z2 : Array Value} (ic id ia ib ip iq da db : Nat)
  (hd : ([ic, id, ia, ib, ip, iq]).Nodup) (hin : (([ic, id, ia, ib, ip, iq]).all fun c => Nat.blt c ops.size) = true) (hda : (ops[ia]?).bind (·.dst) = some da) (hdb : (ops[ib]?).bind (·.dst) = some db)
  (hs : subK K0 K) (hclear : clearB ops K0 = true) (hm : P.follows .mixedOrders = true) (hB : opsB ops n.n = true)
  (h : SoundX P ops Q l n K0 w P1 P2 t1 z1 t2 z2 ic id ia ib ip iq 0 ops.toList)
  (hQ : ∀ (a : Act) (w' : World) (g1 g2 : Nat) (v1 v2 : Value) (S1 S2 : Nat → Prop), Kn n K0 a → Below w.heap.size w w' → w.heap.size ≤ g1 → w.heap.size ≤ g2 → g1 ≠ g2 → Blk w' g1 t1 (vcells v1) → Blk w' g2 t2 (vcells v2) → P1 S1 w' v1 → P2 S2 w' v2 → (∀ b, S1 b → w.heap.size ≤ b ∧ b ≠ g1 ∧ b ≠ g2) → (∀ b, S2 b → w.heap.size ≤ b ∧ b ≠ g1 ∧ b ≠ g2) → a.tmps.getD da undef = .pointer (some ⟨g1, 0, none⟩) → a.tmps.getD db undef = .pointer (some ⟨g2, 0, none⟩) → (∀ i d, (ops[i]?).bind (·.dst) = some d → ([ic, id, ia, ib, ip, iq]).contains i = false → valR2 l i (a.tmps.getD d undef)) → Q .normal a w') :
  WC P n K w (.region rid ops dr) Q := by
 refine WC.gen [ic, id, ia, ib, ip, iq] (fun i v _ => valR2 l i v) (fun _ _ => True) (BxG w P1 P2 t1 z1 t2 z2) K0 hs hclear hm hB hd hin (fun _ _ _ _ h _ => h) ?_ (h.gen k1 k2 m1 m2) (fun a w' vs hk hlen hall hG hu hl => ?_)
 ·have st : ∀ w' : World, Below w.heap.size w w' → BxS w P1 P2 t1 z1 t2 z2 none none none none none none w' := fun w' hb => ⟨hb, ⟨fun _ => False, fun _ => False, fun _ h => h.elim, fun _ h => h.elim, fun v hv => (by cases hv), fun v hv => (by cases hv), fun v hv => (by cases hv), fun v hv => (by cases hv)⟩, fun v u hv => (by cases hv), fun _ => rfl, fun _ => rfl⟩
  cases dr with
  | true => exact st _ (Below.refl _ _).drew
  | false => exact st _ (Below.refl _ _)
 ·obtain ⟨v0, hv0⟩ := hall 0 (by simp)
  obtain ⟨v1, hv1⟩ := hall 1 (by simp)
  obtain ⟨v2, hv2⟩ := hall 2 (by simp)
  obtain ⟨v3, hv3⟩ := hall 3 (by simp)
  obtain ⟨v4, hv4⟩ := hall 4 (by simp)
  obtain ⟨v5, hv5⟩ := hall 5 (by simp)
  have ha := hl 2 ia da rfl hda
  have hb := hl 3 ib db rfl hdb
  match vs, hlen, hv0, hv1, hv2, hv3, hv4, hv5, hG, ha, hb with
  | [x1, x2, va, vb, vp, vq], _, hv0, hv1, hv2, hv3, hv4, hv5, hG, ha, hb =>
   simp only [List.getElem?_cons_zero, List.getElem?_cons_succ, Option.some.injEq] at hv0 hv1 hv2 hv3 hv4 hv5 ha hb
   subst hv0 hv1 hv4 hv5 ha hb
   have hG' : BxS w P1 P2 t1 z1 t2 z2 (some v0) (some v1) _ _ (some v4) (some v5) w' := hG
   obtain ⟨S1, S2, s1, s2, p1, p2, b1, b2⟩ := hG'.wit
   obtain ⟨g1, cs1, e1, h1, h2, h3, h4, _, h5⟩ := b1 _ rfl
   obtain ⟨g2, cs2, e2, r1, r2, r3, r4, _, r5⟩ := b2 _ rfl
   obtain ⟨y1, f1, rfl⟩ := h5 _ rfl
   obtain ⟨y2, f2, rfl⟩ := r5 _ rfl
   obtain rfl := Option.some.inj f1
   obtain rfl := Option.some.inj f2
   have hne := BxS.ne hG' _ _ rfl rfl
   rw [e1, e2] at hne
   simp only [ne_eq, Value.pointer.injEq, Option.some.injEq, Addr.mk.injEq, and_true] at hne
   exact hQ a w' g1 g2 v0 v1 S1 S2 hk (BxS.below hG') h1 r1 hne h4 r4 (p1 _ rfl) (p2 _ rfl) (fun b q => ⟨(s1 b q).1, fun e => h2 (e ▸ q), fun e => r2 (e ▸ q)⟩) (fun b q => ⟨(s2 b q).1, fun e => h3 (e ▸ q), fun e => r3 (e ▸ q)⟩) e1 e2 hu
end
end Go.Proofs.Ythhgidliopohcaa

/- What stands for a part: the program. -/
namespace Go.Proofs.Ythhgidliopohcaa
open Go.RowKit Go
set_option linter.unusedVariables false
set_option linter.unusedSimpArgs false
set_option maxRecDepth 100000 in
theorem ptop_pn (κ d : Nat → Nat) (U : List Nat) (N : List Pt) (V : Nat → Nat) (g : Nat) (S : Nat → Prop) (ub uc : Nat) (oa : Option Addr) (oc : Nat) (i : Nat) (w : World) (hP : PN w g S (some ⟨ub, 0, none⟩) uc oa oc U N V) (hR : Reps U κ d) (hi : i < N.length) (hn : N.length ≤ 1048576) :
  Calls Try.prog 25 #[.pointer (some ⟨g, 0, none⟩), .int .i64 (i : Int)] w (Ret fun v' w' => v' = .int .i64 ((κ i : Nat) : Int) ∧ (∃ U', Reps U' κ d ∧ PN w' g S (some ⟨ub, 0, none⟩) uc oa oc U' N V) ∧ Chg (fun b => b = ub) w w') := by
 have hub : obk (some ⟨ub, 0, none⟩) N.length uc = some ub := rfl
 have hUl := hP.len
 refine Calls.walk (l := [.pointer (some ⟨g, 0, none⟩), .int .i64 (((i : Nat) : Int))]) Try.func25 rfl (by kernel_rfl) ?_
 refine WC.sub (K' := [(0, .pointer (some ⟨g, 0, none⟩)), (1, .int .i64 (((i : Nat) : Int)))]) ⟨rfl, rfl, trivial⟩ ?_
 refine WC.seq (WC.region (WL.asg rfl rfl rfl rfl rfl (WL.nil (WE.next (WC.seq (WC.block ?_))))))
 refine WC.loop (X := List Nat × Nat) (fun x => d x.2) (fun x => [(0, .pointer (some ⟨g, 0, none⟩)), (1, .int .i64 (((x.2 : Nat) : Int))), (4, .int .i64 0)]) (fun x w1 => Reps x.1 κ d ∧ κ x.2 = κ i ∧ x.2 < N.length ∧ PN (w1) g S (some ⟨ub, 0, none⟩) uc oa oc x.1 N V ∧ Chg ((fun b => b = ub)) w w1) ((U, i)) ⟨rfl, rfl, rfl, trivial⟩ ?_ ?_
 ·have hs2 : Chg ((fun b => b = ub)) w w := (Chg.refl ((fun b => b = ub)) _)
  exact ⟨hR, rfl, hi, hP, hs2⟩
 ·rintro x w1 ⟨hRx, hkx, hil, ho3, hc4⟩
  have hxl := ho3.len
  obtain ⟨ha1, ha2, ha3, ha4⟩ := hRx.at_ x.2 (by omega)
  obtain ⟨hb1, hb2, hb3, hb4⟩ := hRx.at_ (aget x.1 x.2) (by omega)
  refine WC.seq (WC.seq (WC.region (WL.mv rfl rfl rfl rfl rfl ?_)))
  refine WL.val _ rfl rfl rfl (fun za zC zh zk => nilCheck_ rfl (zh.ev rfl) zk) ?_
  refine WL.val _ rfl rfl rfl (fun za zC zh zk => fld_51_0 rfl (zh.ev rfl) zk) ?_
  refine WL.val _ rfl rfl rfl (fun za zC zh zk => ld_48 rfl (zh.ev rfl) ho3.c0 zk) ?_
  refine WL.mv rfl rfl rfl rfl rfl ?_
  refine WL.val _ rfl rfl rfl (fun za zC zh zk => ix_48 (k := x.2) rfl (zh.ev rfl) rfl (zh.ev rfl) (by first | omega | (simp; omega)) zk) ?_
  refine WL.val _ rfl rfl rfl (fun za zC zh zk => ld_3 rfl (zh.ev rfl) (ho3.cu (by first | omega | (simp; omega))) zk) ?_
  refine WL.mv rfl rfl rfl rfl rfl ?_
  refine WL.val (.bool ((((((aget x.1 x.2) : Nat) : Int) : Int) != (((x.2 : Nat) : Int) : Int)))) rfl rfl rfl (fun za zC zh zk => neq_3 rfl (zh.ev rfl) (zh.ev rfl) zk) ?_
  refine WL.nil (WE.next ?_)
  refine WC.cond rfl (fun h5 => ?_) (fun h5 => ?_)
  ·have h5 : ((((aget x.1 x.2) : Nat) : Int) : Int) ≠ (((x.2 : Nat) : Int) : Int) := by simpa using h5
   have hne : aget x.1 x.2 ≠ x.2 := by omega
   have hd1 : d (aget x.1 x.2) < d x.2 := by omega
   have hd2 : d (aget x.1 (aget x.1 x.2)) < d x.2 := by rcases hb3 with q | q; (rw [q]; exact hd1); omega
   refine WC.skip (WE.next (WC.block (WC.seq ?_)))
   have hSlt : ∀ b, (fun b => b = ub) b → b < w1.heap.size := fun b e => e ▸ (ho3.lt ub (.inr (.inl hub)))
   refine WC.tail1 (S := ((fun b => b = ub))) [(true, .val (.pointer (some ⟨g, 0, none⟩))), (true, .val (.pointer (some ⟨g, 0, none⟩))), (true, .val (.pointer (some ⟨g, 0, none⟩))), (true, .val (.slice ((some ⟨ub, 0, none⟩)) N.length uc)), (true, .val (.int .i64 (((x.2 : Nat) : Int)))), (true, .val (.pointer (some ⟨g, 0, none⟩))), (true, .val (.pointer (some ⟨g, 0, none⟩))), (true, .val (.pointer (some ⟨g, 0, none⟩))), (true, .val (.slice ((some ⟨ub, 0, none⟩)) N.length uc)), (true, .val (.pointer (some ⟨g, 0, none⟩))), (true, .val (.pointer (some ⟨g, 0, none⟩))), (true, .val (.pointer (some ⟨g, 0, none⟩))), (true, .val (.slice ((some ⟨ub, 0, none⟩)) N.length uc)), (true, .val (.int .i64 (((x.2 : Nat) : Int)))), (true, .val (.pointer (some ⟨ub, 0 + x.2, none⟩))), (true, .val (.int .i64 ((((aget x.1 x.2) : Nat) : Int)))), (true, .val (.pointer (some ⟨ub, 0 + ((aget x.1 x.2)), none⟩))), (true, .val (.int .i64 ((((aget x.1 ((aget x.1 x.2))) : Nat) : Int)))), (true, .val (.pointer (some ⟨ub, 0 + x.2, none⟩))), (true, .val undef)] [(0, .pointer (some ⟨g, 0, none⟩)), (1, .int .i64 (((x.2 : Nat) : Int))), (4, .int .i64 0), (13, .bool ((((((aget x.1 x.2) : Nat) : Int) : Int) != (((x.2 : Nat) : Int) : Int))))] 19 (fun wz => PN wz g S (some ⟨ub, 0, none⟩) uc oa oc ((x.1.set x.2 (aget x.1 (aget x.1 x.2)))) N V) (fun w w' hb h => h.below hb) ⟨rfl, rfl, rfl, rfl, trivial⟩ (by kernel_rfl) (by kernel_rfl) (by kernel_rfl) (by kernel_rfl) ?_ ?_
   ·refine ⟨.inl ⟨rfl, true, .none rfl, (fun gg b h => by cases h), fun h w => optUndef h, fun zβ za zw zc => ?_⟩, ?_⟩
    ·exact wp_move rfl (zc.kn.ev rfl) ⟨_, rfl, Below.refl _ _, optDef zβ rfl⟩
    refine ⟨.inl ⟨rfl, true, .none rfl, (fun gg b h => by cases h), fun h w => optUndef h, fun zβ za zw zc => ?_⟩, ?_⟩
    ·exact nilCheck_ rfl ((evt za 14).trans (optSVal (zc.dep 0 14 (by kernel_rfl) (by decide)) rfl rfl)) ⟨_, rfl, Below.refl _ _, optDef zβ rfl⟩
    refine ⟨.inl ⟨rfl, true, .none rfl, (fun gg b h => by cases h), fun h w => optUndef h, fun zβ za zw zc => ?_⟩, ?_⟩
    ·exact fld_51_0 rfl ((evt za 15).trans (optSVal (zc.dep 1 15 (by kernel_rfl) (by decide)) rfl rfl)) ⟨_, rfl, Below.refl _ _, optDef zβ rfl⟩
    refine ⟨.inl ⟨rfl, true, .none rfl, (fun gg b h => by cases h), fun h w => optUndef h, fun zβ za zw zc => ?_⟩, ?_⟩
    ·exact ld_48 rfl ((evt za 16).trans (optSVal (zc.dep 2 16 (by kernel_rfl) (by decide)) rfl rfl)) (bkeeps (zc.early (by kernel_rfl)) _ _ ho3.c0) ⟨_, rfl, Below.refl _ _, optDef zβ rfl⟩
    refine ⟨.inl ⟨rfl, true, .none rfl, (fun gg b h => by cases h), fun h w => optUndef h, fun zβ za zw zc => ?_⟩, ?_⟩
    ·exact wp_move rfl (zc.kn.ev rfl) ⟨_, rfl, Below.refl _ _, optDef zβ rfl⟩
    refine ⟨.inl ⟨rfl, true, .none rfl, (fun gg b h => by cases h), fun h w => optUndef h, fun zβ za zw zc => ?_⟩, ?_⟩
    ·exact wp_move rfl (zc.kn.ev rfl) ⟨_, rfl, Below.refl _ _, optDef zβ rfl⟩
    refine ⟨.inl ⟨rfl, true, .none rfl, (fun gg b h => by cases h), fun h w => optUndef h, fun zβ za zw zc => ?_⟩, ?_⟩
    ·exact nilCheck_ rfl ((evt za 19).trans (optSVal (zc.dep 5 19 (by kernel_rfl) (by decide)) rfl rfl)) ⟨_, rfl, Below.refl _ _, optDef zβ rfl⟩
    refine ⟨.inl ⟨rfl, true, .none rfl, (fun gg b h => by cases h), fun h w => optUndef h, fun zβ za zw zc => ?_⟩, ?_⟩
    ·exact fld_51_0 rfl ((evt za 20).trans (optSVal (zc.dep 6 20 (by kernel_rfl) (by decide)) rfl rfl)) ⟨_, rfl, Below.refl _ _, optDef zβ rfl⟩
    refine ⟨.inl ⟨rfl, true, .none rfl, (fun gg b h => by cases h), fun h w => optUndef h, fun zβ za zw zc => ?_⟩, ?_⟩
    ·exact ld_48 rfl ((evt za 21).trans (optSVal (zc.dep 7 21 (by kernel_rfl) (by decide)) rfl rfl)) (bkeeps (zc.early (by kernel_rfl)) _ _ ho3.c0) ⟨_, rfl, Below.refl _ _, optDef zβ rfl⟩
    refine ⟨.inl ⟨rfl, true, .none rfl, (fun gg b h => by cases h), fun h w => optUndef h, fun zβ za zw zc => ?_⟩, ?_⟩
    ·exact wp_move rfl (zc.kn.ev rfl) ⟨_, rfl, Below.refl _ _, optDef zβ rfl⟩
    refine ⟨.inl ⟨rfl, true, .none rfl, (fun gg b h => by cases h), fun h w => optUndef h, fun zβ za zw zc => ?_⟩, ?_⟩
    ·exact nilCheck_ rfl ((evt za 23).trans (optSVal (zc.dep 9 23 (by kernel_rfl) (by decide)) rfl rfl)) ⟨_, rfl, Below.refl _ _, optDef zβ rfl⟩
    refine ⟨.inl ⟨rfl, true, .none rfl, (fun gg b h => by cases h), fun h w => optUndef h, fun zβ za zw zc => ?_⟩, ?_⟩
    ·exact fld_51_0 rfl ((evt za 24).trans (optSVal (zc.dep 10 24 (by kernel_rfl) (by decide)) rfl rfl)) ⟨_, rfl, Below.refl _ _, optDef zβ rfl⟩
    refine ⟨.inl ⟨rfl, true, .none rfl, (fun gg b h => by cases h), fun h w => optUndef h, fun zβ za zw zc => ?_⟩, ?_⟩
    ·exact ld_48 rfl ((evt za 25).trans (optSVal (zc.dep 11 25 (by kernel_rfl) (by decide)) rfl rfl)) (bkeeps (zc.early (by kernel_rfl)) _ _ ho3.c0) ⟨_, rfl, Below.refl _ _, optDef zβ rfl⟩
    refine ⟨.inl ⟨rfl, true, .none rfl, (fun gg b h => by cases h), fun h w => optUndef h, fun zβ za zw zc => ?_⟩, ?_⟩
    ·exact wp_move rfl (zc.kn.ev rfl) ⟨_, rfl, Below.refl _ _, optDef zβ rfl⟩
    refine ⟨.inl ⟨rfl, true, .none rfl, (fun gg b h => by cases h), fun h w => optUndef h, fun zβ za zw zc => ?_⟩, ?_⟩
    ·exact ix_48 (k := x.2) rfl ((evt za 26).trans (optSVal (zc.dep 12 26 (by kernel_rfl) (by decide)) rfl rfl)) rfl ((evt za 27).trans (optSVal (zc.dep 13 27 (by kernel_rfl) (by decide)) rfl rfl)) (by first | omega | (simp; omega)) ⟨_, rfl, Below.refl _ _, optDef zβ rfl⟩
    refine ⟨.inl ⟨rfl, true, .none rfl, (fun gg b h => by cases h), fun h w => optUndef h, fun zβ za zw zc => ?_⟩, ?_⟩
    ·exact ld_3 rfl ((evt za 28).trans (optSVal (zc.dep 14 28 (by kernel_rfl) (by decide)) rfl rfl)) (bkeeps (zc.early (by kernel_rfl)) _ _ (ho3.cu (by first | omega | (simp; omega)))) ⟨_, rfl, Below.refl _ _, optDef zβ rfl⟩
    refine ⟨.inl ⟨rfl, true, .none rfl, (fun gg b h => by cases h), fun h w => optUndef h, fun zβ za zw zc => ?_⟩, ?_⟩
    ·exact ix_48 (k := (aget x.1 x.2)) rfl ((evt za 22).trans (optSVal (zc.dep 8 22 (by kernel_rfl) (by decide)) rfl rfl)) rfl ((evt za 29).trans (optSVal (zc.dep 15 29 (by kernel_rfl) (by decide)) rfl rfl)) (by first | omega | (simp; omega)) ⟨_, rfl, Below.refl _ _, optDef zβ rfl⟩
    refine ⟨.inl ⟨rfl, true, .none rfl, (fun gg b h => by cases h), fun h w => optUndef h, fun zβ za zw zc => ?_⟩, ?_⟩
    ·exact ld_3 rfl ((evt za 30).trans (optSVal (zc.dep 16 30 (by kernel_rfl) (by decide)) rfl rfl)) (bkeeps (zc.early (by kernel_rfl)) _ _ (ho3.cu (by first | omega | (simp; omega)))) ⟨_, rfl, Below.refl _ _, optDef zβ rfl⟩
    refine ⟨.inl ⟨rfl, true, .none rfl, (fun gg b h => by cases h), fun h w => optUndef h, fun zβ za zw zc => ?_⟩, ?_⟩
    ·exact ix_48 (k := x.2) rfl ((evt za 17).trans (optSVal (zc.dep 3 17 (by kernel_rfl) (by decide)) rfl rfl)) rfl ((evt za 18).trans (optSVal (zc.dep 4 18 (by kernel_rfl) (by decide)) rfl rfl)) (by first | omega | (simp; omega)) ⟨_, rfl, Below.refl _ _, optDef zβ rfl⟩
    refine ⟨.inr ⟨rfl, rfl, fun za zw zc => ?_⟩, ?_⟩
    ·obtain ⟨⟨cs9, hB9, hs9⟩, hP9⟩ := PN.setU (v := aget x.1 (aget x.1 x.2)) (ho3.below zc.below) (show x.2 < N.length by omega)
     exact st_3 rfl ((evt za 32).trans (optSVal (zc.dep 18 32 (by kernel_rfl) (by decide)) rfl rfl)) ((evt za 31).trans (optSVal (zc.dep 17 31 (by kernel_rfl) (by decide)) rfl rfl)) hB9 hs9 (fun v => ⟨v, rfl, hP9, .ofUpd (Upd.at_ _ _ _ _) rfl⟩)
    exact trivial
   ·intro za w6 zh hG7 hc8 zu
    have hq9 := Chg.mono (S' := fun b => b = ub) hc8 (fun b e => e)
    clear zu
    refine WE.go zh ?_
    refine WE.next (WC.region (WL.mv rfl rfl rfl rfl rfl ?_))
    refine WL.val _ rfl rfl rfl (fun za zC zh zk => nilCheck_ rfl (zh.ev rfl) zk) ?_
    refine WL.val _ rfl rfl rfl (fun za zC zh zk => fld_51_0 rfl (zh.ev rfl) zk) ?_
    refine WL.val _ rfl rfl rfl (fun za zC zh zk => ld_48 rfl (zh.ev rfl) hG7.c0 zk) ?_
    refine WL.mv rfl rfl rfl rfl rfl ?_
    refine WL.val _ rfl rfl rfl (fun za zC zh zk => ix_48 (k := x.2) rfl (zh.ev rfl) rfl (zh.ev rfl) (by first | omega | (simp; omega)) zk) ?_
    refine WL.val _ rfl rfl rfl (fun za zC zh zk => ld_3 rfl (zh.ev rfl) (hG7.cu (by first | omega | (simp; omega))) zk) ?_
    refine WL.asg rfl rfl rfl rfl rfl (WL.nil (WE.blockNormal ?_))
    have hset : aget (x.1.set x.2 (aget x.1 (aget x.1 x.2))) x.2 = aget x.1 (aget x.1 x.2) := by rw [aget_set (by omega), if_pos rfl]
    refine WE.sub (K' := [(0, .pointer (some ⟨g, 0, none⟩)), (1, .int .i64 ((((aget x.1 (aget x.1 x.2)) : Nat) : Int))), (4, .int .i64 0), (13, .bool ((((((aget x.1 x.2) : Nat) : Int) : Int) != (((x.2 : Nat) : Int) : Int))))]) ⟨rfl, (by rw [hset]; rfl), rfl, rfl, trivial⟩ ?_
    refine WE.round ((x.1.set x.2 (aget x.1 (aget x.1 x.2)), aget x.1 (aget x.1 x.2))) ⟨rfl, rfl, rfl, trivial⟩ ?_ ?_
    ·have hs10 : Chg ((fun b => b = ub)) w w6 := (Chg.trans2 (Chg.trans2 (Chg.refl ((fun b => b = ub)) _) hc4 (fun i h1 h2 => by first | exact h2 | exact .inl ⟨h2, h1⟩ | exact .inl h2 | exact .inr h2 | exact .inr (.inl h2) | exact .inr (.inr h2) | ((try dsimp only at *); omega))) hq9 (fun i h1 h2 => by first | exact h2 | exact .inl ⟨h2, h1⟩ | exact .inl h2 | exact .inr h2 | exact .inr (.inl h2) | exact .inr (.inr h2) | ((try dsimp only at *); omega)))
     exact ⟨hRx.halve (by omega) hne, by (try dsimp only); rw [hb2, ha2]; exact hkx, by (try dsimp only); omega, hG7, hs10⟩
    ·(try dsimp only); omega
  ·have h5 : ¬ (((((aget x.1 x.2) : Nat) : Int) : Int) ≠ (((x.2 : Nat) : Int) : Int)) := by simpa using h5
   refine WC.exit (WE.thenExit (WE.thenExit (WE.blockIs rfl (WE.next (WC.seq (WC.region (WL.mv rfl rfl rfl rfl rfl (WL.asg rfl rfl rfl rfl rfl (WL.nil (WE.next (WC.ret (WE.ret1 rfl rfl ?_))))))))))))
   have hs11 : Chg ((fun b => b = ub)) w w1 := (Chg.trans2 (Chg.refl ((fun b => b = ub)) _) hc4 (fun i h1 h2 => by first | exact h2 | exact .inl ⟨h2, h1⟩ | exact .inl h2 | exact .inr h2 | exact .inr (.inl h2) | exact .inr (.inr h2) | ((try dsimp only at *); omega)))
   have he : aget x.1 x.2 = x.2 := by omega
   exact ⟨_, rfl, by rw [← hkx, ha4 he], ⟨x.1, hRx, ho3⟩, hs11⟩
theorem ptop_any (κ d : Nat → Nat) (U : List Nat) (N : List Pt) (V : Nat → Nat) (g : Nat) (Z : Nat → Prop) (i : Nat) (w : World) (h : NetX w g Z U N V) (hR : Reps U κ d) (hi : i < N.length) (hn : N.length ≤ 1048576) :
  Calls Try.prog 25 #[.pointer (some ⟨g, 0, none⟩), .int .i64 (i : Int)] w (Ret fun v' w' => v' = .int .i64 ((κ i : Nat) : Int) ∧ (∃ U', Reps U' κ d ∧ NetX w' g Z U' N V) ∧ Chg Z w w') := by
 obtain ⟨S, ua, uc, oa, oc, hP, hZ, hZl⟩ := h
 obtain ⟨ub, rfl, hub⟩ := hP.ub (by omega)
 refine (ptop_pn κ d U N V g S ub uc oa oc i w hP hR hi hn).mono (fun e w' ⟨v', e1, h1, ⟨U', h2, h3⟩, h4⟩ => ⟨v', e1, h1, ⟨U', h2, S, _, uc, oa, oc, h3, hZ, fun b q => Nat.lt_of_lt_of_le (hZl b q) h4.size⟩, h4.mono (fun b e => by rw [show b = ub from e]; exact hZ ub (.inr (.inl hub)))⟩)
end Go.Proofs.Ythhgidliopohcaa

/- Loops over functions, and functions that hand out one thing after the other. -/
namespace Go.Proofs.Ythhgidliopohcaa
open Go.RowKit Go
set_option linter.unusedVariables false
set_option linter.unusedSimpArgs false
section
variable {P : Program}
theorem wpIn_n {r : Option Nat} {n m : Nat} {c : Code} {Q : Exit → Act → World → Prop} {a : Act} {w : World} (h : c.wpIn (fen r) n P Q a w) : c.wpIn (fen r) m P Q a w := fun b k cs hro hb _ => h b k cs hro hb (fen_room _ _)
theorem callB_enters {F : FuncId} (hF : callB P F = true) (args : Array Value) (w : World) : (callFunc F args).run P w = .ok (.enter F args) w := by
  unfold callB at hF
  split at hF
  · rename_i fn hfn
    simp only [Bool.and_eq_true, Bool.not_eq_true'] at hF
    have hp : (Sem.run P program w) = .ok P w := rfl
    simp only [callFunc, Sem.run_bind, Sem.run_pure, Result.andThen_ok, hp, hfn, hF.1, hF.2, Bool.false_eq_true, if_false]
  · simp at hF
end
/-! ### Operations behind guards, one after the other -/
section
variable {P : Program} {n : Fr} {K K' : Known} {w : World} {ops : Array Oper} {o : Oper} {rest : List Oper} {Q : Exit → Act → World → Prop}
theorem wp_pickF {a : Act} {C : Act → World → Prop} {x y z : Operand} {v : Value} (ho : o.op = .pick x y z) (hx : a.eval x = .bool false) (hz : a.eval z = v) (hK : C (a.put o.dst v) w) : o.wp P a w C Q := by
  unfold Oper.wp execOp
  simp only [ho, hx, hz]
  exact hK
theorem WL.sub (hs : subK K' K) (h : WL P ops n K' w rest Q) : WL P ops n K w rest Q := fun a ha => h a (ha.sub hs)
theorem yielded_known {a : Act} {g d : Nat} {c : Bool} (ha : Kn n K a) (hd : (ops[g]?).bind (·.dst) = some d) (hk : look K d = some (.bool c)) : yielded ops a.tmps g = some c := by
  have := ha.knows d _ hk
  unfold yielded
  rw [hd]
  rcases Nat.lt_or_ge d a.tmps.size with h | h
  · simp only [Array.getD_eq_getD_getElem?, Array.getElem?_eq_getElem h, Option.getD_some] at this
    simp [h, this]
  · simp [Array.getD, Nat.not_lt.2 h, undef] at this
theorem WL.skip {g d : Nat} {b c : Bool} (hg : o.guard = some (g, b)) (hd : (ops[g]?).bind (·.dst) = some d) (hk : look K d = some (.bool c)) (hne : (c == b) = false) (hlt : dstB n.n o.dst = true) (h : WL P ops n (putK K o.dst undef) w rest Q) : WL P ops n K w (o :: rest) Q := fun a ha => by
  unfold wpListIn
  have e1 : Region.wanted o (yielded ops a.tmps) = false := by unfold Region.wanted; rw [hg]; simp only [yielded_known ha hd hk]; simpa using hne
  rw [if_neg (by rw [e1]; decide)]
  exact ⟨fun f _ => fen_fn _ f, h _ (ha.puts hlt undef)⟩
end
section
variable {P : Program} {n : Fr} {K : Known} {w : World} {ops : Array Oper} {o : Oper} {rest : List Oper} {Q : Exit → Act → World → Prop}
end
/-- What is no cells may have been turned, from the block 'B' on. -/
structure Turn (B : Nat) (w w' : World) : Prop where
  os : w'.os = w.os
  tape : w'.tape = w.tape
  output : w'.output = w.output
  size : w.heap.size ≤ w'.heap.size
  block : ∀ (k : Nat) (o : Obj), w.heap[k]? = some o → (o.isCells = true ∨ k < B) → w'.heap[k]? = some o
theorem Turn.of {B : Nat} {w w' : World} {row : Option Nat} (h : w.grownBy w' row) (hr : ∀ r, row = some r → B ≤ r ∧ ∃ o : Obj, w.heap[r]? = some o ∧ o.isCells = false) : Turn B w w' :=
  ⟨h.os, h.tape, h.output, h.size, fun k o hk ho => (h.block k (Array.getElem?_eq_some_iff.1 hk).1 (fun e => by
    obtain ⟨h1, o', h2, h3⟩ := hr k e.symm
    rw [hk] at h2; obtain rfl := Option.some.inj h2
    rcases ho with ho | ho
    · rw [h3] at ho; cases ho
    · omega)).trans hk⟩
/-- A walk through what a loop's round does keeps what is no cells. -/
theorem keepsFrom_below {B : Nat} {w w' : World} (h : Below w.heap.size w w') : KeepsFrom B w w' :=
  ⟨h.size, fun k o _ hk _ => (h.block k (Array.getElem?_eq_some_iff.1 hk).1).trans hk⟩
abbrev markOf (D : Nat) : Deferred := { target := .collected D, args := #[] }
/-! ### Leaving behind such loops -/
/-- The mark of such a loop. -/
def Mk (w : World) (D : Nat) : Prop := w.heap[D]? = some (.deferred (some []))
theorem Mk.lt {w : World} {D : Nat} (h : Mk w D) : D < w.heap.size := (Array.getElem?_eq_some_iff.1 h).1
theorem Mk.below {w w' : World} {D : Nat} (h : Mk w D) (hb : Below w.heap.size w w') : Mk w' D := (hb.block D h.lt).trans h
theorem Mk.upd {w w' : World} {D g : Nat} (h : Mk w D) (hu : Upd g w w') (hg : D ≠ g) : Mk w' D := (hu.block D hg).trans h
theorem Mk.chg {w w' : World} {D : Nat} {S : Nat → Prop} (h : Mk w D) (hc : Chg S w w') (hg : ¬ S D) : Mk w' D := (hc.block D h.lt hg).trans h
section
variable {P : Program} {N : Nat} {r : Option Nat} {ds : List Deferred} {K : Known} {w w' : World} {fn : Func} {R : Ending → World → Prop}
end
section
variable {P : Program} {N : Nat} {ds : List Deferred}
theorem Kn.sets {K : Known} {a : Act} (h : Kn ⟨N, ds, none⟩ K a) : ∀ {ps : List Nat} {vs : List Value}, (ps.all fun p => Nat.blt p N) = true → Kn ⟨N, ds, none⟩ ((ps.zip vs).foldl (fun K p => (p.1, p.2) :: K) K) ⟨(ps.zip vs).foldl (fun t p => t.setIfInBounds p.1 p.2) a.tmps, a.defers⟩ := by
  intro ps
  induction ps generalizing K a with
  | nil => intro vs _; exact h
  | cons p r ih =>
    intro vs hp
    cases vs with
    | nil => exact h
    | cons v vs =>
      simp only [List.all_cons, Bool.and_eq_true] at hp
      exact ih (a := a.put (some p) v) (h.put hp.1 v) hp.2
/-- The law of a loop over a function: of 'x' it hands out 'encs x' into the slots 'ps'; a round changes blocks of 'S' alone. -/
theorem WC.range {α γ : Type} {g : Operand} {ps : List Nat} {assign body : Code} {Q : Exit → Act → World → Prop} {K : Known} {w : World} (S : Nat → Prop) {gf : Nat} {lb : Array Value} (hg : ev K g = some (.func (.func gf) #[] lb)) (hF : callB P gf = true) (hp : (ps.all fun p => Nat.blt p N) = true)
    {encs : α → List Value} {Sx Sp : List α → Prop} {M : Nat} {w0 : World} (hseq : SeqStopsK Fence.wide 0 P gf lb (fun x => (encs x).toArray) (Chg S) Sx Sp M w0)
    (hS : ∀ l, w.heap.size ≤ l → S l) (hb0 : Below w0.heap.size w0 w) (hps : ∀ x, (encs x).length = ps.length)
    (KB : α → γ → Known) (AW : α → γ → World → Prop) (I : List α → World → Prop) (Ix : Code → List α → World → Prop) (hI : ∀ s W W', Turn w.heap.size W W' → I s W → I s W') (hIx : ∀ c s W W', Turn w.heap.size W W' → Ix c s W → Ix c s W')
    (hAW : ∀ x y W W', Turn w.heap.size W W' → AW x y W → AW x y W') (h0 : I [] w)
    (hassign : ∀ (l : Nat) (pre : List α) (x : α) (W : World), I pre W → WC P ⟨N, [], some l⟩ ((ps.zip (encs x)).foldl (fun K p => (p.1, p.2) :: K) K) W assign (Exit.then (fun a' W' => Below W.heap.size W W' ∧ ∃ y, Kn ⟨N, [], some l⟩ (KB x y) a' ∧ AW x y W') (fun _ _ _ => False)))
    (hbody : ∀ (l : Nat) (pre : List α) (x : α) (y : γ) (W : World), I pre W → AW x y W → pre.length < M → WC P ⟨N, [], some l⟩ (KB x y) W body (ownPostG w.heap.size (Chg S) I Ix (pre ++ [x]) W))
    (hdone : ∀ (D : Nat) (xs : List α) (W : World), w.heap.size ≤ D → Sx xs → I xs W → Mk W D → WE ⟨N, markOf D :: ds, none⟩ K W Q .normal)
    (hstop : ∀ (D : Nat) (c : Code) (pre : List α) (W : World), w.heap.size ≤ D → Sp pre → Ix c pre W → Mk W D → WC P ⟨N, markOf D :: ds, none⟩ K W c Q) :
    WC P ⟨N, ds, none⟩ K w (.rangeFunc g ps.toArray assign body) Q := by
  intro a ha
  have turn : ∀ {W W' : World} {row : Option Nat}, W.grownBy W' row → (∀ r, row = some r → w.heap.size ≤ r ∧ ∃ o : Obj, W.heap[r]? = some o ∧ o.isCells = false) → Turn w.heap.size W W' := fun h hr => Turn.of h hr
  refine wpIn_n (r := none) (n := 1) (wpIn_rangeFunc_ownH (F := Fence.wide) (n := 1) rfl (Nat.le_refl _) (ha.ev hg) trivial (callB_enters hF) (encs := fun x => (encs x).toArray) hseq (fun h k => h.trans k) (fun W l o o' hl h _ _ => ?_) hb0 (fun x => by simpa using hps x)
    I Ix (fun s W W' row h hg hr => hI s W W' (turn hg hr) h) (fun c s W W' row h hg hr => hIx c s W W' (turn hg hr) h) h0 (fun x a' W => ∃ y, Kn ⟨N, [], none⟩ (KB x y) a' ∧ AW x y W) (fun x a' s W W' row h hg hr => by
      obtain ⟨y, h1, h2⟩ := h
      exact ⟨y, h1, hAW x y W W' (turn hg hr) h2⟩) ?_ ?_ ?_ ?_)
  · have hg := grownBy_putObj' W l o'
    exact ⟨hg.os, hg.tape, hg.output, hg.size, fun k hk hn => hg.block k hk (fun e => hn (by rw [Option.some.inj e]; exact hS l hl))⟩
  · intro l pre x W C hi hC
    have ha' : Kn ⟨N, [], some l⟩ ((ps.zip (encs x)).foldl (fun K p => (p.1, p.2) :: K) K) ⟨(ps.zip (encs x)).foldl (fun t p => t.setIfInBounds p.1 p.2) a.tmps, []⟩ := by
      have h1 : Kn ⟨N, [], none⟩ K ⟨a.tmps, []⟩ := ⟨ha.size, rfl, ha.knows⟩
      have h2 := h1.sets (vs := encs x) hp
      exact ⟨h2.size, rfl, h2.knows⟩
    have e : ((ps.toArray.zip (encs x).toArray).foldl (fun t (p, v) => t.setIfInBounds p v) a.tmps) = (ps.zip (encs x)).foldl (fun t p => t.setIfInBounds p.1 p.2) a.tmps := by simp
    rw [e]
    refine wpIn_mono (hassign l pre x W hi _ ha') ?_
    intro e a1 W1 h
    cases e with
    | normal =>
      obtain ⟨hb, y, hk, hA⟩ := h
      exact hC a1 W1 (keepsFrom_below hb) (.ofBelow hb) (hI _ _ _ ⟨hb.os, hb.tape, hb.output, hb.size, fun k o hk _ => (hb.block k (Array.getElem?_eq_some_iff.1 hk).1).trans hk⟩ hi) ⟨y, ⟨hk.size, hk.defers, hk.knows⟩, hA⟩
    | _ => exact h
  · rintro l pre x a' W _ _ hi ⟨y, hk, hA⟩ hlen
    exact hbody l pre x y W hi hA hlen a' ⟨hk.size, hk.defers, hk.knows⟩
  · intro D xs W hD hs hi hw
    exact hdone D xs W hD hs hi hw _ ⟨ha.size, by rw [ha.defers], ha.knows⟩
  · intro D c pre W hD hs hi hw
    exact wpIn_n (r := none) (hstop D c pre W hD hs hi hw _ ⟨ha.size, by rw [ha.defers], ha.knows⟩)
end
/-! ### The other side: a function that hands out -/
/-- What has been handed out, as the loop knows it. -/
structure Had {β : Type} (B : Nat) (J : List β → World → Prop) (pre : List β) (w : World) : Prop where
  abide : AbidesFrom B J
  now : J pre w
theorem grown_of_below {w w' : World} (h : Below w.heap.size w w') : w.grownBy w' none := ⟨h.os, h.tape, h.output, h.size, fun k hk _ => h.block k hk⟩
theorem Had.below {β : Type} {B : Nat} {J : List β → World → Prop} {pre : List β} {w w' : World} (h : Had B J pre w) (hb : Below w.heap.size w w') : Had B J pre w' :=
  ⟨h.abide, h.abide pre w w' none h.now (grown_of_below hb) (fun r e => by cases e)⟩
section
variable {P : Program} {w : World} {a : Act} {Q : Exit → Act → World → Prop} {o : Oper}
end
end Go.Proofs.Ythhgidliopohcaa

namespace Go.Proofs.Ythhgidliopohcaa
open Go.RowKit Go
set_option linter.unusedVariables false
set_option linter.unusedSimpArgs false
/-- What is cells, outside 'S', stays; so does all below 'B', outside 'S'. -/
structure Kpt (S : Nat → Prop) (B : Nat) (w w' : World) : Prop where
  os : w'.os = w.os
  tape : w'.tape = w.tape
  output : w'.output = w.output
  size : w.heap.size ≤ w'.heap.size
  block : ∀ (k : Nat) (o : Obj), w.heap[k]? = some o → (o.isCells = true ∨ k < B) → ¬ S k → w'.heap[k]? = some o
theorem Chg.toBelow {w w' : World} (h : Chg (fun b => b < 0) w w') : Below w.heap.size w w' := ⟨h.os, h.tape, h.output, h.size, fun k hk => h.block k hk (fun q => by omega)⟩
section
variable {S : Nat → Prop} {B : Nat} {w w' w'' : World}
theorem Kpt.refl : Kpt S B w w := ⟨rfl, rfl, rfl, Nat.le_refl _, fun _ _ h _ _ => h⟩
theorem Kpt.trans (h : Kpt S B w w') (k : Kpt S B w' w'') : Kpt S B w w'' :=
  ⟨k.os.trans h.os, k.tape.trans h.tape, k.output.trans h.output, Nat.le_trans h.size k.size, fun i o hi ho hS => k.block i o (h.block i o hi ho hS) ho hS⟩
theorem Kpt.ofChg (h : Chg S w w') : Kpt S B w w' := ⟨h.os, h.tape, h.output, h.size, fun k o hk _ hS => (h.block k (Array.getElem?_eq_some_iff.1 hk).1 hS).trans hk⟩
theorem Kpt.ofBelow (h : Below w.heap.size w w') : Kpt S B w w' := Kpt.ofChg (.ofBelow h)
theorem Kpt.put {l : Nat} {o o' : Obj} (hl : B ≤ l) (h : w.heap[l]? = some o) (ho : o.isCells = false) : Kpt S B w (w.putObj l o') := by
  have hg := grownBy_putObj' w l o'
  refine ⟨hg.os, hg.tape, hg.output, hg.size, fun k u hk hu hS => (hg.block k (Array.getElem?_eq_some_iff.1 hk).1 (fun e => ?_)).trans hk⟩
  obtain rfl : k = l := Option.some.inj e
  rw [h] at hk; obtain rfl := Option.some.inj hk
  rcases hu with hu | hu
  · rw [ho] at hu; cases hu
  · omega
theorem Kpt.blk {b : Nat} {t : TypeId} {cs : Array Value} (k : Kpt S B w w') (h : Blk w b t cs) (hS : ¬ S b) : Blk w' b t cs := k.block b _ h (.inl rfl) hS
theorem Kpt.below {w0 : World} (k : Kpt S B w w') (h : Below w0.heap.size w0 w) (hB : w0.heap.size ≤ B) (hS : ∀ b, b < w0.heap.size → ¬ S b) : Below w0.heap.size w0 w' :=
  ⟨k.os.trans h.os, k.tape.trans h.tape, k.output.trans h.output, Nat.le_trans h.size k.size, fun i hi => by
    have := h.block i hi
    rw [Array.getElem?_eq_getElem hi] at this ⊢
    exact k.block i _ this (.inr (by omega)) (hS i hi)⟩
theorem Kpt.cell {p : Addr} {v : Value} (k : Kpt S B w w') (hS : ¬ S p.block) (h : w.cell? p = some v) : w'.cell? p = some v := by
  have hlt := World.block_lt_of_cell? _ _ h
  have hh := h
  unfold World.cell? at h ⊢
  rw [Array.getElem?_eq_getElem hlt] at h
  have hc : (w.heap[p.block]).isCells = true := by
    cases hx : w.heap[p.block] with
    | cells a b c => rfl
    | _ => simp [hx] at h
  rw [k.block p.block _ (Array.getElem?_eq_getElem hlt) (.inl hc) hS]
  exact h
end
section
variable {P : Program} {N : Nat} {ds : List Deferred}
end
structure Marks (B : Nat) (w : World) (l : List Nat) : Prop where
  nodup : l.Nodup
  at_ : ∀ D, D ∈ l → B ≤ D ∧ Mk w D
section
variable {B : Nat} {w w' : World} {l : List Nat}
theorem Marks.nil : Marks B w [] := ⟨List.nodup_nil, fun D h => by simp at h⟩
theorem Marks.base (h : Marks B w l) {D : Nat} (hD : D ∈ l) : B ≤ D := (h.at_ D hD).1
theorem Marks.lt (h : Marks B w l) {D : Nat} (hD : D ∈ l) : D < w.heap.size := (h.at_ D hD).2.lt
theorem Marks.below (h : Marks B w l) (hb : Below w.heap.size w w') : Marks B w' l := ⟨h.nodup, fun D hD => ⟨h.base hD, (h.at_ D hD).2.below hb⟩⟩
theorem Marks.upd {g : Nat} (h : Marks B w l) (hu : Upd g w w') (hg : ∃ o : Obj, w.heap[g]? = some o ∧ o.isCells = true) : Marks B w' l := ⟨h.nodup, fun D hD => ⟨h.base hD, (h.at_ D hD).2.upd hu (fun e => by
  obtain ⟨o, h1, h2⟩ := hg
  have h3 := (h.at_ D hD).2
  subst e
  unfold Mk at h3
  rw [h1] at h3
  obtain rfl := Option.some.inj h3
  cases h2)⟩⟩
theorem Marks.chg {S : Nat → Prop} (h : Marks B w l) (hc : Chg S w w') (hS : ∀ D, D ∈ l → ¬ S D) : Marks B w' l := ⟨h.nodup, fun D hD => ⟨h.base hD, (h.at_ D hD).2.chg hc (hS D hD)⟩⟩
theorem Marks.turn {Bt : Nat} (h : Marks B w l) (t : Turn Bt w w') (hl : ∀ D, D ∈ l → D < Bt) : Marks B w' l := ⟨h.nodup, fun D hD => ⟨h.base hD, t.block D _ (h.at_ D hD).2 (.inr (hl D hD))⟩⟩
theorem Marks.cons {D : Nat} (h : Marks B w l) (hw : Mk w D) (hB : B ≤ D) (hn : ∀ D', D' ∈ l → D' < D) : Marks B w (D :: l) :=
  ⟨List.nodup_cons.2 ⟨fun q => Nat.lt_irrefl _ (hn D q), h.nodup⟩, fun D' hD' => by
    rcases List.mem_cons.1 hD' with rfl | q
    · exact ⟨hB, hw⟩
    · exact h.at_ D' q⟩
end
section
variable {P : Program} {n : Fr} {K : Known} {w : World} {c : Code} {Q : Exit → Act → World → Prop}
end
end Go.Proofs.Ythhgidliopohcaa
