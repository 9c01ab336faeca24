/- The order of Knuth and Bendix over a signature: an order, above subterms, stable, monotone, total on ground terms. -/
import Derived.Test.YtlkiabgpnboicaaMgh
import Derived.Test.YtlkiabgpnboicaaMgg
import Derived.Test.YtlkiabgpnboicaaMga
import Derived.WalkKit
import Derived.Test.YtlkiabgpnboicaaMgb

/- Operations of regions, one law per kind and type. -/
namespace Go.Proofs.Ytlkiabgpnboicaa
open Go.RowKit Go

section
variable {w : World} {a : Act} {K : Act → World → Prop} {Q : Exit → Act → World → Prop} {o : Oper}
theorem wp_fld_apiOrder_0 {x : Operand} {b p : Nat} (ho : o.op = .fieldAddr 24 x 0) (hx : a.eval x = .pointer (some ⟨b, p, none⟩)) (hK : K (a.put o.dst (.pointer (some ⟨b, p, none⟩))) w) : o.wp Try.prog a w K Q := by
  unfold Oper.wp execOp
  simp only [ho, hx]
  go_simp
  exact hK
theorem wp_fld_apiOrder_1 {x : Operand} {b p : Nat} (ho : o.op = .fieldAddr 24 x 1) (hx : a.eval x = .pointer (some ⟨b, p, none⟩)) (hK : K (a.put o.dst (.pointer (some ⟨b, p + 1, none⟩))) w) : o.wp Try.prog a w K Q := by
  unfold Oper.wp execOp
  simp only [ho, hx]
  go_simp
  exact hK
theorem wp_fld_apiOrder_2 {x : Operand} {b p : Nat} (ho : o.op = .fieldAddr 24 x 2) (hx : a.eval x = .pointer (some ⟨b, p, none⟩)) (hK : K (a.put o.dst (.pointer (some ⟨b, p + 2, none⟩))) w) : o.wp Try.prog a w K Q := by
  unfold Oper.wp execOp
  simp only [ho, hx]
  go_simp
  exact hK
theorem wp_fld_apiOrder_3 {x : Operand} {b p : Nat} (ho : o.op = .fieldAddr 24 x 3) (hx : a.eval x = .pointer (some ⟨b, p, none⟩)) (hK : K (a.put o.dst (.pointer (some ⟨b, p + 3, none⟩))) w) : o.wp Try.prog a w K Q := by
  unfold Oper.wp execOp
  simp only [ho, hx]
  go_simp
  exact hK
theorem wp_fld_apiSig_0 {x : Operand} {b p : Nat} (ho : o.op = .fieldAddr 35 x 0) (hx : a.eval x = .pointer (some ⟨b, p, none⟩)) (hK : K (a.put o.dst (.pointer (some ⟨b, p, none⟩))) w) : o.wp Try.prog a w K Q := by
  unfold Oper.wp execOp
  simp only [ho, hx]
  go_simp
  exact hK
theorem wp_fld_apiSym_0 {x : Operand} {b p : Nat} (ho : o.op = .fieldAddr 79 x 0) (hx : a.eval x = .pointer (some ⟨b, p, none⟩)) (hK : K (a.put o.dst (.pointer (some ⟨b, p, none⟩))) w) : o.wp Try.prog a w K Q := by
  unfold Oper.wp execOp
  simp only [ho, hx]
  go_simp
  exact hK
theorem wp_fld_apiSym_1 {x : Operand} {b p : Nat} (ho : o.op = .fieldAddr 79 x 1) (hx : a.eval x = .pointer (some ⟨b, p, none⟩)) (hK : K (a.put o.dst (.pointer (some ⟨b, p + 1, none⟩))) w) : o.wp Try.prog a w K Q := by
  unfold Oper.wp execOp
  simp only [ho, hx]
  go_simp
  exact hK
theorem wp_fld_apiSym_2 {x : Operand} {b p : Nat} (ho : o.op = .fieldAddr 79 x 2) (hx : a.eval x = .pointer (some ⟨b, p, none⟩)) (hK : K (a.put o.dst (.pointer (some ⟨b, p + 2, none⟩))) w) : o.wp Try.prog a w K Q := by
  unfold Oper.wp execOp
  simp only [ho, hx]
  go_simp
  exact hK
theorem wp_fld_apiTerm_0 {x : Operand} {b p : Nat} (ho : o.op = .fieldAddr 27 x 0) (hx : a.eval x = .pointer (some ⟨b, p, none⟩)) (hK : K (a.put o.dst (.pointer (some ⟨b, p, none⟩))) w) : o.wp Try.prog a w K Q := by
  unfold Oper.wp execOp
  simp only [ho, hx]
  go_simp
  exact hK
theorem wp_fld_apiTerm_1 {x : Operand} {b p : Nat} (ho : o.op = .fieldAddr 27 x 1) (hx : a.eval x = .pointer (some ⟨b, p, none⟩)) (hK : K (a.put o.dst (.pointer (some ⟨b, p + 1, none⟩))) w) : o.wp Try.prog a w K Q := by
  unfold Oper.wp execOp
  simp only [ho, hx]
  go_simp
  exact hK
theorem wp_ld_bool {x : Operand} {p : Addr} {v : Value} (ho : o.op = .load 4 x) (hx : a.eval x = .pointer (some p)) (hc : w.cell? p = some v) (hK : K (a.put o.dst (v)) w) : o.wp Try.prog a w K Q := by
  unfold Oper.wp execOp
  simp only [ho, hx]
  go_simp
  exact hK
theorem wp_ld_int {x : Operand} {p : Addr} {v : Value} (ho : o.op = .load 3 x) (hx : a.eval x = .pointer (some p)) (hc : w.cell? p = some v) (hK : K (a.put o.dst (v)) w) : o.wp Try.prog a w K Q := by
  unfold Oper.wp execOp
  simp only [ho, hx]
  go_simp
  exact hK
theorem wp_ld_string {x : Operand} {p : Addr} {v : Value} (ho : o.op = .load 9 x) (hx : a.eval x = .pointer (some p)) (hc : w.cell? p = some v) (hK : K (a.put o.dst (v)) w) : o.wp Try.prog a w K Q := by
  unfold Oper.wp execOp
  simp only [ho, hx]
  go_simp
  exact hK
theorem wp_ld_Lint {x : Operand} {p : Addr} {v : Value} (ho : o.op = .load 22 x) (hx : a.eval x = .pointer (some p)) (hc : w.cell? p = some v) (hK : K (a.put o.dst (v)) w) : o.wp Try.prog a w K Q := by
  unfold Oper.wp execOp
  simp only [ho, hx]
  go_simp
  exact hK
theorem wp_ld_LapiTerm {x : Operand} {p : Addr} {v : Value} (ho : o.op = .load 25 x) (hx : a.eval x = .pointer (some p)) (hc : w.cell? p = some v) (hK : K (a.put o.dst (v)) w) : o.wp Try.prog a w K Q := by
  unfold Oper.wp execOp
  simp only [ho, hx]
  go_simp
  exact hK
theorem wp_ld_LapiSym {x : Operand} {p : Addr} {v : Value} (ho : o.op = .load 33 x) (hx : a.eval x = .pointer (some p)) (hc : w.cell? p = some v) (hK : K (a.put o.dst (v)) w) : o.wp Try.prog a w K Q := by
  unfold Oper.wp execOp
  simp only [ho, hx]
  go_simp
  exact hK
theorem wp_ld_apiPos {x : Operand} {p : Addr} {v : Value} (ho : o.op = .load 42 x) (hx : a.eval x = .pointer (some p)) (hc : w.cell? p = some v) (hK : K (a.put o.dst (v)) w) : o.wp Try.prog a w K Q := by
  unfold Oper.wp execOp
  simp only [ho, hx]
  go_simp
  exact hK
theorem wp_ld_apiTerm {x : Operand} {b p : Nat} {u v : Value} (ho : o.op = .load 27 x) (hx : a.eval x = .pointer (some ⟨b, p, none⟩)) (hc : w.cell? ⟨b, p, none⟩ = some u) (hc1 : w.cell? ⟨b, p + 1, none⟩ = some v) (hK : K (a.put o.dst (.agg #[u, v])) w) : o.wp Try.prog a w K Q := by
  unfold Oper.wp execOp
  simp only [ho, hx]
  go_simp
  exact hK
theorem wp_ld_apiOrder {x : Operand} {b p : Nat} {u v q r : Value} (ho : o.op = .load 24 x) (hx : a.eval x = .pointer (some ⟨b, p, none⟩)) (hc : w.cell? ⟨b, p, none⟩ = some u) (hc1 : w.cell? ⟨b, p + 1, none⟩ = some v) (hc2 : w.cell? ⟨b, p + 2, none⟩ = some q) (hc3 : w.cell? ⟨b, p + 3, none⟩ = some r) (hK : K (a.put o.dst (.agg #[u, v, q, r])) w) : o.wp Try.prog a w K Q := by
  unfold Oper.wp execOp
  simp only [ho, hx]
  go_simp
  exact hK
theorem wp_ld_apiSig {x : Operand} {b p : Nat} {u : Value} (ho : o.op = .load 35 x) (hx : a.eval x = .pointer (some ⟨b, p, none⟩)) (hc : w.cell? ⟨b, p, none⟩ = some u) (hK : K (a.put o.dst (.agg #[u])) w) : o.wp Try.prog a w K Q := by
  unfold Oper.wp execOp
  simp only [ho, hx]
  go_simp
  exact hK
theorem wp_len_Lint {x : Operand} {r : Option Addr} {n c : Nat} (ho : o.op = .call { callee := .builtin .len, args := #[x], argTypes := #[22] }) (hx : a.eval x = .slice r n c) (hK : K (a.put o.dst (.int .i64 n)) w) : o.wp Try.prog a w K Q := by
  unfold Oper.wp execOp
  simp only [ho, resolve, List.map_toArray, List.map_cons, List.map_nil, hx]
  go_simp
  exact hK
theorem wp_len_LapiTerm {x : Operand} {r : Option Addr} {n c : Nat} (ho : o.op = .call { callee := .builtin .len, args := #[x], argTypes := #[25] }) (hx : a.eval x = .slice r n c) (hK : K (a.put o.dst (.int .i64 n)) w) : o.wp Try.prog a w K Q := by
  unfold Oper.wp execOp
  simp only [ho, resolve, List.map_toArray, List.map_cons, List.map_nil, hx]
  go_simp
  exact hK
theorem wp_len_LapiSym {x : Operand} {r : Option Addr} {n c : Nat} (ho : o.op = .call { callee := .builtin .len, args := #[x], argTypes := #[33] }) (hx : a.eval x = .slice r n c) (hK : K (a.put o.dst (.int .i64 n)) w) : o.wp Try.prog a w K Q := by
  unfold Oper.wp execOp
  simp only [ho, resolve, List.map_toArray, List.map_cons, List.map_nil, hx]
  go_simp
  exact hK
theorem wp_len_apiPos {x : Operand} {r : Option Addr} {n c : Nat} (ho : o.op = .call { callee := .builtin .len, args := #[x], argTypes := #[42] }) (hx : a.eval x = .slice r n c) (hK : K (a.put o.dst (.int .i64 n)) w) : o.wp Try.prog a w K Q := by
  unfold Oper.wp execOp
  simp only [ho, resolve, List.map_toArray, List.map_cons, List.map_nil, hx]
  go_simp
  exact hK
theorem wp_ix_Lint {x y : Operand} {b p n c k : Nat} (ho : o.op = .indexAddr 22 x y) (hx : a.eval x = .slice (some ⟨b, p, none⟩) n c) (hy : a.eval y = .int .i64 k) (hk : k < n) (hK : K (a.put o.dst (.pointer (some ⟨b, p + k, none⟩))) w) : o.wp Try.prog a w K Q := by
  have h0 : (0 : Int) ≤ (k : Int) := by omega
  have h1 : (k : Int) < (n : Int) := by omega
  unfold Oper.wp execOp
  simp only [ho, hx, hy]
  go_simp
  exact hK
theorem wp_ix0_Lint {x y : Operand} {b p n c : Nat} (ho : o.op = .indexAddr 22 x y) (hx : a.eval x = .slice (some ⟨b, p, none⟩) n c) (hy : a.eval y = .int .i64 0) (hk : 0 < n) (hK : K (a.put o.dst (.pointer (some ⟨b, p, none⟩))) w) : o.wp Try.prog a w K Q := by
  have h1 : (0 : Int) < (n : Int) := by omega
  unfold Oper.wp execOp
  simp only [ho, hx, hy]
  go_simp
  exact hK
theorem wp_ix_LapiTerm {x y : Operand} {b p n c k : Nat} (ho : o.op = .indexAddr 25 x y) (hx : a.eval x = .slice (some ⟨b, p, none⟩) n c) (hy : a.eval y = .int .i64 k) (hk : k < n) (hK : K (a.put o.dst (.pointer (some ⟨b, p + k * 2, none⟩))) w) : o.wp Try.prog a w K Q := by
  have h0 : (0 : Int) ≤ (k : Int) := by omega
  have h1 : (k : Int) < (n : Int) := by omega
  unfold Oper.wp execOp
  simp only [ho, hx, hy]
  go_simp
  exact hK
theorem wp_ix0_LapiTerm {x y : Operand} {b p n c : Nat} (ho : o.op = .indexAddr 25 x y) (hx : a.eval x = .slice (some ⟨b, p, none⟩) n c) (hy : a.eval y = .int .i64 0) (hk : 0 < n) (hK : K (a.put o.dst (.pointer (some ⟨b, p, none⟩))) w) : o.wp Try.prog a w K Q := by
  have h1 : (0 : Int) < (n : Int) := by omega
  unfold Oper.wp execOp
  simp only [ho, hx, hy]
  go_simp
  exact hK
theorem wp_ix_LapiSym {x y : Operand} {b p n c k : Nat} (ho : o.op = .indexAddr 33 x y) (hx : a.eval x = .slice (some ⟨b, p, none⟩) n c) (hy : a.eval y = .int .i64 k) (hk : k < n) (hK : K (a.put o.dst (.pointer (some ⟨b, p + k * 3, none⟩))) w) : o.wp Try.prog a w K Q := by
  have h0 : (0 : Int) ≤ (k : Int) := by omega
  have h1 : (k : Int) < (n : Int) := by omega
  unfold Oper.wp execOp
  simp only [ho, hx, hy]
  go_simp
  exact hK
theorem wp_ix0_LapiSym {x y : Operand} {b p n c : Nat} (ho : o.op = .indexAddr 33 x y) (hx : a.eval x = .slice (some ⟨b, p, none⟩) n c) (hy : a.eval y = .int .i64 0) (hk : 0 < n) (hK : K (a.put o.dst (.pointer (some ⟨b, p, none⟩))) w) : o.wp Try.prog a w K Q := by
  have h1 : (0 : Int) < (n : Int) := by omega
  unfold Oper.wp execOp
  simp only [ho, hx, hy]
  go_simp
  exact hK
theorem wp_ix_apiPos {x y : Operand} {b p n c k : Nat} (ho : o.op = .indexAddr 42 x y) (hx : a.eval x = .slice (some ⟨b, p, none⟩) n c) (hy : a.eval y = .int .i64 k) (hk : k < n) (hK : K (a.put o.dst (.pointer (some ⟨b, p + k, none⟩))) w) : o.wp Try.prog a w K Q := by
  have h0 : (0 : Int) ≤ (k : Int) := by omega
  have h1 : (k : Int) < (n : Int) := by omega
  unfold Oper.wp execOp
  simp only [ho, hx, hy]
  go_simp
  exact hK
theorem wp_ix0_apiPos {x y : Operand} {b p n c : Nat} (ho : o.op = .indexAddr 42 x y) (hx : a.eval x = .slice (some ⟨b, p, none⟩) n c) (hy : a.eval y = .int .i64 0) (hk : 0 < n) (hK : K (a.put o.dst (.pointer (some ⟨b, p, none⟩))) w) : o.wp Try.prog a w K Q := by
  have h1 : (0 : Int) < (n : Int) := by omega
  unfold Oper.wp execOp
  simp only [ho, hx, hy]
  go_simp
  exact hK
theorem wp_eq_int {x y : Operand} {m n : Int} (ho : o.op = .binOp .eql 3 x y 3) (hx : a.eval x = .int .i64 m) (hy : a.eval y = .int .i64 n) (hK : K (a.put o.dst (.bool (m == n))) w) : o.wp Try.prog a w K Q := by
  unfold Oper.wp execOp
  simp only [ho, hx, hy]
  go_simp
  exact hK
theorem wp_ne_int {x y : Operand} {m n : Int} (ho : o.op = .binOp .neq 3 x y 3) (hx : a.eval x = .int .i64 m) (hy : a.eval y = .int .i64 n) (hK : K (a.put o.dst (.bool (m != n))) w) : o.wp Try.prog a w K Q := by
  unfold Oper.wp execOp
  simp only [ho, hx, hy]
  go_simp
  exact hK
theorem wp_eq_apiErrno {x y : Operand} {m n : Int} (ho : o.op = .binOp .eql 56 x y 56) (hx : a.eval x = .int .i64 m) (hy : a.eval y = .int .i64 n) (hK : K (a.put o.dst (.bool (m == n))) w) : o.wp Try.prog a w K Q := by
  unfold Oper.wp execOp
  simp only [ho, hx, hy]
  go_simp
  exact hK
theorem wp_ne_apiErrno {x y : Operand} {m n : Int} (ho : o.op = .binOp .neq 56 x y 56) (hx : a.eval x = .int .i64 m) (hy : a.eval y = .int .i64 n) (hK : K (a.put o.dst (.bool (m != n))) w) : o.wp Try.prog a w K Q := by
  unfold Oper.wp execOp
  simp only [ho, hx, hy]
  go_simp
  exact hK
theorem wp_eq_apiRel {x y : Operand} {m n : Int} (ho : o.op = .binOp .eql 30 x y 30) (hx : a.eval x = .int .i64 m) (hy : a.eval y = .int .i64 n) (hK : K (a.put o.dst (.bool (m == n))) w) : o.wp Try.prog a w K Q := by
  unfold Oper.wp execOp
  simp only [ho, hx, hy]
  go_simp
  exact hK
theorem wp_ne_apiRel {x y : Operand} {m n : Int} (ho : o.op = .binOp .neq 30 x y 30) (hx : a.eval x = .int .i64 m) (hy : a.eval y = .int .i64 n) (hK : K (a.put o.dst (.bool (m != n))) w) : o.wp Try.prog a w K Q := by
  unfold Oper.wp execOp
  simp only [ho, hx, hy]
  go_simp
  exact hK
theorem wp_eq_bool {x y : Operand} {m n : Bool} (ho : o.op = .binOp .eql 4 x y 4) (hx : a.eval x = .bool m) (hy : a.eval y = .bool n) (hK : K (a.put o.dst (.bool (m == n))) w) : o.wp Try.prog a w K Q := by
  unfold Oper.wp execOp
  simp only [ho, hx, hy]
  go_simp
  exact hK
theorem wp_ne_bool {x y : Operand} {m n : Bool} (ho : o.op = .binOp .neq 4 x y 4) (hx : a.eval x = .bool m) (hy : a.eval y = .bool n) (hK : K (a.put o.dst (.bool (m != n))) w) : o.wp Try.prog a w K Q := by
  unfold Oper.wp execOp
  simp only [ho, hx, hy]
  go_simp
  exact hK
theorem wp_lt_int {x y : Operand} {m n : Int} (ho : o.op = .binOp .lss 3 x y 3) (hx : a.eval x = .int .i64 m) (hy : a.eval y = .int .i64 n) (hK : K (a.put o.dst (.bool (decide (m < n)))) w) : o.wp Try.prog a w K Q := by
  unfold Oper.wp execOp
  simp only [ho, hx, hy]
  go_simp
  exact hK
theorem wp_gt_int {x y : Operand} {m n : Int} (ho : o.op = .binOp .gtr 3 x y 3) (hx : a.eval x = .int .i64 m) (hy : a.eval y = .int .i64 n) (hK : K (a.put o.dst (.bool (decide (n < m)))) w) : o.wp Try.prog a w K Q := by
  unfold Oper.wp execOp
  simp only [ho, hx, hy]
  go_simp
  exact hK
theorem wp_le_int {x y : Operand} {m n : Int} (ho : o.op = .binOp .leq 3 x y 3) (hx : a.eval x = .int .i64 m) (hy : a.eval y = .int .i64 n) (hK : K (a.put o.dst (.bool (decide (m ≤ n)))) w) : o.wp Try.prog a w K Q := by
  unfold Oper.wp execOp
  simp only [ho, hx, hy]
  go_simp
  exact hK
theorem wp_ge_int {x y : Operand} {m n : Int} (ho : o.op = .binOp .geq 3 x y 3) (hx : a.eval x = .int .i64 m) (hy : a.eval y = .int .i64 n) (hK : K (a.put o.dst (.bool (decide (n ≤ m)))) w) : o.wp Try.prog a w K Q := by
  unfold Oper.wp execOp
  simp only [ho, hx, hy]
  go_simp
  exact hK
theorem wp_add_int {x y : Operand} {m n : Int} (ho : o.op = .binOp .add 3 x y 3) (hx : a.eval x = .int .i64 m) (hy : a.eval y = .int .i64 n) (hK : K (a.put o.dst (.int .i64 (IntKind.i64.wrap (m + n)))) w) : o.wp Try.prog a w K Q := by
  unfold Oper.wp execOp
  simp only [ho, hx, hy]
  go_simp
  exact hK
theorem wp_sub_int {x y : Operand} {m n : Int} (ho : o.op = .binOp .sub 3 x y 3) (hx : a.eval x = .int .i64 m) (hy : a.eval y = .int .i64 n) (hK : K (a.put o.dst (.int .i64 (IntKind.i64.wrap (m - n)))) w) : o.wp Try.prog a w K Q := by
  unfold Oper.wp execOp
  simp only [ho, hx, hy]
  go_simp
  exact hK
end
end Go.Proofs.Ytlkiabgpnboicaa

/- The walk through the document's check of an order. -/
namespace Go.Proofs.Ytlkiabgpnboicaa
open Go.RowKit Go.Sort Go

def oc5 (sg : List Sy) (o : Od) (w : World) (a a2 : Option Addr) (c c2 b oo : Nat) : List (Bool × Sp) := [(true, .val (.pointer (some ⟨(w.heap.size + 1), 2, none⟩))), (true, .val (.slice a2 o.weights.length c2)), (true, .val (.int .i64 o.weights.length)), (true, .val (.pointer (some ⟨w.heap.size, 0, none⟩))), (true, .val (.slice a sg.length c)), (true, .val (.int .i64 sg.length)), (true, .val (.bool ((o.weights.length : Int) != (sg.length : Int)))), (true, .val (.bool ((o.weights.length : Int) != (sg.length : Int)))), ((true && !((o.weights.length : Int) != (sg.length : Int))), .val (.pointer (some ⟨(w.heap.size + 1), 3, none⟩))), ((true && !((o.weights.length : Int) != (sg.length : Int))), .val (.int .i64 o.var)), ((true && !((o.weights.length : Int) != (sg.length : Int))), .val (.bool (decide ((o.var : Int) < (1 : Int))))), (true, .val (.bool (((o.weights.length : Int) != (sg.length : Int)) || (decide ((o.var : Int) < (1 : Int)))))), (true, .val (.bool (((o.weights.length : Int) != (sg.length : Int)) || (decide ((o.var : Int) < (1 : Int)))))), ((true && !(((o.weights.length : Int) != (sg.length : Int)) || (decide ((o.var : Int) < (1 : Int))))), .val (.pointer (some ⟨(w.heap.size + 1), 3, none⟩))), ((true && !(((o.weights.length : Int) != (sg.length : Int)) || (decide ((o.var : Int) < (1 : Int))))), .val (.int .i64 o.var)), ((true && !(((o.weights.length : Int) != (sg.length : Int)) || (decide ((o.var : Int) < (1 : Int))))), .val (.bool (decide ((1000 : Int) < (o.var : Int))))), (true, .val (.bool ((((o.weights.length : Int) != (sg.length : Int)) || (decide ((o.var : Int) < (1 : Int)))) || (decide ((1000 : Int) < (o.var : Int)))))), (true, .val (.bool ((((o.weights.length : Int) != (sg.length : Int)) || (decide ((o.var : Int) < (1 : Int)))) || (decide ((1000 : Int) < (o.var : Int)))))), ((true && !((((o.weights.length : Int) != (sg.length : Int)) || (decide ((o.var : Int) < (1 : Int)))) || (decide ((1000 : Int) < (o.var : Int))))), .val (.pointer (some ⟨(w.heap.size + 1), 2, none⟩))), ((true && !((((o.weights.length : Int) != (sg.length : Int)) || (decide ((o.var : Int) < (1 : Int)))) || (decide ((1000 : Int) < (o.var : Int))))), .val (.slice a2 o.weights.length c2)), ((true && !((((o.weights.length : Int) != (sg.length : Int)) || (decide ((o.var : Int) < (1 : Int)))) || (decide ((1000 : Int) < (o.var : Int))))), .val (.pointer (some ⟨b, oo, none⟩))), ((true && !((((o.weights.length : Int) != (sg.length : Int)) || (decide ((o.var : Int) < (1 : Int)))) || (decide ((1000 : Int) < (o.var : Int))))), .val (.int .i64 (o.weights.getD 0 0))), ((true && !((((o.weights.length : Int) != (sg.length : Int)) || (decide ((o.var : Int) < (1 : Int)))) || (decide ((1000 : Int) < (o.var : Int))))), .val (.pointer (some ⟨(w.heap.size + 1), 3, none⟩))), ((true && !((((o.weights.length : Int) != (sg.length : Int)) || (decide ((o.var : Int) < (1 : Int)))) || (decide ((1000 : Int) < (o.var : Int))))), .val (.int .i64 o.var)), ((true && !((((o.weights.length : Int) != (sg.length : Int)) || (decide ((o.var : Int) < (1 : Int)))) || (decide ((1000 : Int) < (o.var : Int))))), .val (.bool (((o.weights.getD 0 0) : Int) != (o.var : Int)))), (true, .val (.bool (((((o.weights.length : Int) != (sg.length : Int)) || (decide ((o.var : Int) < (1 : Int)))) || (decide ((1000 : Int) < (o.var : Int)))) || (((o.weights.getD 0 0) : Int) != (o.var : Int)))))]

set_option maxRecDepth 100000 in
set_option maxHeartbeats 4000000 in
theorem ordCheck_any (sg : List Sy) (o : Od) (w : World) (vs vo : Value) (hs : IsSig w sg vs) (ho : IsOd w o vo) :
    Calls Try.prog 28 #[vs, vo] w fun e w' => (∃ n : Int, e = .returned (.int .i64 n) ∧ (n = 0 → OrdOk sg o)) ∧ Below w.heap.size w w' := by
  have hs0 := hs
  have ho0 := ho
  obtain ⟨a, c, rfl, hc, hm, hsl⟩ := hs
  obtain ⟨a1, a2, c1, c2, rfl, n1, n2, n3, n4, p1, p2, hv1, hv2⟩ := ho
  have SC := fun w v => sigCheck_any sg w v
  have RK := fun w h => ranks_any o.prec sg.length w a1 c1 n1 n2 h
  have HG := fun w i hi h => highest_any o.prec i w a1 c1 hi n1 n2 h
  have m2 := Lib.hid n2
  unfold maxLen at hm n2 n4
  by_cases h1 : sigCheck sg = 0
  · have h1' := Lib.hid h1
    have hpos := sigCheck_pos h1
    rw [h1] at SC
    have Hhs0 := Lib.hid hs0
    have Hho0 := Lib.hid ho0
    clear hs0 ho0
    clear h1
    go_enter Try.func28, Try.ntmps28
    go_wp2_with fail
    refine (SC _ _ (Hhs0.out.below (balloc2 _ _ _))).mono ?_
    rintro e w1 ⟨rfl, hb1⟩
    obtain ⟨B1, B2, hw1⟩ := box2 hb1
    have k0 := B1 0 _ rfl
    obtain ⟨u0, u1, u2, u3⟩ := B2.four
    have Hhw1 := Lib.hid hw1
    have HB1 := Lib.hid B1
    have HB2 := Lib.hid B2
    clear hw1 B1 B2
    clear hb1
    go_wp2_with fail
    refine (RK _ (p1.below Hhw1.out)).mono ?_
    rintro e w2 ⟨⟨b, rfl, hb⟩, hb2⟩
    have hb := Lib.hid hb
    have hw2 := bstep Hhw1.out hb2
    have B1 := HB1.out.below hb2
    have B2 := HB2.out.below hb2
    clear k0 u0 u1 u2 u3 hb2 Hhw1 HB1 HB2 RK SC
    have k0 := B1 0 _ rfl
    obtain ⟨u0, u1, u2, u3⟩ := B2.four
    have Hhw2 := Lib.hid hw2
    have HB1 := Lib.hid B1
    have HB2 := Lib.hid B2
    clear hw2 B1 B2
    cases b with
    | false =>
      go_wp2_with fail
      go_ret
      exact ⟨⟨2, rfl, fun h => by omega⟩, Hhw2.out⟩
    | true =>
      obtain ⟨hlen0, hrk0⟩ := hb.out rfl
      have hlen := Lib.hid (show o.prec.length = sg.length by omega)
      have hrk := Lib.hid hrk0
      clear hlen0 hrk0
      cases hlpo : o.lpo with
      | true =>
        have HV := Lib.hid (show OrdOk sg o from ⟨h1'.out, hlen.out, hrk.out, fun h => by rw [hlpo] at h; cases h⟩)
        rw [hlpo] at u0
        clear hlpo hb
        go_wp2_with fail
        go_ret
        exact ⟨⟨0, rfl, fun _ => HV.out⟩, Hhw2.out⟩
      | false =>
        rw [hlpo] at u0
        have hlpo := Lib.hid hlpo
        clear hb
        obtain ⟨b, oo, HA⟩ : ∃ b oo, 0 < o.weights.length → a2 = some ⟨b, oo, none⟩ ∧ w2.cell? ⟨b, oo, none⟩ = some (.int .i64 (o.weights.getD 0 0)) := by
          by_cases hp0 : 0 < o.weights.length
          · obtain ⟨b, oo, e1, g0, _⟩ := p2.at_ Hhw2.out 0 hp0
            refine ⟨b, oo, fun _ => ⟨e1, ?_⟩⟩
            simpa [hp0] using g0
          · exact ⟨0, 0, fun h => absurd h hp0⟩
        have Hhpos := Lib.hid hpos
        have HHA := Lib.hid HA
        have Hk0 := Lib.hid k0
        have Hu1 := Lib.hid u1
        have Hu2 := Lib.hid u2
        have Hu3 := Lib.hid u3
        clear hpos HA k0 u1 u2 u3
        have HA := HHA
        clear HHA
        go_wp2_with (with_reducible refine stop_region ?_)
        refine Stop.mk ?_
        refine wp_region_lit (optR (oc5 sg o w a a2 c c2 b oo)) [false, false, false, false, false, false, false, false, false, false, false, false, false, false, false, false, false, false, false, false, false, true, true, true, true, true, true, true, true, true, true, true, true, true, true, true, true, true, true, true, true, true, true, true, true, true, true, false, false, false, false, false, false, false, false, false, false, false, false, false, false, false, false, false, false, false, false, false, false, false, false, false, false, false, false, false, false, false, false, false, false, false, false, false, false, false, false, false, false, false, false, false, false, false, false, false, false, false] (by kernel_rfl) (by kernel_rfl) (by kernel_rfl) (optKeep _) ?_ ?_
        · refine ⟨⟨true, .none rfl, fun h w => optUndef h, fun hβ fx wx hwx hn hd => ?_⟩, ?_⟩
          · exact wp_fld_apiOrder_2 rfl ((rel_eval (by kernel_rfl)).trans (show fx 3 = .pointer (some ⟨(w.heap.size + 1), 0, none⟩) from hn 3 (by kernel_rfl))) ⟨_, rfl, Below.refl _ _, optDef hβ rfl⟩
          refine ⟨⟨true, .none rfl, fun h w => optUndef h, fun hβ fx wx hwx hn hd => ?_⟩, ?_⟩
          · exact wp_ld_Lint rfl ((rel_eval (by kernel_rfl)).trans (optVal (x := .pointer (some ⟨(w.heap.size + 1), 2, none⟩)) (β := true) (hd 0 21 (by kernel_rfl)) rfl rfl)) (bkeeps hwx _ _ (Hu2.out)) ⟨_, rfl, Below.refl _ _, optDef hβ rfl⟩
          refine ⟨⟨true, .none rfl, fun h w => optUndef h, fun hβ fx wx hwx hn hd => ?_⟩, ?_⟩
          · exact wp_len_Lint rfl ((rel_eval (by kernel_rfl)).trans (optVal (x := .slice a2 o.weights.length c2) (β := true) (hd 1 22 (by kernel_rfl)) rfl rfl)) ⟨_, rfl, Below.refl _ _, optDef hβ rfl⟩
          refine ⟨⟨true, .none rfl, fun h w => optUndef h, fun hβ fx wx hwx hn hd => ?_⟩, ?_⟩
          · exact wp_fld_apiSig_0 rfl ((rel_eval (by kernel_rfl)).trans (show fx 2 = .pointer (some ⟨w.heap.size, 0, none⟩) from hn 2 (by kernel_rfl))) ⟨_, rfl, Below.refl _ _, optDef hβ rfl⟩
          refine ⟨⟨true, .none rfl, fun h w => optUndef h, fun hβ fx wx hwx hn hd => ?_⟩, ?_⟩
          · exact wp_ld_LapiSym rfl ((rel_eval (by kernel_rfl)).trans (optVal (x := .pointer (some ⟨w.heap.size, 0, none⟩)) (β := true) (hd 3 24 (by kernel_rfl)) rfl rfl)) (bkeeps hwx _ _ (Hk0.out)) ⟨_, rfl, Below.refl _ _, optDef hβ rfl⟩
          refine ⟨⟨true, .none rfl, fun h w => optUndef h, fun hβ fx wx hwx hn hd => ?_⟩, ?_⟩
          · exact wp_len_LapiSym rfl ((rel_eval (by kernel_rfl)).trans (optVal (x := .slice a sg.length c) (β := true) (hd 4 25 (by kernel_rfl)) rfl rfl)) ⟨_, rfl, Below.refl _ _, optDef hβ rfl⟩
          refine ⟨⟨true, .none rfl, fun h w => optUndef h, fun hβ fx wx hwx hn hd => ?_⟩, ?_⟩
          · exact wp_ne_int rfl ((rel_eval (by kernel_rfl)).trans (optVal (x := .int .i64 o.weights.length) (β := true) (hd 2 23 (by kernel_rfl)) rfl rfl)) ((rel_eval (by kernel_rfl)).trans (optVal (x := .int .i64 sg.length) (β := true) (hd 5 26 (by kernel_rfl)) rfl rfl)) ⟨_, rfl, Below.refl _ _, optDef hβ rfl⟩
          refine ⟨⟨true, .none rfl, fun h w => optUndef h, fun hβ fx wx hwx hn hd => ?_⟩, ?_⟩
          · exact wp_move rfl ((rel_eval (by kernel_rfl)).trans (optVal (x := .bool ((o.weights.length : Int) != (sg.length : Int))) (β := true) (hd 6 27 (by kernel_rfl)) rfl rfl)) ⟨_, rfl, Below.refl _ _, optDef hβ rfl⟩
          refine ⟨⟨(true && !((o.weights.length : Int) != (sg.length : Int))), .no (c := ((o.weights.length : Int) != (sg.length : Int))) (d := true) rfl (fun v w h => h), fun h w => optUndef h, fun hβ fx wx hwx hn hd => ?_⟩, ?_⟩
          · exact wp_fld_apiOrder_3 rfl ((rel_eval (by kernel_rfl)).trans (show fx 3 = .pointer (some ⟨(w.heap.size + 1), 0, none⟩) from hn 3 (by kernel_rfl))) ⟨_, rfl, Below.refl _ _, optDef hβ rfl⟩
          refine ⟨⟨(true && !((o.weights.length : Int) != (sg.length : Int))), .no (c := ((o.weights.length : Int) != (sg.length : Int))) (d := true) rfl (fun v w h => h), fun h w => optUndef h, fun hβ fx wx hwx hn hd => ?_⟩, ?_⟩
          · exact wp_ld_int rfl ((rel_eval (by kernel_rfl)).trans (optVal (x := .pointer (some ⟨(w.heap.size + 1), 3, none⟩)) (β := (true && !((o.weights.length : Int) != (sg.length : Int)))) (hd 8 29 (by kernel_rfl)) rfl hβ)) (bkeeps hwx _ _ (Hu3.out)) ⟨_, rfl, Below.refl _ _, optDef hβ rfl⟩
          refine ⟨⟨(true && !((o.weights.length : Int) != (sg.length : Int))), .no (c := ((o.weights.length : Int) != (sg.length : Int))) (d := true) rfl (fun v w h => h), fun h w => optUndef h, fun hβ fx wx hwx hn hd => ?_⟩, ?_⟩
          · exact wp_lt_int rfl ((rel_eval (by kernel_rfl)).trans (optVal (x := .int .i64 o.var) (β := (true && !((o.weights.length : Int) != (sg.length : Int)))) (hd 9 30 (by kernel_rfl)) rfl hβ)) rfl ⟨_, rfl, Below.refl _ _, optDef hβ rfl⟩
          refine ⟨⟨true, .none rfl, fun h w => optUndef h, fun hβ fx wx hwx hn hd => ?_⟩, ?_⟩
          · exact wp_or rfl ((rel_eval (by kernel_rfl)).trans (optVal (x := .bool ((o.weights.length : Int) != (sg.length : Int))) (β := true) (hd 7 28 (by kernel_rfl)) rfl rfl)) (fun hp => ((rel_eval (by kernel_rfl)).trans (optVal (x := .bool (decide ((o.var : Int) < (1 : Int)))) (β := (true && !((o.weights.length : Int) != (sg.length : Int)))) (hd 10 31 (by kernel_rfl)) rfl (bMkN hβ hp)))) ⟨_, rfl, Below.refl _ _, optDef hβ rfl⟩
          refine ⟨⟨true, .none rfl, fun h w => optUndef h, fun hβ fx wx hwx hn hd => ?_⟩, ?_⟩
          · exact wp_move rfl ((rel_eval (by kernel_rfl)).trans (optVal (x := .bool (((o.weights.length : Int) != (sg.length : Int)) || (decide ((o.var : Int) < (1 : Int))))) (β := true) (hd 11 32 (by kernel_rfl)) rfl rfl)) ⟨_, rfl, Below.refl _ _, optDef hβ rfl⟩
          refine ⟨⟨(true && !(((o.weights.length : Int) != (sg.length : Int)) || (decide ((o.var : Int) < (1 : Int))))), .no (c := (((o.weights.length : Int) != (sg.length : Int)) || (decide ((o.var : Int) < (1 : Int))))) (d := true) rfl (fun v w h => h), fun h w => optUndef h, fun hβ fx wx hwx hn hd => ?_⟩, ?_⟩
          · exact wp_fld_apiOrder_3 rfl ((rel_eval (by kernel_rfl)).trans (show fx 3 = .pointer (some ⟨(w.heap.size + 1), 0, none⟩) from hn 3 (by kernel_rfl))) ⟨_, rfl, Below.refl _ _, optDef hβ rfl⟩
          refine ⟨⟨(true && !(((o.weights.length : Int) != (sg.length : Int)) || (decide ((o.var : Int) < (1 : Int))))), .no (c := (((o.weights.length : Int) != (sg.length : Int)) || (decide ((o.var : Int) < (1 : Int))))) (d := true) rfl (fun v w h => h), fun h w => optUndef h, fun hβ fx wx hwx hn hd => ?_⟩, ?_⟩
          · exact wp_ld_int rfl ((rel_eval (by kernel_rfl)).trans (optVal (x := .pointer (some ⟨(w.heap.size + 1), 3, none⟩)) (β := (true && !(((o.weights.length : Int) != (sg.length : Int)) || (decide ((o.var : Int) < (1 : Int)))))) (hd 13 34 (by kernel_rfl)) rfl hβ)) (bkeeps hwx _ _ (Hu3.out)) ⟨_, rfl, Below.refl _ _, optDef hβ rfl⟩
          refine ⟨⟨(true && !(((o.weights.length : Int) != (sg.length : Int)) || (decide ((o.var : Int) < (1 : Int))))), .no (c := (((o.weights.length : Int) != (sg.length : Int)) || (decide ((o.var : Int) < (1 : Int))))) (d := true) rfl (fun v w h => h), fun h w => optUndef h, fun hβ fx wx hwx hn hd => ?_⟩, ?_⟩
          · exact wp_gt_int rfl ((rel_eval (by kernel_rfl)).trans (optVal (x := .int .i64 o.var) (β := (true && !(((o.weights.length : Int) != (sg.length : Int)) || (decide ((o.var : Int) < (1 : Int)))))) (hd 14 35 (by kernel_rfl)) rfl hβ)) rfl ⟨_, rfl, Below.refl _ _, optDef hβ rfl⟩
          refine ⟨⟨true, .none rfl, fun h w => optUndef h, fun hβ fx wx hwx hn hd => ?_⟩, ?_⟩
          · exact wp_or rfl ((rel_eval (by kernel_rfl)).trans (optVal (x := .bool (((o.weights.length : Int) != (sg.length : Int)) || (decide ((o.var : Int) < (1 : Int))))) (β := true) (hd 12 33 (by kernel_rfl)) rfl rfl)) (fun hp => ((rel_eval (by kernel_rfl)).trans (optVal (x := .bool (decide ((1000 : Int) < (o.var : Int)))) (β := (true && !(((o.weights.length : Int) != (sg.length : Int)) || (decide ((o.var : Int) < (1 : Int)))))) (hd 15 36 (by kernel_rfl)) rfl (bMkN hβ hp)))) ⟨_, rfl, Below.refl _ _, optDef hβ rfl⟩
          refine ⟨⟨true, .none rfl, fun h w => optUndef h, fun hβ fx wx hwx hn hd => ?_⟩, ?_⟩
          · exact wp_move rfl ((rel_eval (by kernel_rfl)).trans (optVal (x := .bool ((((o.weights.length : Int) != (sg.length : Int)) || (decide ((o.var : Int) < (1 : Int)))) || (decide ((1000 : Int) < (o.var : Int))))) (β := true) (hd 16 37 (by kernel_rfl)) rfl rfl)) ⟨_, rfl, Below.refl _ _, optDef hβ rfl⟩
          refine ⟨⟨(true && !((((o.weights.length : Int) != (sg.length : Int)) || (decide ((o.var : Int) < (1 : Int)))) || (decide ((1000 : Int) < (o.var : Int))))), .no (c := ((((o.weights.length : Int) != (sg.length : Int)) || (decide ((o.var : Int) < (1 : Int)))) || (decide ((1000 : Int) < (o.var : Int))))) (d := true) rfl (fun v w h => h), fun h w => optUndef h, fun hβ fx wx hwx hn hd => ?_⟩, ?_⟩
          · exact wp_fld_apiOrder_2 rfl ((rel_eval (by kernel_rfl)).trans (show fx 3 = .pointer (some ⟨(w.heap.size + 1), 0, none⟩) from hn 3 (by kernel_rfl))) ⟨_, rfl, Below.refl _ _, optDef hβ rfl⟩
          refine ⟨⟨(true && !((((o.weights.length : Int) != (sg.length : Int)) || (decide ((o.var : Int) < (1 : Int)))) || (decide ((1000 : Int) < (o.var : Int))))), .no (c := ((((o.weights.length : Int) != (sg.length : Int)) || (decide ((o.var : Int) < (1 : Int)))) || (decide ((1000 : Int) < (o.var : Int))))) (d := true) rfl (fun v w h => h), fun h w => optUndef h, fun hβ fx wx hwx hn hd => ?_⟩, ?_⟩
          · exact wp_ld_Lint rfl ((rel_eval (by kernel_rfl)).trans (optVal (x := .pointer (some ⟨(w.heap.size + 1), 2, none⟩)) (β := (true && !((((o.weights.length : Int) != (sg.length : Int)) || (decide ((o.var : Int) < (1 : Int)))) || (decide ((1000 : Int) < (o.var : Int)))))) (hd 18 39 (by kernel_rfl)) rfl hβ)) (bkeeps hwx _ _ (Hu2.out)) ⟨_, rfl, Below.refl _ _, optDef hβ rfl⟩
          refine ⟨⟨(true && !((((o.weights.length : Int) != (sg.length : Int)) || (decide ((o.var : Int) < (1 : Int)))) || (decide ((1000 : Int) < (o.var : Int))))), .no (c := ((((o.weights.length : Int) != (sg.length : Int)) || (decide ((o.var : Int) < (1 : Int)))) || (decide ((1000 : Int) < (o.var : Int))))) (d := true) rfl (fun v w h => h), fun h w => optUndef h, fun hβ fx wx hwx hn hd => ?_⟩, ?_⟩
          · exact wp_ix0_Lint rfl (((rel_eval (by kernel_rfl)).trans (optVal (x := .slice a2 o.weights.length c2) (β := (true && !((((o.weights.length : Int) != (sg.length : Int)) || (decide ((o.var : Int) < (1 : Int)))) || (decide ((1000 : Int) < (o.var : Int)))))) (hd 19 40 (by kernel_rfl)) rfl hβ)).trans (congrArg (fun z => Value.slice z o.weights.length c2) (HA.out (by have h := hβ; simp at h; have := Hhpos.out; omega)).1)) rfl (by have h := hβ; simp at h; have := Hhpos.out; omega) ⟨_, rfl, Below.refl _ _, optDef hβ rfl⟩
          refine ⟨⟨(true && !((((o.weights.length : Int) != (sg.length : Int)) || (decide ((o.var : Int) < (1 : Int)))) || (decide ((1000 : Int) < (o.var : Int))))), .no (c := ((((o.weights.length : Int) != (sg.length : Int)) || (decide ((o.var : Int) < (1 : Int)))) || (decide ((1000 : Int) < (o.var : Int))))) (d := true) rfl (fun v w h => h), fun h w => optUndef h, fun hβ fx wx hwx hn hd => ?_⟩, ?_⟩
          · exact wp_ld_int rfl ((rel_eval (by kernel_rfl)).trans (optVal (x := .pointer (some ⟨b, oo, none⟩)) (β := (true && !((((o.weights.length : Int) != (sg.length : Int)) || (decide ((o.var : Int) < (1 : Int)))) || (decide ((1000 : Int) < (o.var : Int)))))) (hd 20 41 (by kernel_rfl)) rfl hβ)) (bkeeps hwx _ _ ((HA.out (by have h := hβ; simp at h; have := Hhpos.out; omega)).2)) ⟨_, rfl, Below.refl _ _, optDef hβ rfl⟩
          refine ⟨⟨(true && !((((o.weights.length : Int) != (sg.length : Int)) || (decide ((o.var : Int) < (1 : Int)))) || (decide ((1000 : Int) < (o.var : Int))))), .no (c := ((((o.weights.length : Int) != (sg.length : Int)) || (decide ((o.var : Int) < (1 : Int)))) || (decide ((1000 : Int) < (o.var : Int))))) (d := true) rfl (fun v w h => h), fun h w => optUndef h, fun hβ fx wx hwx hn hd => ?_⟩, ?_⟩
          · exact wp_fld_apiOrder_3 rfl ((rel_eval (by kernel_rfl)).trans (show fx 3 = .pointer (some ⟨(w.heap.size + 1), 0, none⟩) from hn 3 (by kernel_rfl))) ⟨_, rfl, Below.refl _ _, optDef hβ rfl⟩
          refine ⟨⟨(true && !((((o.weights.length : Int) != (sg.length : Int)) || (decide ((o.var : Int) < (1 : Int)))) || (decide ((1000 : Int) < (o.var : Int))))), .no (c := ((((o.weights.length : Int) != (sg.length : Int)) || (decide ((o.var : Int) < (1 : Int)))) || (decide ((1000 : Int) < (o.var : Int))))) (d := true) rfl (fun v w h => h), fun h w => optUndef h, fun hβ fx wx hwx hn hd => ?_⟩, ?_⟩
          · exact wp_ld_int rfl ((rel_eval (by kernel_rfl)).trans (optVal (x := .pointer (some ⟨(w.heap.size + 1), 3, none⟩)) (β := (true && !((((o.weights.length : Int) != (sg.length : Int)) || (decide ((o.var : Int) < (1 : Int)))) || (decide ((1000 : Int) < (o.var : Int)))))) (hd 22 43 (by kernel_rfl)) rfl hβ)) (bkeeps hwx _ _ (Hu3.out)) ⟨_, rfl, Below.refl _ _, optDef hβ rfl⟩
          refine ⟨⟨(true && !((((o.weights.length : Int) != (sg.length : Int)) || (decide ((o.var : Int) < (1 : Int)))) || (decide ((1000 : Int) < (o.var : Int))))), .no (c := ((((o.weights.length : Int) != (sg.length : Int)) || (decide ((o.var : Int) < (1 : Int)))) || (decide ((1000 : Int) < (o.var : Int))))) (d := true) rfl (fun v w h => h), fun h w => optUndef h, fun hβ fx wx hwx hn hd => ?_⟩, ?_⟩
          · exact wp_ne_int rfl ((rel_eval (by kernel_rfl)).trans (optVal (x := .int .i64 (o.weights.getD 0 0)) (β := (true && !((((o.weights.length : Int) != (sg.length : Int)) || (decide ((o.var : Int) < (1 : Int)))) || (decide ((1000 : Int) < (o.var : Int)))))) (hd 21 42 (by kernel_rfl)) rfl hβ)) ((rel_eval (by kernel_rfl)).trans (optVal (x := .int .i64 o.var) (β := (true && !((((o.weights.length : Int) != (sg.length : Int)) || (decide ((o.var : Int) < (1 : Int)))) || (decide ((1000 : Int) < (o.var : Int)))))) (hd 23 44 (by kernel_rfl)) rfl hβ)) ⟨_, rfl, Below.refl _ _, optDef hβ rfl⟩
          refine ⟨⟨true, .none rfl, fun h w => optUndef h, fun hβ fx wx hwx hn hd => ?_⟩, ?_⟩
          · exact wp_or rfl ((rel_eval (by kernel_rfl)).trans (optVal (x := .bool ((((o.weights.length : Int) != (sg.length : Int)) || (decide ((o.var : Int) < (1 : Int)))) || (decide ((1000 : Int) < (o.var : Int))))) (β := true) (hd 17 38 (by kernel_rfl)) rfl rfl)) (fun hp => ((rel_eval (by kernel_rfl)).trans (optVal (x := .bool (((o.weights.getD 0 0) : Int) != (o.var : Int))) (β := (true && !((((o.weights.length : Int) != (sg.length : Int)) || (decide ((o.var : Int) < (1 : Int)))) || (decide ((1000 : Int) < (o.var : Int)))))) (hd 24 45 (by kernel_rfl)) rfl (bMkN hβ hp)))) ⟨_, rfl, Below.refl _ _, optDef hβ rfl⟩
          exact trivial
        intro ux w3 hb3 hu
        have eu := optVal (x := .bool (((((o.weights.length : Int) != (sg.length : Int)) || (decide ((o.var : Int) < (1 : Int)))) || (decide ((1000 : Int) < (o.var : Int)))) || (((o.weights.getD 0 0) : Int) != (o.var : Int)))) (β := true) (hu 25 46 (by kernel_rfl)) rfl rfl
        simp only [finM]
        rw [eu]
        clear hu eu
        generalize hE : (_ || _) = e
        cases e with
        | true =>
          go_wp2_with fail
          go_ret
          exact ⟨⟨2, rfl, fun h => by omega⟩, bstep Hhw2.out hb3⟩
        | false =>
          have hF := Lib.hid (show o.weights.length = sg.length ∧ 1 ≤ o.var ∧ o.var ≤ 1000 ∧ o.weights.getD 0 0 = o.var by
            simp only [Bool.or_eq_false_iff, bne_eq_false_iff_eq, decide_eq_false_iff_not] at hE
            obtain ⟨⟨⟨q1, q2⟩, q3⟩, q4⟩ := hE
            exact ⟨by omega, by omega, by omega, q4⟩)
          have hw3 := bstep Hhw2.out hb3
          have C1 := HB1.out.below hb3
          have C2 := HB2.out.below hb3
          clear hE HA Hk0 Hu1 Hu2 Hu3 u0 hb3 Hhw2 HB1 HB2
          have k0 := C1 0 _ rfl
          have Hhw3 := Lib.hid hw3
          have HC1 := Lib.hid C1
          have HC2 := Lib.hid C2
          clear hw3 C1 C2
          go_wp2_with fail
          go_loopw [5, 6] (fun i _ wr => ∃ (k : Nat), k ≤ sg.length ∧ i = .int .i64 k ∧ Hid (∀ i (h : i < sg.length), i < k → SymOk o sg[i] i) ∧ Below w.heap.size w wr ∧ Box wr w.heap.size [.slice a sg.length c] ∧ Box wr (w.heap.size + 1) [.bool o.lpo, .slice a1 o.prec.length c1, .slice a2 o.weights.length c2, .int .i64 o.var]) (fun i _ _ => sg.length - (intOf i).toNat)
          case atStart => exact ⟨0, Nat.zero_le _, rfl, fun j _ hj => absurd hj (by omega), Hhw3.out, HC1.out, HC2.out⟩
          case round =>
            clear k0 HC1 HC2 Hhw3
            obtain ⟨k, hk, rfl, hall, hw, hB1, hB2⟩ := hrel
            have k0 := hB1 0 _ rfl
            obtain ⟨u0, u1, u2, u3⟩ := hB2.four
            by_cases hlt : k < sg.length
            · have hltw : k < o.weights.length := by have := hF.out.1; omega
              have hltp : k < o.prec.length := by have := hlen.out; omega
              obtain ⟨b1, o1, rfl, g0, g1, g2, hI1, hI2⟩ := hsl.at_ hw k hlt
              obtain ⟨b2, o2, rfl, g3, hI3⟩ := p2.at_ hw k hltw
              obtain ⟨r, hr⟩ : ∃ r, r = sg[k].ar := ⟨_, rfl⟩
              obtain ⟨m, hm'⟩ : ∃ m, m = o.weights[k] := ⟨_, rfl⟩
              rw [← hr] at g1
              rw [← hm'] at g3
              have z0 : (0 : Int) ≤ (k : Int) := by omega
              have z1 : (k : Int) < (o.weights.length : Int) := by omega
              have Hlt := Lib.hid hlt
              have hG := HG wr k hltp (p1.below hw)
              have z2 : (k : Int) < (sg.length : Int) := by omega
              clear hltp g0 g2 hI1 hI2 hI3 HG
              have Hhall := Lib.hid hall
              have Hhw := Lib.hid hw
              have HhB1 := Lib.hid hB1
              have HhB2 := Lib.hid hB2
              have Hhr := Lib.hid hr
              have Hhm' := Lib.hid hm'
              clear hall hw hB1 hB2 hr hm'
              by_cases q1 : m < 0
              · clear hG
                go_wp2_with fail
                go_ret
                exact ⟨⟨2, rfl, fun h => by omega⟩, Hhw.out⟩
              by_cases q2 : 1000 < m
              · clear hG
                go_wp2_with fail
                go_ret
                exact ⟨⟨2, rfl, fun h => by omega⟩, Hhw.out⟩
              have Hq := Lib.hid (And.intro q1 q2)
              by_cases q3 : r = 0
              · have q4 : (r == 0) = true := by simp [q3]
                have q5 : (r == 1) = false := by simp [q3]
                by_cases q6 : m < o.var
                · clear hG q3
                  go_wp2_with fail
                  go_ret
                  exact ⟨⟨2, rfl, fun h => by omega⟩, Hhw.out⟩
                · have HV := Lib.hid (show (0 ≤ m ∧ m ≤ 1000) ∧ (r = 0 → o.var ≤ m) ∧ (r = 1 → m = 0 → high o.prec k = true) from ⟨by omega, fun _ => by omega, fun h => by omega⟩)
                  clear hG q3
                  go_wp2_with fail
                  go_roundw
                  case rel =>
                    refine ⟨k + 1, by have := Hlt.out; omega, by go_num, fun j hj hjk => ?_, Hhw.out, HhB1.out, HhB2.out⟩
                    by_cases hjk' : j = k
                    · subst hjk'
                      have e1 : o.weights.getD j 0 = m := by
                        have : j < o.weights.length := by have := hF.out.1; omega
                        rw [Hhm'.out]; simp [this]
                      have q := HV.out
                      rw [Hhr.out] at q
                      refine ⟨by rw [e1]; exact q.1, fun h => by rw [e1]; exact q.2.1 h, fun h1 h2 => ?_⟩
                      rw [e1] at h2
                      exact of_decide_eq_true (q.2.2 h1 h2)
                    · exact Hhall.out j hj (by omega)
                  case measure => simp [intOf]; have := Hlt.out; omega
              · have q4 : (r == 0) = false := by simpa using q3
                by_cases q5 : r = 1
                · have q6 : (r == 1) = true := by simp [q5]
                  by_cases q7 : m = 0
                  · have q8 : (m == 0) = true := by simp [q7]
                    have Hq5 := Lib.hid q5
                    have Hq7 := Lib.hid q7
                    clear q3 q5 q7
                    go_wp2_with fail
                    refine hG.mono ?_
                    rintro e w4 ⟨rfl, hb4⟩
                    clear hG
                    cases hhi : high o.prec k with
                    | false =>
                      go_wp2_with fail
                      go_ret
                      exact ⟨⟨2, rfl, fun h => by omega⟩, bstep Hhw.out hb4⟩
                    | true =>
                      have HV := Lib.hid (show (0 ≤ m ∧ m ≤ 1000) ∧ (r = 0 → o.var ≤ m) ∧ (r = 1 → m = 0 → high o.prec k = true) from ⟨by have := Hq.out; omega, fun h => by have := Hq5.out; omega, fun _ _ => hhi⟩)
                      have hw := Lib.hid (bstep Hhw.out hb4)
                      have hB1 := Lib.hid (HhB1.out.below hb4)
                      have hB2 := Lib.hid (HhB2.out.below hb4)
                      clear Hhw HhB1 HhB2 hhi
                      have Hhw := hw
                      have HhB1 := hB1
                      have HhB2 := hB2
                      go_wp2_with fail
                      go_roundw
                      case measure => simp [intOf]; have := Hlt.out; omega
                      case rel =>
                        repeat (apply Exists.intro)
                        refine ⟨?rel2, ?frame⟩
                        case frame => exact rfl
                        case rel2 =>
                          refine ⟨k + 1, by have := Hlt.out; omega, by go_num, fun j hj hjk => ?_, Hhw.out, HhB1.out, HhB2.out⟩
                          by_cases hjk' : j = k
                          · subst hjk'
                            have e1 : o.weights.getD j 0 = m := by
                              have : j < o.weights.length := by have := hF.out.1; omega
                              rw [Hhm'.out]; simp [this]
                            have q := HV.out
                            rw [Hhr.out] at q
                            refine ⟨by rw [e1]; exact q.1, fun h => by rw [e1]; exact q.2.1 h, fun h1 h2 => ?_⟩
                            rw [e1] at h2
                            exact of_decide_eq_true (q.2.2 h1 h2)
                          · exact Hhall.out j hj (by omega)
                  · have q8 : (m == 0) = false := by simpa using q7
                    have HV := Lib.hid (show (0 ≤ m ∧ m ≤ 1000) ∧ (r = 0 → o.var ≤ m) ∧ (r = 1 → m = 0 → high o.prec k = true) from ⟨by omega, fun h => by omega, fun _ h => absurd h q7⟩)
                    clear hG q3 q5 q7
                    go_wp2_with fail
                    go_roundw
                    case rel =>
                      refine ⟨k + 1, by have := Hlt.out; omega, by go_num, fun j hj hjk => ?_, Hhw.out, HhB1.out, HhB2.out⟩
                      by_cases hjk' : j = k
                      · subst hjk'
                        have e1 : o.weights.getD j 0 = m := by
                          have : j < o.weights.length := by have := hF.out.1; omega
                          rw [Hhm'.out]; simp [this]
                        have q := HV.out
                        rw [Hhr.out] at q
                        refine ⟨by rw [e1]; exact q.1, fun h => by rw [e1]; exact q.2.1 h, fun h1 h2 => ?_⟩
                        rw [e1] at h2
                        exact of_decide_eq_true (q.2.2 h1 h2)
                      · exact Hhall.out j hj (by omega)
                    case measure => simp [intOf]; have := Hlt.out; omega
                · have q6 : (r == 1) = false := by simpa using q5
                  have HV := Lib.hid (show (0 ≤ m ∧ m ≤ 1000) ∧ (r = 0 → o.var ≤ m) ∧ (r = 1 → m = 0 → high o.prec k = true) from ⟨by omega, fun h => absurd h q3, fun h => absurd h q5⟩)
                  clear hG q3 q5
                  go_wp2_with fail
                  go_roundw
                  case rel =>
                    refine ⟨k + 1, by have := Hlt.out; omega, by go_num, fun j hj hjk => ?_, Hhw.out, HhB1.out, HhB2.out⟩
                    by_cases hjk' : j = k
                    · subst hjk'
                      have e1 : o.weights.getD j 0 = m := by
                        have : j < o.weights.length := by have := hF.out.1; omega
                        rw [Hhm'.out]; simp [this]
                      have q := HV.out
                      rw [Hhr.out] at q
                      refine ⟨by rw [e1]; exact q.1, fun h => by rw [e1]; exact q.2.1 h, fun h1 h2 => ?_⟩
                      rw [e1] at h2
                      exact of_decide_eq_true (q.2.2 h1 h2)
                    · exact Hhall.out j hj (by omega)
                  case measure => simp [intOf]; have := Hlt.out; omega
            · have HV := Lib.hid (show OrdOk sg o from ⟨h1'.out, hlen.out, hrk.out, fun _ => ⟨hF.out.1, hF.out.2.1, hF.out.2.2.1, hF.out.2.2.2, fun i h => hall.out i h (by omega)⟩⟩)
              go_wp2_with fail
              go_ret
              exact ⟨⟨0, rfl, fun _ => HV.out⟩, hw⟩
  · have hqb : (sigCheck sg != 0) = true := by simpa using h1
    have Hhs0 := Lib.hid hs0
    have Hho0 := Lib.hid ho0
    clear hs0 ho0
    clear h1
    generalize sigCheck sg = q at *
    go_enter Try.func28, Try.ntmps28
    go_wp2_with fail
    refine (SC _ _ (Hhs0.out.below (balloc2 _ _ _))).mono ?_
    rintro e w1 ⟨rfl, hb1⟩
    obtain ⟨B1, B2, hw1⟩ := box2 hb1
    have k0 := B1 0 _ rfl
    obtain ⟨u0, u1, u2, u3⟩ := B2.four
    have Hhw1 := Lib.hid hw1
    have HB1 := Lib.hid B1
    have HB2 := Lib.hid B2
    clear hw1 B1 B2
    clear hb1
    go_wp2_with fail
    go_ret
    exact ⟨⟨2, rfl, fun h => by omega⟩, Hhw1.out⟩

end Go.Proofs.Ytlkiabgpnboicaa

/- The walk through the document's check of a term. -/
namespace Go.Proofs.Ytlkiabgpnboicaa
open Go.RowKit Go.Sort Go

set_option maxHeartbeats 2000000 in
theorem tcheck_any (sg : List Sy) (t : T) (w : World) (vs v : Value) (hz : t.size ≤ 4294967296) (hs : IsSig w sg vs) (hv : IsT w t v) :
    Calls Try.prog 29 #[vs, v] w fun e w' => e = .returned (.int .i64 (t.check sg)) ∧ Below w.heap.size w w' := by
  have hs0 := hs
  have hv0 := hv
  obtain ⟨a, c, rfl, hc, hm, hsl⟩ := hs
  obtain ⟨_, a1, c1, rfl, _, _, _⟩ := hv.form
  have E : t.check sg = if sigCheck sg = 0 ∧ t.small 48 = true ∧ t.over sg true = true then 0 else 2 := rfl
  have SC := fun w v h => sigCheck_any sg w v h
  have SM := fun w v h => small_any 48 (by omega) t w v hz h
  have OV := fun w vs v a b => over_any sg t true w vs v a b
  generalize t.check sg = r at *
  generalize sigCheck sg = q at *
  generalize t.small 48 = p at *
  generalize t.over sg true = o at *
  clear hv hsl
  have Hhs0 := Lib.hid hs0
  have Hhv0 := Lib.hid hv0
  have HE := Lib.hid E
  clear hs0 hv0 E
  go_enter Try.func29, Try.ntmps29
  go_wp2_with fail
  refine (SC _ _ (Hhs0.out.below (balloc2 _ _ _))).mono ?_
  rintro e w1 ⟨rfl, hb1⟩
  obtain ⟨B1, B2, hw1⟩ := box2 hb1
  have k0 := B1 0 _ rfl
  obtain ⟨u0, u1⟩ := B2.two
  have Hhw1 := Lib.hid hw1
  have HB1 := Lib.hid B1
  have HB2 := Lib.hid B2
  clear hw1 B1 B2
  clear hb1 SC
  by_cases h1 : q = 0
  · have q0 : (q != 0) = false := by simp [h1]
    have h1 := Lib.hid h1
    go_wp2_with fail
    refine (SM _ _ (Hhv0.out.below Hhw1.out)).mono ?_
    rintro e w2 ⟨rfl, hb2⟩
    have hw2 := bstep Hhw1.out hb2
    have C1 := HB1.out.below hb2
    have C2 := HB2.out.below hb2
    clear k0 u0 u1 hb2 Hhw1 HB1 HB2 SM
    have k0 := C1 0 _ rfl
    obtain ⟨u0, u1⟩ := C2.two
    have Hhw2 := Lib.hid hw2
    have HC1 := Lib.hid C1
    have HC2 := Lib.hid C2
    clear hw2 C1 C2
    cases p with
    | false =>
      go_wp2_with fail
      go_ret
      exact ⟨rint (by rw [HE.out, if_neg (by simp)]), Hhw2.out⟩
    | true =>
      go_wp2_with fail
      refine (OV _ _ _ (Hhs0.out.below Hhw2.out) (Hhv0.out.below Hhw2.out)).mono ?_
      rintro e w3 ⟨rfl, hb3⟩
      have hw3 := bstep Hhw2.out hb3
      clear k0 u0 u1 hb3 Hhw2 HC1 HC2 OV
      have Hhw3 := Lib.hid hw3
      clear hw3
      cases o with
      | false =>
        go_wp2_with fail
        go_ret
        exact ⟨rint (by rw [HE.out, if_neg (by simp)]), Hhw3.out⟩
      | true =>
        go_wp2_with fail
        go_ret
        exact ⟨rint (by rw [HE.out, if_pos ⟨h1.out, by first | rfl | trivial, by first | rfl | trivial⟩]), Hhw3.out⟩
  · have q0 : (q != 0) = true := by simpa using h1
    have h1 := Lib.hid h1
    go_wp2_with fail
    go_ret
    exact ⟨rint (by rw [HE.out, if_neg (fun h => h1.out h.1)]), Hhw1.out⟩

end Go.Proofs.Ytlkiabgpnboicaa

/- The walk through Fits: may a lexicographic order and terms be over a signature? -/
namespace Go.Proofs.Ytlkiabgpnboicaa
open Go.RowKit Go

def LFits (sg : List Sy) (o : Od) (l : List T) : Prop := o.lpo = true ∧ OrdOk sg o ∧ ∀ t ∈ l, t.check sg = 0
def NumOk (Q : Prop) (v : Value) (_ : World) : Prop := ∃ n : Int, v = .int .i64 n ∧ (n = 0 → Q)
def BoolOk (Q : Prop) (v : Value) (_ : World) : Prop := ∃ b : Bool, v = .bool b ∧ (b = false → Q)
theorem check_take {sg : List Sy} {l : List T} {k : Nat} (h : k < l.length) (ht : ∀ t ∈ l.take k, t.check sg = 0) (hx : (tget l k).check sg = 0) : ∀ t ∈ l.take (k + 1), t.check sg = 0 := by
  intro t hm
  rw [List.take_succ_eq_append_getElem h, ← tget_lt h] at hm
  rcases List.mem_append.1 hm with hm | hm
  · exact ht t hm
  · obtain rfl : t = tget l k := by simpa using hm
    exact hx
theorem ordCheck_of {sg : List Sy} {o : Od} {w : World} {vs vo : Value} (hs : IsSig w sg vs) (ho : IsOd w o vo) : Calls Try.prog 28 #[vs, vo] w (Ret fun v' w' => NumOk (OrdOk sg o) v' w' ∧ Below w.heap.size w w') :=
  (ordCheck_any sg o w vs vo hs ho).mono (by rintro e w' ⟨⟨n, rfl, h⟩, hb⟩; exact ⟨_, rfl, ⟨n, rfl, h⟩, hb⟩)
set_option maxRecDepth 100000 in
theorem fits_any (sg : List Sy) (o : Od) (l : List T) (w : World) (vs vo : Value) (al : Option Addr) (cl : Nat) (hz : ∀ t ∈ l, t.size ≤ 4294967296) (hs : IsSig w sg vs) (ho : IsOd w o vo) (hc : l.length ≤ cl) (hm : cl ≤ maxLen) (hl : IsTs w l al 0) :
    Calls Try.prog 13 #[vs, vo, .slice al l.length cl] w (Ret fun v' w' => BoolOk True v' w' ∧ (v' = .bool true → LFits sg o l) ∧ Below w.heap.size w w') := by
  have hst := hs
  have hot := ho
  obtain ⟨p1, p2, k1, k2, rfl, _, _, _, _, hp, _, _⟩ := ho
  obtain ⟨a, c, rfl, _, _, _⟩ := hs
  unfold maxLen at hm
  refine Calls.walk (l := [.agg #[.slice a sg.length c], .agg #[.bool o.lpo, .slice p1 o.prec.length k1, .slice p2 o.weights.length k2, .int .i64 o.var], .slice al l.length cl]) Try.func13 rfl (by kernel_rfl) ?_
  refine WC.sub (K' := [(0, .agg #[.slice a sg.length c]), (1, .agg #[.bool o.lpo, .slice p1 o.prec.length k1, .slice p2 o.weights.length k2, .int .i64 o.var]), (2, .slice al l.length cl)]) ⟨rfl, rfl, rfl, trivial⟩ ?_
  refine WC.seq ?_
  refine WC.region ?_
  refine WL.step (post := NewBlk w 35 #[.slice a sg.length c]) rfl rfl rfl (fun za zC zh zk => box_35 rfl (zh.ev rfl) (zk _ _ (newBlk _ _ _))) ?_
  rintro _ w1 ⟨g2, rfl, hg3, hB4, hb5, hz6⟩
  have hl7 : w.heap.size ≤ g2 := by omega
  refine WL.step (post := NewBlk w1 24 #[.bool o.lpo, .slice p1 o.prec.length k1, .slice p2 o.weights.length k2, .int .i64 o.var]) rfl rfl rfl (fun za zC zh zk => box_24 rfl (zh.ev rfl) (zk _ _ (newBlk _ _ _))) ?_
  rintro _ w8 ⟨g9, rfl, hg10, hB11, hb12, hz13⟩
  have hl14 : g2 < g9 := by have z1 := hB4.lt; omega
  have hl15 : w.heap.size ≤ g9 := by have z2 := (hb5).size; omega
  refine WL.val (.bool false) rfl rfl rfl (fun za zC zh zk => wp_assign rfl (zh.ev rfl) zk) ?_
  refine WL.nil (WE.sub (K' := [(0, .agg #[.slice a sg.length c]), (1, .agg #[.bool o.lpo, .slice p1 o.prec.length k1, .slice p2 o.weights.length k2, .int .i64 o.var]), (2, .slice al l.length cl), (3, .pointer (some ⟨g2, 0, none⟩)), (4, .pointer (some ⟨g9, 0, none⟩)), (6, .bool false)]) ⟨rfl, rfl, rfl, rfl, rfl, rfl, trivial⟩ ?_)
  refine WE.next ?_
  refine WC.seq ?_
  refine WC.seq ?_
  have hB16 := hB4.below hb12
  have hb17 : Below w.heap.size w w8 := (bstep hb5 hb12)
  refine WC.opt [(true, .val (.pointer (some ⟨g9, 0, none⟩))), (true, .val (.bool o.lpo)), (true, .val (.bool ((!o.lpo)))), (true, .val (.bool ((!o.lpo)))), ((true && !(!o.lpo)), .val (.agg #[.slice a sg.length c])), ((true && !(!o.lpo)), .val (.agg #[.bool o.lpo, .slice p1 o.prec.length k1, .slice p2 o.weights.length k2, .int .i64 o.var])), ((true && !(!o.lpo)), .mem (NumOk (OrdOk sg o)) (fun _ _ _ _ h => h)), ((true && !(!o.lpo)), .mem (BoolOk (OrdOk sg o)) (fun _ _ _ _ h => h)), (true, .mem (BoolOk (o.lpo = true ∧ OrdOk sg o)) (fun _ _ _ _ h => h))] [(0, .agg #[.slice a sg.length c]), (1, .agg #[.bool o.lpo, .slice p1 o.prec.length k1, .slice p2 o.weights.length k2, .int .i64 o.var]), (2, .slice al l.length cl), (3, .pointer (some ⟨g2, 0, none⟩)), (4, .pointer (some ⟨g9, 0, none⟩)), (6, .bool false)] ⟨rfl, rfl, rfl, rfl, rfl, rfl, trivial⟩ (by kernel_rfl) (by kernel_rfl) (by kernel_rfl) ?_ ?_
  · refine ⟨⟨true, .none rfl, fun h w => optUndef h, fun zβ za zw zc => ?_⟩, ?_⟩
    · exact fld_24_0 rfl (zc.kn.ev rfl) ⟨_, rfl, Below.refl _ _, optDef zβ rfl⟩
    refine ⟨⟨true, .none rfl, fun h w => optUndef h, fun zβ za zw zc => ?_⟩, ?_⟩
    · exact ld_4 rfl ((show za.eval (.tmp 8) = za.tmps.getD 8 undef from rfl).trans (optVal (zc.dep 0 8 (by kernel_rfl)) rfl rfl)) (bkeeps zc.below _ _ ((hB11.cell 0).trans rfl)) ⟨_, rfl, Below.refl _ _, optDef zβ rfl⟩
    refine ⟨⟨true, .none rfl, fun h w => optUndef h, fun zβ za zw zc => ?_⟩, ?_⟩
    · exact wp_not rfl ((show za.eval (.tmp 9) = za.tmps.getD 9 undef from rfl).trans (optVal (zc.dep 1 9 (by kernel_rfl)) rfl rfl)) ⟨_, rfl, Below.refl _ _, optDef zβ rfl⟩
    refine ⟨⟨true, .none rfl, fun h w => optUndef h, fun zβ za zw zc => ?_⟩, ?_⟩
    · exact wp_move rfl ((show za.eval (.tmp 10) = za.tmps.getD 10 undef from rfl).trans (optVal (zc.dep 2 10 (by kernel_rfl)) rfl rfl)) ⟨_, rfl, Below.refl _ _, optDef zβ rfl⟩
    refine ⟨⟨(true && !(!o.lpo)), .no (c := (!o.lpo)) (d := true) rfl (fun v w h => h), fun h w => optUndef h, fun zβ za zw zc => ?_⟩, ?_⟩
    · exact ld_35 rfl (zc.kn.ev rfl) (bkeeps zc.below _ _ ((hB16.cell 0).trans rfl)) ⟨_, rfl, Below.refl _ _, optDef zβ rfl⟩
    refine ⟨⟨(true && !(!o.lpo)), .no (c := (!o.lpo)) (d := true) rfl (fun v w h => h), fun h w => optUndef h, fun zβ za zw zc => ?_⟩, ?_⟩
    · exact ld_24 rfl (zc.kn.ev rfl) (bkeeps zc.below _ _ ((hB11.cell 0).trans rfl)) (bkeeps zc.below _ _ ((hB11.cell 1).trans rfl)) (bkeeps zc.below _ _ ((hB11.cell 2).trans rfl)) (bkeeps zc.below _ _ ((hB11.cell 3).trans rfl)) ⟨_, rfl, Below.refl _ _, optDef zβ rfl⟩
    refine ⟨⟨(true && !(!o.lpo)), .no (c := (!o.lpo)) (d := true) rfl (fun v w h => h), fun h w => optUndef h, fun zβ za zw zc => ?_⟩, ?_⟩
    · exact wp_call (by kernel_rfl) rfl (hv2 ((show za.eval (.tmp 12) = za.tmps.getD 12 undef from rfl).trans (optVal (zc.dep 4 12 (by kernel_rfl)) rfl zβ)) ((show za.eval (.tmp 13) = za.tmps.getD 13 undef from rfl).trans (optVal (zc.dep 5 13 (by kernel_rfl)) rfl zβ))) (ordCheck_of (IsSig.below (bstep hb17 zc.below) hst) (hot.below (bstep hb17 zc.below))) (fun v w' h => ⟨v, rfl, h.2, optDef zβ h.1⟩)
    refine ⟨⟨(true && !(!o.lpo)), .no (c := (!o.lpo)) (d := true) rfl (fun v w h => h), fun h w => optUndef h, fun zβ za zw zc => ?_⟩, ?_⟩
    · obtain ⟨n, e, h⟩ := (optMem (zc.dep 6 14 (by kernel_rfl)) rfl zβ)
      exact neq_56 rfl ((show za.eval (.tmp 14) = za.tmps.getD 14 undef from rfl).trans e) rfl ⟨_, rfl, Below.refl _ _, optDef zβ ⟨_, rfl, fun z => h (by simpa using z)⟩⟩
    refine ⟨⟨true, .none rfl, fun h w => optUndef h, fun zβ za zw zc => ?_⟩, ?_⟩
    · cases hl1 : o.lpo with
      | false => exact wp_or (q := false) rfl ((show za.eval (.tmp 11) = za.tmps.getD 11 undef from rfl).trans (optVal (zc.dep 3 11 (by kernel_rfl)) rfl rfl)) (fun hp => by rw [hl1] at hp; cases hp) ⟨_, rfl, Below.refl _ _, optDef zβ ⟨_, rfl, fun z => by rw [hl1] at z; cases z⟩⟩
      | true =>
        obtain ⟨b, e, h⟩ := (optMem (zc.dep 7 15 (by kernel_rfl)) rfl (by rw [hl1]; rfl))
        exact wp_or (q := b) rfl ((show za.eval (.tmp 11) = za.tmps.getD 11 undef from rfl).trans (optVal (zc.dep 3 11 (by kernel_rfl)) rfl rfl)) (fun hp => (show za.eval (.tmp 15) = za.tmps.getD 15 undef from rfl).trans e) ⟨_, rfl, Below.refl _ _, optDef zβ ⟨_, rfl, fun z => ⟨rfl, h (by rw [hl1] at z; simpa using z)⟩⟩⟩
    exact trivial
  · intro za w18 zh hb19 zu
    obtain ⟨bf, hbf, hfit⟩ := (optMem (zu 8 16 (by kernel_rfl)) rfl rfl)
    have zh := zh.cons (d := 16) hbf
    clear zu
    refine (show WE _ [(0, .agg #[.slice a sg.length c]), (1, .agg #[.bool o.lpo, .slice p1 o.prec.length k1, .slice p2 o.weights.length k2, .int .i64 o.var]), (2, .slice al l.length cl), (3, .pointer (some ⟨g2, 0, none⟩)), (4, .pointer (some ⟨g9, 0, none⟩)), (6, .bool false), (16, .bool bf)] w18 _ .normal from ?_) za (zh.sub ⟨rfl, rfl, rfl, rfl, rfl, rfl, rfl, trivial⟩)
    refine WE.next ?_
    refine WC.cond rfl (fun h20 => ?_) (fun h20 => ?_)
    · skip
      refine WC.seq ?_
      refine WC.region ?_
      refine WL.val (.bool false) rfl rfl rfl (fun za zC zh zk => wp_assign rfl (zh.ev rfl) zk) ?_
      refine WL.nil (WE.sub (K' := [(0, .agg #[.slice a sg.length c]), (1, .agg #[.bool o.lpo, .slice p1 o.prec.length k1, .slice p2 o.weights.length k2, .int .i64 o.var]), (2, .slice al l.length cl), (3, .pointer (some ⟨g2, 0, none⟩)), (4, .pointer (some ⟨g9, 0, none⟩)), (6, .bool false), (16, .bool bf)]) ⟨rfl, rfl, rfl, rfl, rfl, rfl, rfl, trivial⟩ ?_)
      refine WE.next ?_
      refine WC.ret ?_
      refine WE.thenRet ?_
      refine WE.ret1 rfl rfl ?_
      have hb21 : Below w.heap.size w w18 := (bstep hb17 hb19)
      exact ⟨_, rfl, ⟨_, rfl, fun _ => trivial⟩, (fun h => by cases h), hb21⟩
    · skip
      refine WC.skip ?_
      refine WE.next ?_
      refine WC.seq ?_
      refine WC.seq ?_
      refine WC.region ?_
      refine WL.val (.int .i64 0) rfl rfl rfl (fun za zC zh zk => wp_assign rfl (zh.ev rfl) zk) ?_
      refine WL.nil (WE.sub (K' := [(0, .agg #[.slice a sg.length c]), (1, .agg #[.bool o.lpo, .slice p1 o.prec.length k1, .slice p2 o.weights.length k2, .int .i64 o.var]), (2, .slice al l.length cl), (3, .pointer (some ⟨g2, 0, none⟩)), (4, .pointer (some ⟨g9, 0, none⟩)), (6, .bool false), (7, .int .i64 0), (16, .bool bf)]) ⟨rfl, rfl, rfl, rfl, rfl, rfl, rfl, rfl, trivial⟩ ?_)
      refine WE.next ?_
      refine WC.block ?_
      refine WC.loop (X := Nat) (fun k => l.length - k) (fun k => [(0, .agg #[.slice a sg.length c]), (1, .agg #[.bool o.lpo, .slice p1 o.prec.length k1, .slice p2 o.weights.length k2, .int .i64 o.var]), (2, .slice al l.length cl), (3, .pointer (some ⟨g2, 0, none⟩)), (4, .pointer (some ⟨g9, 0, none⟩)), (7, .int .i64 (((k : Nat) : Int))), (16, .bool bf)]) (fun k w22 => k ≤ l.length ∧ (∀ t ∈ l.take k, t.check sg = 0) ∧ Below w.heap.size w w22 ∧ Blk w22 g2 35 #[.slice a sg.length c] ∧ Blk w22 g9 24 #[.bool o.lpo, .slice p1 o.prec.length k1, .slice p2 o.weights.length k2, .int .i64 o.var]) 0 ⟨rfl, rfl, rfl, rfl, rfl, rfl, rfl, trivial⟩ ?_ ?_
      · have hb23 : Below w.heap.size w w18 := (bstep hb17 hb19)
        have hB24 := hB16.below hb19
        have hB25 := hB11.below hb19
        exact ⟨Nat.zero_le _, (fun t h => by simp at h), hb23, hB24, hB25⟩
      · rintro k w22 ⟨hk, hall, hb26, hB27, hB28⟩
        refine WC.seq ?_
        refine WC.seq ?_
        refine WC.region ?_
        refine WL.val (.int .i64 (((k : Nat) : Int))) rfl rfl rfl (fun za zC zh zk => wp_move rfl (zh.ev rfl) zk) ?_
        refine WL.val (.slice al l.length cl) rfl rfl rfl (fun za zC zh zk => wp_move rfl (zh.ev rfl) zk) ?_
        refine WL.val (.int .i64 (((l.length : Nat) : Int))) rfl rfl rfl (fun za zC zh zk => len_25 rfl (zh.ev rfl) zk) ?_
        refine WL.val (.bool ((decide ((((k : Nat) : Int) : Int) < (((l.length : Nat) : Int) : Int))))) rfl rfl rfl (fun za zC zh zk => lss_3 rfl (zh.ev rfl) (zh.ev rfl) zk) ?_
        refine WL.nil (WE.sub (K' := [(0, .agg #[.slice a sg.length c]), (1, .agg #[.bool o.lpo, .slice p1 o.prec.length k1, .slice p2 o.weights.length k2, .int .i64 o.var]), (2, .slice al l.length cl), (3, .pointer (some ⟨g2, 0, none⟩)), (4, .pointer (some ⟨g9, 0, none⟩)), (7, .int .i64 (((k : Nat) : Int))), (16, .bool bf), (20, .bool ((decide ((((k : Nat) : Int) : Int) < (((l.length : Nat) : Int) : Int)))))]) ⟨rfl, rfl, rfl, rfl, rfl, rfl, rfl, rfl, trivial⟩ ?_)
        refine WE.next ?_
        refine WC.cond rfl (fun h29 => ?_) (fun h29 => ?_)
        · have h29 : (((k : Nat) : Int) : Int) < (((l.length : Nat) : Int) : Int) := by simpa using h29
          refine WC.skip ?_
          refine WE.next ?_
          refine WC.seq ?_
          refine WC.block ?_
          refine WC.seq ?_
          obtain ⟨b30, o31, A32, C33, ha34, hc35⟩ := IsTs.open hl
          refine WC.opt [(true, .val (.agg #[.slice a sg.length c])), (true, .val (.slice al l.length cl)), (true, .val (.int .i64 (((k : Nat) : Int)))), (true, .val (.pointer (some ⟨b30, o31 + k * 2, none⟩))), (true, .val (.agg #[.int .i64 ((tget l k).f), .slice ((A32 k)) ((tget l k).args.length) ((C33 k))])), (true, .val (.int .i64 (((tget l k).check sg)))), (true, .val (.bool (((((tget l k).check sg) : Int) != (0 : Int)))))] [(0, .agg #[.slice a sg.length c]), (1, .agg #[.bool o.lpo, .slice p1 o.prec.length k1, .slice p2 o.weights.length k2, .int .i64 o.var]), (2, .slice al l.length cl), (3, .pointer (some ⟨g2, 0, none⟩)), (4, .pointer (some ⟨g9, 0, none⟩)), (7, .int .i64 (((k : Nat) : Int))), (16, .bool bf), (20, .bool ((decide ((((k : Nat) : Int) : Int) < (((l.length : Nat) : Int) : Int)))))] ⟨rfl, rfl, rfl, rfl, rfl, rfl, rfl, rfl, trivial⟩ (by kernel_rfl) (by kernel_rfl) (by kernel_rfl) ?_ ?_
          · refine ⟨⟨true, .none rfl, fun h w => optUndef h, fun zβ za zw zc => ?_⟩, ?_⟩
            · exact ld_35 rfl (zc.kn.ev rfl) (bkeeps zc.below _ _ ((hB27.cell 0).trans rfl)) ⟨_, rfl, Below.refl _ _, optDef zβ rfl⟩
            refine ⟨⟨true, .none rfl, fun h w => optUndef h, fun zβ za zw zc => ?_⟩, ?_⟩
            · exact wp_move rfl (zc.kn.ev rfl) ⟨_, rfl, Below.refl _ _, optDef zβ rfl⟩
            refine ⟨⟨true, .none rfl, fun h w => optUndef h, fun zβ za zw zc => ?_⟩, ?_⟩
            · exact wp_move rfl (zc.kn.ev rfl) ⟨_, rfl, Below.refl _ _, optDef zβ rfl⟩
            refine ⟨⟨true, .none rfl, fun h w => optUndef h, fun zβ za zw zc => ?_⟩, ?_⟩
            · exact ix_25 (k := k) rfl ((show za.eval (.tmp 24) = za.tmps.getD 24 undef from rfl).trans (optVal (zc.dep 1 24 (by kernel_rfl)) rfl rfl)) (ha34 k (by first | omega | (simp; omega))) ((show za.eval (.tmp 25) = za.tmps.getD 25 undef from rfl).trans (optVal (zc.dep 2 25 (by kernel_rfl)) rfl rfl)) (by first | omega | (simp; omega)) ⟨_, rfl, Below.refl _ _, optDef zβ rfl⟩
            refine ⟨⟨true, .none rfl, fun h w => optUndef h, fun zβ za zw zc => ?_⟩, ?_⟩
            · exact ld_27 rfl ((show za.eval (.tmp 26) = za.tmps.getD 26 undef from rfl).trans (optVal (zc.dep 3 26 (by kernel_rfl)) rfl rfl)) (bkeeps (bstep hb26 zc.below) _ _ (hc35 k (by first | omega | (simp; omega))).1) (bkeeps (bstep hb26 zc.below) _ _ (hc35 k (by first | omega | (simp; omega))).2.1) ⟨_, rfl, Below.refl _ _, optDef zβ rfl⟩
            refine ⟨⟨true, .none rfl, fun h w => optUndef h, fun zβ za zw zc => ?_⟩, ?_⟩
            · exact wp_call (by kernel_rfl) rfl (hv2 ((show za.eval (.tmp 23) = za.tmps.getD 23 undef from rfl).trans (optVal (zc.dep 0 23 (by kernel_rfl)) rfl rfl)) ((show za.eval (.tmp 27) = za.tmps.getD 27 undef from rfl).trans (optVal (zc.dep 4 27 (by kernel_rfl)) rfl rfl))) (ret_of (tcheck_any sg (tget l k) _ _ _ (hz _ (tget_mem (by omega))) (IsSig.below (bstep hb26 zc.below) hst) (IsT.below (bstep hb26 zc.below) (hc35 k (by first | omega | (simp; omega))).2.2))) (fun v w' h => ⟨v, rfl, h.2, optDef zβ h.1⟩)
            refine ⟨⟨true, .none rfl, fun h w => optUndef h, fun zβ za zw zc => ?_⟩, ?_⟩
            · exact neq_56 rfl ((show za.eval (.tmp 28) = za.tmps.getD 28 undef from rfl).trans (optVal (zc.dep 5 28 (by kernel_rfl)) rfl rfl)) (zc.kn.ev rfl) ⟨_, rfl, Below.refl _ _, optDef zβ rfl⟩
            exact trivial
          · intro za w36 zh hb37 zu
            have zh := zh.cons (d := 29) (v := .bool (((((tget l k).check sg) : Int) != (0 : Int)))) (optVal (zu 6 29 (by kernel_rfl)) rfl rfl)
            clear zu
            refine (show WE _ [(0, .agg #[.slice a sg.length c]), (1, .agg #[.bool o.lpo, .slice p1 o.prec.length k1, .slice p2 o.weights.length k2, .int .i64 o.var]), (2, .slice al l.length cl), (3, .pointer (some ⟨g2, 0, none⟩)), (4, .pointer (some ⟨g9, 0, none⟩)), (7, .int .i64 (((k : Nat) : Int))), (16, .bool bf), (20, .bool ((decide ((((k : Nat) : Int) : Int) < (((l.length : Nat) : Int) : Int))))), (29, .bool (((((tget l k).check sg) : Int) != (0 : Int))))] w36 _ .normal from ?_) za (zh.sub ⟨rfl, rfl, rfl, rfl, rfl, rfl, rfl, rfl, rfl, trivial⟩)
            refine WE.next ?_
            refine WC.cond rfl (fun h38 => ?_) (fun h38 => ?_)
            · have h38 : (((tget l k).check sg) : Int) ≠ (0 : Int) := by simpa using h38
              refine WC.seq ?_
              refine WC.region ?_
              refine WL.val (.bool false) rfl rfl rfl (fun za zC zh zk => wp_assign rfl (zh.ev rfl) zk) ?_
              refine WL.nil (WE.sub (K' := [(0, .agg #[.slice a sg.length c]), (1, .agg #[.bool o.lpo, .slice p1 o.prec.length k1, .slice p2 o.weights.length k2, .int .i64 o.var]), (2, .slice al l.length cl), (3, .pointer (some ⟨g2, 0, none⟩)), (4, .pointer (some ⟨g9, 0, none⟩)), (6, .bool false), (7, .int .i64 (((k : Nat) : Int))), (16, .bool bf), (20, .bool ((decide ((((k : Nat) : Int) : Int) < (((l.length : Nat) : Int) : Int))))), (29, .bool (((((tget l k).check sg) : Int) != (0 : Int))))]) ⟨rfl, rfl, rfl, rfl, rfl, rfl, rfl, rfl, rfl, rfl, trivial⟩ ?_)
              refine WE.next ?_
              refine WC.ret ?_
              refine WE.blockRet ?_
              refine WE.thenRet ?_
              refine WE.thenRet ?_
              refine WE.blockRet ?_
              refine WE.thenRet ?_
              refine WE.ret1 rfl rfl ?_
              have hb39 : Below w.heap.size w w36 := (bstep hb26 hb37)
              exact ⟨_, rfl, ⟨_, rfl, fun _ => trivial⟩, (fun h => by cases h), hb39⟩
            · have h38 : ¬ ((((tget l k).check sg) : Int) ≠ (0 : Int)) := by simpa using h38
              refine WC.skip ?_
              refine WE.blockNormal ?_
              refine WE.next ?_
              refine WC.region ?_
              refine WL.val (.int .i64 (((k : Nat) : Int))) rfl rfl rfl (fun za zC zh zk => wp_move rfl (zh.ev rfl) zk) ?_
              refine WL.val (.int .i64 ((((k + 1) : Nat) : Int))) rfl rfl rfl (fun za zC zh zk => addb_3 rfl (zh.ev rfl) (zh.ev rfl) (wrap_eq (by omega) (by omega) (by omega)) zk) ?_
              refine WL.val (.int .i64 ((((k + 1) : Nat) : Int))) rfl rfl rfl (fun za zC zh zk => wp_assign rfl (zh.ev rfl) zk) ?_
              refine WL.nil (WE.sub (K' := [(0, .agg #[.slice a sg.length c]), (1, .agg #[.bool o.lpo, .slice p1 o.prec.length k1, .slice p2 o.weights.length k2, .int .i64 o.var]), (2, .slice al l.length cl), (3, .pointer (some ⟨g2, 0, none⟩)), (4, .pointer (some ⟨g9, 0, none⟩)), (7, .int .i64 ((((k + 1) : Nat) : Int))), (16, .bool bf), (20, .bool ((decide ((((k : Nat) : Int) : Int) < (((l.length : Nat) : Int) : Int))))), (29, .bool (((((tget l k).check sg) : Int) != (0 : Int))))]) ⟨rfl, rfl, rfl, rfl, rfl, rfl, rfl, rfl, rfl, trivial⟩ ?_)
              refine WE.round (k + 1) ⟨rfl, rfl, rfl, rfl, rfl, rfl, rfl, trivial⟩ ?_ ?_
              · have hb40 : Below w.heap.size w w36 := (bstep hb26 hb37)
                have hB41 := hB27.below hb37
                have hB42 := hB28.below hb37
                exact ⟨by omega, check_take (by omega) hall (by have z := h38; simpa using z), hb40, hB41, hB42⟩
              · omega
        · have h29 : ¬ ((((k : Nat) : Int) : Int) < (((l.length : Nat) : Int) : Int)) := by simpa using h29
          refine WC.exit ?_
          refine WE.thenExit ?_
          refine WE.thenExit ?_
          refine WE.blockIs rfl ?_
          refine WE.next ?_
          refine WC.seq ?_
          refine WC.region ?_
          refine WL.val (.bool true) rfl rfl rfl (fun za zC zh zk => wp_assign rfl (zh.ev rfl) zk) ?_
          refine WL.nil (WE.sub (K' := [(0, .agg #[.slice a sg.length c]), (1, .agg #[.bool o.lpo, .slice p1 o.prec.length k1, .slice p2 o.weights.length k2, .int .i64 o.var]), (2, .slice al l.length cl), (3, .pointer (some ⟨g2, 0, none⟩)), (4, .pointer (some ⟨g9, 0, none⟩)), (6, .bool true), (7, .int .i64 (((k : Nat) : Int))), (16, .bool bf), (20, .bool ((decide ((((k : Nat) : Int) : Int) < (((l.length : Nat) : Int) : Int)))))]) ⟨rfl, rfl, rfl, rfl, rfl, rfl, rfl, rfl, rfl, trivial⟩ ?_)
          refine WE.next ?_
          refine WC.ret ?_
          refine WE.ret1 rfl rfl ?_
          exact ⟨_, rfl, ⟨_, rfl, fun _ => trivial⟩, fun _ => ⟨(hfit (by simpa using h20)).1, (hfit (by simpa using h20)).2, fun t ht => hall t (by rw [List.take_of_length_le (by omega)]; exact ht)⟩, hb26⟩

end Go.Proofs.Ytlkiabgpnboicaa

/- A relation the other way round: the walk. -/
namespace Go.Proofs.Ytlkiabgpnboicaa
open Go.RowKit Go

def turned (r : Int) : Int := if r = 1 then 3 else if r = 3 then 1 else r
set_option maxRecDepth 100000 in
theorem turned_any (r : Int) (w : World) : Calls Try.prog 14 #[.int .i64 r] w (Ret fun v' w' => v' = .int .i64 (turned r) ∧ Below w.heap.size w w') := by
  refine Calls.walk (l := [.int .i64 r]) Try.func14 rfl (by kernel_rfl) ?_
  refine WC.sub (K' := [(0, .int .i64 r)]) ⟨rfl, trivial⟩ ?_
  refine WC.seq ?_
  refine WC.region ?_
  refine WL.val (.int .i64 0) rfl rfl rfl (fun za zC zh zk => wp_assign rfl (zh.ev rfl) zk) ?_
  refine WL.nil (WE.sub (K' := [(0, .int .i64 r), (2, .int .i64 0)]) ⟨rfl, rfl, trivial⟩ ?_)
  refine WE.next ?_
  refine WC.seq ?_
  refine WC.seq ?_
  refine WC.region ?_
  refine WL.val (.int .i64 r) rfl rfl rfl (fun za zC zh zk => wp_move rfl (zh.ev rfl) zk) ?_
  refine WL.nil (WE.sub (K' := [(0, .int .i64 r), (2, .int .i64 0), (3, .int .i64 r)]) ⟨rfl, rfl, rfl, trivial⟩ ?_)
  refine WE.next ?_
  refine WC.block ?_
  refine WC.seq ?_
  refine WC.region ?_
  refine WL.val (.bool (((r : Int) == (1 : Int)))) rfl rfl rfl (fun za zC zh zk => eql_30 rfl (zh.ev rfl) (zh.ev rfl) zk) ?_
  refine WL.val (.bool (((r : Int) == (1 : Int)))) rfl rfl rfl (fun za zC zh zk => wp_assign rfl (zh.ev rfl) zk) ?_
  refine WL.nil (WE.sub (K' := [(0, .int .i64 r), (2, .int .i64 0), (3, .int .i64 r), (4, .bool (((r : Int) == (1 : Int))))]) ⟨rfl, rfl, rfl, rfl, trivial⟩ ?_)
  refine WE.next ?_
  refine WC.cond rfl (fun h1 => ?_) (fun h1 => ?_)
  · have h1 : (r : Int) = (1 : Int) := by simpa using h1
    refine WC.seq ?_
    refine WC.region ?_
    refine WL.val (.int .i64 3) rfl rfl rfl (fun za zC zh zk => wp_assign rfl (zh.ev rfl) zk) ?_
    refine WL.nil (WE.sub (K' := [(0, .int .i64 r), (2, .int .i64 3), (3, .int .i64 r), (4, .bool (((r : Int) == (1 : Int))))]) ⟨rfl, rfl, rfl, rfl, trivial⟩ ?_)
    refine WE.next ?_
    refine WC.ret ?_
    refine WE.blockRet ?_
    refine WE.thenRet ?_
    refine WE.ret1 rfl rfl ?_
    exact ⟨_, rfl, congrArg (Value.int .i64) (by unfold turned; first | (rw [if_pos (by assumption)]; done) | (rw [if_neg (by assumption), if_pos (by assumption)]; done) | rw [if_neg (by assumption), if_neg (by assumption)]), (Below.refl _ _)⟩
  · have h1 : ¬ ((r : Int) = (1 : Int)) := by simpa using h1
    refine WC.seq ?_
    refine WC.region ?_
    refine WL.val (.bool (((r : Int) == (3 : Int)))) rfl rfl rfl (fun za zC zh zk => eql_30 rfl (zh.ev rfl) (zh.ev rfl) zk) ?_
    refine WL.val (.bool (((r : Int) == (3 : Int)))) rfl rfl rfl (fun za zC zh zk => wp_assign rfl (zh.ev rfl) zk) ?_
    refine WL.nil (WE.sub (K' := [(0, .int .i64 r), (2, .int .i64 0), (3, .int .i64 r), (4, .bool (((r : Int) == (1 : Int)))), (6, .bool (((r : Int) == (3 : Int))))]) ⟨rfl, rfl, rfl, rfl, rfl, trivial⟩ ?_)
    refine WE.next ?_
    refine WC.cond rfl (fun h2 => ?_) (fun h2 => ?_)
    · have h2 : (r : Int) = (3 : Int) := by simpa using h2
      refine WC.seq ?_
      refine WC.region ?_
      refine WL.val (.int .i64 1) rfl rfl rfl (fun za zC zh zk => wp_assign rfl (zh.ev rfl) zk) ?_
      refine WL.nil (WE.sub (K' := [(0, .int .i64 r), (2, .int .i64 1), (3, .int .i64 r), (4, .bool (((r : Int) == (1 : Int)))), (6, .bool (((r : Int) == (3 : Int))))]) ⟨rfl, rfl, rfl, rfl, rfl, trivial⟩ ?_)
      refine WE.next ?_
      refine WC.ret ?_
      refine WE.blockRet ?_
      refine WE.thenRet ?_
      refine WE.ret1 rfl rfl ?_
      exact ⟨_, rfl, congrArg (Value.int .i64) (by unfold turned; first | (rw [if_pos (by assumption)]; done) | (rw [if_neg (by assumption), if_pos (by assumption)]; done) | rw [if_neg (by assumption), if_neg (by assumption)]), (Below.refl _ _)⟩
    · have h2 : ¬ ((r : Int) = (3 : Int)) := by simpa using h2
      refine WC.skip ?_
      refine WE.blockNormal ?_
      refine WE.next ?_
      refine WC.seq ?_
      refine WC.region ?_
      refine WL.val (.int .i64 r) rfl rfl rfl (fun za zC zh zk => wp_move rfl (zh.ev rfl) zk) ?_
      refine WL.val (.int .i64 r) rfl rfl rfl (fun za zC zh zk => wp_assign rfl (zh.ev rfl) zk) ?_
      refine WL.nil (WE.sub (K' := [(0, .int .i64 r), (2, .int .i64 r), (3, .int .i64 r), (4, .bool (((r : Int) == (1 : Int)))), (6, .bool (((r : Int) == (3 : Int))))]) ⟨rfl, rfl, rfl, rfl, rfl, trivial⟩ ?_)
      refine WE.next ?_
      refine WC.ret ?_
      refine WE.ret1 rfl rfl ?_
      exact ⟨_, rfl, congrArg (Value.int .i64) (by unfold turned; first | (rw [if_pos (by assumption)]; done) | (rw [if_neg (by assumption), if_pos (by assumption)]; done) | rw [if_neg (by assumption), if_neg (by assumption)]), (Below.refl _ _)⟩

end Go.Proofs.Ytlkiabgpnboicaa

/- Operations, one law a kind and type. -/
namespace Go.Proofs.Ytlkiabgpnboicaa
open Go.RowKit Go

theorem leq_3 {w : World} {a : Act} {K : Act → World → Prop} {Q : Exit → Act → World → Prop} {o : Oper} {x y : Operand} {m n : Int} (ho : o.op = .binOp .leq 3 x y 3) (hx : a.eval x = .int .i64 m) (hy : a.eval y = .int .i64 n) (hK : K (a.put o.dst (.bool (decide (m ≤ n)))) w) : o.wp Try.prog a w K Q := by
  unfold Oper.wp execOp
  simp only [ho, hx, hy]
  go_simp
  exact hK
theorem fld_35_0 {w : World} {a : Act} {K : Act → World → Prop} {Q : Exit → Act → World → Prop} {o : Oper} {x : Operand} {b p : Nat} (ho : o.op = .fieldAddr 35 x 0) (hx : a.eval x = .pointer (some ⟨b, p, none⟩)) (hK : K (a.put o.dst (.pointer (some ⟨b, p, none⟩))) w) : o.wp Try.prog a w K Q := by
  unfold Oper.wp execOp
  simp only [ho, hx]
  go_simp
  exact hK
theorem ld_33 {w : World} {a : Act} {K : Act → World → Prop} {Q : Exit → Act → World → Prop} {o : Oper} {x : Operand} {p : Addr} {v : Value} (ho : o.op = .load 33 x) (hx : a.eval x = .pointer (some p)) (hc : w.cell? p = some v) (hK : K (a.put o.dst (v)) w) : o.wp Try.prog a w K Q := by
  unfold Oper.wp execOp
  simp only [ho, hx]
  go_simp
  exact hK
theorem len_33 {w : World} {a : Act} {K : Act → World → Prop} {Q : Exit → Act → World → Prop} {o : Oper} {x : Operand} {r : Option Addr} {n c : Nat} (ho : o.op = .call { callee := .builtin .len, args := #[x], argTypes := #[33] }) (hx : a.eval x = .slice r n c) (hK : K (a.put o.dst (.int .i64 n)) w) : o.wp Try.prog a w K Q := by
  unfold Oper.wp execOp
  simp only [ho, resolve, List.map_toArray, List.map_cons, List.map_nil, hx]
  go_simp
  exact hK
theorem fld_24_2 {w : World} {a : Act} {K : Act → World → Prop} {Q : Exit → Act → World → Prop} {o : Oper} {x : Operand} {b p : Nat} (ho : o.op = .fieldAddr 24 x 2) (hx : a.eval x = .pointer (some ⟨b, p, none⟩)) (hK : K (a.put o.dst (.pointer (some ⟨b, p + 2, none⟩))) w) : o.wp Try.prog a w K Q := by
  unfold Oper.wp execOp
  simp only [ho, hx]
  go_simp
  exact hK
theorem fld_24_3 {w : World} {a : Act} {K : Act → World → Prop} {Q : Exit → Act → World → Prop} {o : Oper} {x : Operand} {b p : Nat} (ho : o.op = .fieldAddr 24 x 3) (hx : a.eval x = .pointer (some ⟨b, p, none⟩)) (hK : K (a.put o.dst (.pointer (some ⟨b, p + 3, none⟩))) w) : o.wp Try.prog a w K Q := by
  unfold Oper.wp execOp
  simp only [ho, hx]
  go_simp
  exact hK
theorem ix_33 {w : World} {a : Act} {K : Act → World → Prop} {Q : Exit → Act → World → Prop} {o : Oper} {x y : Operand} {r : Option Addr} {b p n c k : Nat} (ho : o.op = .indexAddr 33 x y) (hx : a.eval x = .slice r n c) (hr : r = some ⟨b, p, none⟩) (hy : a.eval y = .int .i64 (k : Int)) (hk : k < n) (hK : K (a.put o.dst (.pointer (some ⟨b, p + k * 3, none⟩))) w) : o.wp Try.prog a w K Q := by
  subst hr
  have h0 : (0 : Int) ≤ (k : Int) := by omega
  have h1 : (k : Int) < (n : Int) := by omega
  unfold Oper.wp execOp
  simp only [ho, hx, hy]
  go_simp
  exact hK
theorem fld_79_1 {w : World} {a : Act} {K : Act → World → Prop} {Q : Exit → Act → World → Prop} {o : Oper} {x : Operand} {b p : Nat} (ho : o.op = .fieldAddr 79 x 1) (hx : a.eval x = .pointer (some ⟨b, p, none⟩)) (hK : K (a.put o.dst (.pointer (some ⟨b, p + 1, none⟩))) w) : o.wp Try.prog a w K Q := by
  unfold Oper.wp execOp
  simp only [ho, hx]
  go_simp
  exact hK
theorem rem_3 {w : World} {a : Act} {K : Act → World → Prop} {Q : Exit → Act → World → Prop} {o : Oper} {x y : Operand} {m n : Int} (ho : o.op = .binOp .rem 3 x y 3) (hx : a.eval x = .int .i64 m) (hy : a.eval y = .int .i64 n) (h0 : ¬ n = 0) (hK : K (a.put o.dst (.int .i64 (m.tmod n))) w) : o.wp Try.prog a w K Q := by
  unfold Oper.wp execOp
  simp only [ho, hx, hy]
  go_simp
  exact hK
theorem build_44_0_1 {w : World} {a : Act} {K : Act → World → Prop} {Q : Exit → Act → World → Prop} {o : Oper} {x0 x1 : Operand} {c0a : Option Addr} {c0n c0c : Nat} {c1 c2 : Value} (ho : o.op = .build 44 #[(0, x0), (1, x1)]) (h0 : a.eval x0 = .slice c0a c0n c0c) (h1 : a.eval x1 = .agg #[c1, c2]) (hK : K (a.put o.dst (.agg #[.slice c0a c0n c0c, c1, c2])) w) : o.wp Try.prog a w K Q := by
  unfold Oper.wp execOp
  simp only [ho, List.map_toArray, List.map_cons, List.map_nil, h0, h1]
  go_simp
  exact hK
theorem row_40_1 {w : World} {a : Act} {K : Act → World → Prop} {Q : Exit → Act → World → Prop} {o : Oper} {x0 : Operand} {c0 c1 c2 : Value} (ho : o.op = .buildSlice 40 1 #[(0, x0)]) (h0 : a.eval x0 = .agg #[c0, c1, c2]) (hK : K (a.put o.dst (.slice (some ⟨w.heap.size, 0, none⟩) 1 1)) (w.alloc (.cells #[c0, c1, c2] 44))) : o.wp Try.prog a w K Q := by
  unfold Oper.wp execOp
  simp only [ho, List.map_toArray, List.map_cons, List.map_nil, h0]
  go_simp
  exact hK
theorem row_42_1 {w : World} {a : Act} {K : Act → World → Prop} {Q : Exit → Act → World → Prop} {o : Oper} {x0 : Operand} {c0 : Int} (ho : o.op = .buildSlice 42 1 #[(0, x0)]) (h0 : a.eval x0 = .int .i64 c0) (hK : K (a.put o.dst (.slice (some ⟨w.heap.size, 0, none⟩) 1 1)) (w.alloc (.cells #[.int .i64 c0] 3))) : o.wp Try.prog a w K Q := by
  unfold Oper.wp execOp
  simp only [ho, List.map_toArray, List.map_cons, List.map_nil, h0]
  go_simp
  exact hK
theorem len_42 {w : World} {a : Act} {K : Act → World → Prop} {Q : Exit → Act → World → Prop} {o : Oper} {x : Operand} {r : Option Addr} {n c : Nat} (ho : o.op = .call { callee := .builtin .len, args := #[x], argTypes := #[42] }) (hx : a.eval x = .slice r n c) (hK : K (a.put o.dst (.int .i64 n)) w) : o.wp Try.prog a w K Q := by
  unfold Oper.wp execOp
  simp only [ho, resolve, List.map_toArray, List.map_cons, List.map_nil, hx]
  go_simp
  exact hK
theorem ix_42 {w : World} {a : Act} {K : Act → World → Prop} {Q : Exit → Act → World → Prop} {o : Oper} {x y : Operand} {r : Option Addr} {b p n c k : Nat} (ho : o.op = .indexAddr 42 x y) (hx : a.eval x = .slice r n c) (hr : r = some ⟨b, p, none⟩) (hy : a.eval y = .int .i64 (k : Int)) (hk : k < n) (hK : K (a.put o.dst (.pointer (some ⟨b, p + k, none⟩))) w) : o.wp Try.prog a w K Q := by
  subst hr
  have h0 : (0 : Int) ≤ (k : Int) := by omega
  have h1 : (k : Int) < (n : Int) := by omega
  unfold Oper.wp execOp
  simp only [ho, hx, hy]
  go_simp
  exact hK
theorem app_42 {w : World} {a : Act} {K : Act → World → Prop} {Q : Exit → Act → World → Prop} {o : Oper} {s x : Operand} {n m rc : Nat} {S : Nat → Prop} {ra : Option Addr} {y : Value} {xs news : List Value} (ho : o.op = .call { callee := .builtin .append, args := #[s, x], argTypes := #[42, 42] }) (hs : a.eval s = .slice ra n rc) (hx : a.eval x = y) (hown : Own w S 3 1 ra rc n xs) (hsrc : SrcIs w y m news) (hl : news.length = m * 1) (h1 : ∀ u ∈ news, u.oneCell' = true)
    (hb : (n + m) * 8 ≤ 140737488355328) (hn : n + m ≤ 9223372036854775807) (hS : S w.heap.size) (hK : ∀ ra rc w', Own w' S 3 1 ra rc (n + m) (xs ++ news) → Chg S w w' → K (a.put o.dst (.slice ra (n + m) rc)) w') : o.wp Try.prog a w K Q :=
  wp_own Try.underlying42 (z := .int .i64 0) (size := 1) (bytes := 8) (by kernel_rfl) rfl (by decide) ho hs hx hown hsrc hl h1 hb hn hS hK
theorem app_40 {w : World} {a : Act} {K : Act → World → Prop} {Q : Exit → Act → World → Prop} {o : Oper} {s x : Operand} {n m rc : Nat} {S : Nat → Prop} {ra : Option Addr} {y : Value} {xs news : List Value} (ho : o.op = .call { callee := .builtin .append, args := #[s, x], argTypes := #[40, 40] }) (hs : a.eval s = .slice ra n rc) (hx : a.eval x = y) (hown : Own w S 44 3 ra rc n xs) (hsrc : SrcIs w y m news) (hl : news.length = m * 3) (h1 : ∀ u ∈ news, u.oneCell' = true)
    (hb : (n + m) * 56 ≤ 140737488355328) (hn : n + m ≤ 9223372036854775807) (hS : S w.heap.size) (hK : ∀ ra rc w', Own w' S 44 3 ra rc (n + m) (xs ++ news) → Chg S w w' → K (a.put o.dst (.slice ra (n + m) rc)) w') : o.wp Try.prog a w K Q :=
  wp_own Try.underlying40 (z := .agg #[.slice none 0 0, .int .i64 0, .slice none 0 0]) (size := 3) (bytes := 56) (by kernel_rfl) rfl (by decide) ho hs hx hown hsrc hl h1 hb hn hS hK

end Go.Proofs.Ytlkiabgpnboicaa

/- The lexicographic path order is an order: irreflexive, transitive, above its own subterms. -/
namespace Go.Proofs.Ytlkiabgpnboicaa

namespace T
theorem has_arg {v : Int} {a t : T} (h : a ∈ t.args) (hv : has v a = true) : has v t = true := by
  obtain ⟨f, l⟩ := t
  have h : a ∈ l := h
  rw [has, hasL_any, List.any_eq_true.2 ⟨a, h, hv⟩]; simp
theorem has_top (t : T) : has t.f t = true := by obtain ⟨f, l⟩ := t; rw [has]; simp
theorem has_cases {v : Int} {t : T} (h : has v t = true) : t.f = v ∨ ∃ a ∈ t.args, has v a = true := by
  obtain ⟨f, l⟩ := t
  rw [has, hasL_any, Bool.or_eq_true, decide_eq_true_eq, List.any_eq_true] at h
  exact h
theorem size_arg {a t : T} (h : a ∈ t.args) : a.size < t.size := by
  have h1 := size_le_sizeL h
  have h2 := size_eq t
  omega
/-- A subterm, the term itself too. -/
inductive Sub (s : T) : T → Prop where
  | refl : Sub s s
  | arg {b t : T} (h : b ∈ t.args) (k : Sub s b) : Sub s t
theorem Sub.size {s t : T} (h : Sub s t) : s.size ≤ t.size := by
  induction h with
  | refl => exact Nat.le_refl _
  | arg hb _ ih => have := size_arg hb; omega
theorem Sub.trans {a s t : T} (h : Sub a s) (k : Sub s t) : Sub a t := by
  induction k with
  | refl => exact h
  | arg hb _ ih => exact .arg hb ih
end T

theorem lexR_self (R : T → T → Bool) : ∀ l, lexR R l l = false
  | [] => rfl
  | a :: r => by rw [lexR, if_pos (T.same_refl a), lexR_self R r]

namespace Od
variable {o : Od}
theorem lg_iff {s t : T} : o.lg s t = true ↔ ¬ s.f < 0 ∧ ((t.f < 0 ∧ T.has t.f s = true) ∨ (¬ t.f < 0 ∧ ((∃ a ∈ s.args, a = t ∨ o.lg a t = true) ∨ (s.f ≠ t.f ∧ o.rank t.f < o.rank s.f ∧ ∀ b ∈ t.args, o.lg s b = true) ∨ (s.f = t.f ∧ (∀ b ∈ t.args, o.lg s b = true) ∧ lexR o.lg s.args t.args = true)))) := by
  rw [lg_eq, lstep]
  by_cases h1 : s.f < 0
  · simp [h1]
  · by_cases h2 : t.f < 0
    · simp [h1, h2]
    · by_cases h3 : s.f = t.f
      · simp [h2, h3, T.same_iff]
      · simp [h1, h2, h3, T.same_iff]
theorem lg_pos {s t : T} (h : o.lg s t = true) : ¬ s.f < 0 := (lg_iff.1 h).1
/-- Above what an argument is above. -/
theorem lg_sub {s a t : T} (hs : ¬ s.f < 0) (ha : a ∈ s.args) (h : a = t ∨ o.lg a t = true) : o.lg s t = true := by
  rw [lg_iff]
  refine ⟨hs, ?_⟩
  by_cases ht : t.f < 0
  · refine .inl ⟨ht, T.has_arg ha ?_⟩
    rcases h with rfl | h
    · exact T.has_top _
    · rcases (lg_iff.1 h).2 with h | h
      · exact h.2
      · exact absurd ht h.1
  · exact .inr ⟨ht, .inl ⟨a, ha, h⟩⟩
theorem lg_arg {s a : T} (hs : ¬ s.f < 0) (ha : a ∈ s.args) : o.lg s a = true := lg_sub hs ha (.inl rfl)

/-- Nothing is above what it is part of. -/
theorem lg_not_sub : ∀ (n : Nat) (s t : T), s.size + t.size ≤ n → o.lknows t = true → T.Sub s t → o.lg s t = true → False
  | 0, s, _, hn, _, _, _ => by have := T.size_eq s; omega
  | n + 1, s, t, hn, hk, hsub, h => by
    obtain ⟨hs, h⟩ := lg_iff.1 h
    rcases h with ⟨ht, _⟩ | ⟨ht, h⟩
    · cases hsub with
      | refl => exact hs ht
      | arg hb k => rw [(lknows_top hk).2 ht] at hb; simp at hb
    · rcases h with ⟨a, ha, h⟩ | ⟨hne, _, hall⟩ | ⟨he, hall, hlex⟩
      · have h1 := T.size_arg ha
        have h2 := hsub.size
        rcases h with rfl | h
        · omega
        · exact lg_not_sub n a t (by omega) hk ((T.Sub.arg ha .refl).trans hsub) h
      · cases hsub with
        | refl => exact hne rfl
        | arg hb k => have := T.size_arg hb; exact lg_not_sub n s _ (by omega) (lknows_arg hk hb).1 k (hall _ hb)
      · cases hsub with
        | refl => rw [lexR_self] at hlex; cases hlex
        | arg hb k => have := T.size_arg hb; exact lg_not_sub n s _ (by omega) (lknows_arg hk hb).1 k (hall _ hb)
theorem lg_irrefl {s : T} (hk : o.lknows s = true) : o.lg s s = false := by
  cases h : o.lg s s with
  | false => rfl
  | true => exact (lg_not_sub _ s s (Nat.le_refl _) hk .refl h).elim

/-- What is above has all the variables. -/
theorem lg_vars {v : Int} (hv : v < 0) : ∀ (n : Nat) (s t : T), s.size + t.size ≤ n → o.lknows t = true → o.lg s t = true → T.has v t = true → T.has v s = true
  | 0, s, _, hn, _, _, _ => by have := T.size_eq s; omega
  | n + 1, s, t, hn, hk, h, hh => by
    obtain ⟨hs, h⟩ := lg_iff.1 h
    rcases h with ⟨ht, h⟩ | ⟨ht, h⟩
    · rcases T.has_cases hh with e | ⟨b, hb, _⟩
      · rw [← e]; exact h
      · rw [(lknows_top hk).2 ht] at hb; simp at hb
    · have key : (∀ b ∈ t.args, o.lg s b = true) → T.has v s = true := fun hall => by
        rcases T.has_cases hh with e | ⟨b, hb, hb2⟩
        · omega
        · have := T.size_arg hb; exact lg_vars hv n s b (by omega) (lknows_arg hk hb).1 (hall b hb) hb2
      rcases h with ⟨a, ha, h⟩ | ⟨_, _, hall⟩ | ⟨_, hall, _⟩
      · have := T.size_arg ha
        refine T.has_arg ha ?_
        rcases h with rfl | h
        · exact hh
        · exact lg_vars hv n a t (by omega) hk h hh
      · exact key hall
      · exact key hall

theorem lexR_trans {R : T → T → Bool} : ∀ (l q r : List T), (∀ a ∈ l, ∀ b ∈ q, ∀ c ∈ r, R a b = true → R b c = true → R a c = true) → (∀ a ∈ r, R a a = false) → lexR R l q = true → lexR R q r = true → lexR R l r = true
  | [], _, _, _, _, h, _ => by simp [lexR] at h
  | _ :: _, [], _, _, _, _, h => by simp [lexR] at h
  | _ :: _, _ :: _, [], _, _, _, _ => rfl
  | a :: l, b :: q, c :: r, ht, hi, h1, h2 => by
    have ih := lexR_trans l q r (fun a ha b hb c hc => ht a (by simp [ha]) b (by simp [hb]) c (by simp [hc])) (fun a ha => hi a (by simp [ha]))
    rw [lexR] at h1 h2 ⊢
    by_cases e1 : a = b
    · subst e1
      rw [if_pos (T.same_refl a)] at h1
      by_cases e2 : a = c
      · subst e2
        rw [if_pos (T.same_refl a)] at h2 ⊢
        exact ih h1 h2
      · have n2 : ¬ T.same a c = true := fun e => e2 ((T.same_iff _ _).1 e)
        rw [if_neg n2] at h2 ⊢
        exact h2
    · have n1 : ¬ T.same a b = true := fun e => e1 ((T.same_iff _ _).1 e)
      rw [if_neg n1] at h1
      by_cases e2 : b = c
      · subst e2
        rw [if_neg n1]; exact h1
      · have n2 : ¬ T.same b c = true := fun e => e2 ((T.same_iff _ _).1 e)
        rw [if_neg n2] at h2
        have h3 := ht a (by simp) b (by simp) c (by simp) h1 h2
        by_cases e3 : a = c
        · subst e3
          rw [hi a (by simp)] at h3; cases h3
        · rw [if_neg (fun e => e3 ((T.same_iff _ _).1 e))]; exact h3

/-- It is transitive. -/
theorem lg_trans : ∀ (n : Nat) (s t u : T), s.size + t.size + u.size ≤ n → o.lknows t = true → o.lknows u = true → o.lg s t = true → o.lg t u = true → o.lg s u = true
  | 0, s, _, _, hn, _, _, _, _ => by have := T.size_eq s; omega
  | n + 1, s, t, u, hn, kt, ku, h1, h2 => by
    have h1' := h1
    have h2' := h2
    obtain ⟨hs, h1⟩ := lg_iff.1 h1
    obtain ⟨ht, h2⟩ := lg_iff.1 h2
    rcases h1 with ⟨h, _⟩ | ⟨_, h1⟩
    · exact absurd h ht
    rcases h2 with ⟨hu, h2⟩ | ⟨hu, h2⟩
    · exact lg_iff.2 ⟨hs, .inl ⟨hu, lg_vars hu _ s t (Nat.le_refl _) kt h1' h2⟩⟩
    rcases h1 with ⟨a, ha, h1⟩ | h1
    · have hsz := T.size_arg ha
      refine lg_sub hs ha (.inr ?_)
      rcases h1 with rfl | h1
      · exact h2'
      · exact lg_trans n a t u (by omega) kt ku h1 h2'
    · have hall : ∀ b ∈ t.args, o.lg s b = true := by rcases h1 with ⟨_, _, h⟩ | ⟨_, h, _⟩ <;> exact h
      rcases h2 with ⟨b, hb, h2⟩ | h2
      · have hsz := T.size_arg hb
        rcases h2 with rfl | h2
        · exact hall _ hb
        · exact lg_trans n s b u (by omega) (lknows_arg kt hb).1 ku (hall b hb) h2
      · have hallu : ∀ c ∈ u.args, o.lg t c = true := by rcases h2 with ⟨_, _, h⟩ | ⟨_, h, _⟩ <;> exact h
        have hsu : ∀ c ∈ u.args, o.lg s c = true := fun c hc => by
          have := T.size_arg hc
          exact lg_trans n s t c (by omega) kt (lknows_arg ku hc).1 h1' (hallu c hc)
        refine lg_iff.2 ⟨hs, .inr ⟨hu, .inr ?_⟩⟩
        rcases h1 with ⟨n1, r1, _⟩ | ⟨e1, _, l1⟩
        · rcases h2 with ⟨n2, r2, _⟩ | ⟨e2, _, _⟩
          · exact .inl ⟨fun e => by rw [e] at r1; omega, by omega, hsu⟩
          · exact .inl ⟨by rw [← e2]; exact n1, by rw [← e2]; exact r1, hsu⟩
        · rcases h2 with ⟨n2, r2, _⟩ | ⟨e2, _, l2⟩
          · exact .inl ⟨by rw [e1]; exact n2, by rw [e1]; exact r2, hsu⟩
          · refine .inr ⟨e1.trans e2, hsu, lexR_trans _ _ _ (fun a ha b hb c hc p q => ?_) (fun c hc => lg_irrefl (lknows_arg ku hc).1) l1 l2⟩
            have := T.size_arg ha
            have := T.size_arg hb
            have := T.size_arg hc
            exact lg_trans n a b c (by omega) (lknows_arg kt hb).1 (lknows_arg ku hc).1 p q
theorem lg_asymm {s t : T} (ks : o.lknows s = true) (kt : o.lknows t = true) (h : o.lg s t = true) : o.lg t s = false := by
  cases h2 : o.lg t s with
  | false => rfl
  | true => have := lg_trans _ s t s (Nat.le_refl _) kt ks h h2; rw [lg_irrefl ks] at this; cases this
/-- A term is above its own subterms. -/
theorem lg_subterm {s t : T} (hk : o.lknows t = true) (h : T.Sub s t) (hne : s ≠ t) : o.lg t s = true := by
  induction h with
  | refl => exact absurd rfl hne
  | @arg b t hb k ih =>
    have hb' := lknows_arg hk hb
    refine lg_sub (by omega) hb ?_
    by_cases e : s = b
    · exact .inl e.symm
    · exact .inr (ih hb'.1 e)
end Od

end Go.Proofs.Ytlkiabgpnboicaa

namespace Go.Proofs.Ytlkiabgpnboicaa

namespace T
mutual
def vars : T → List Int
  | .mk f l => if f < 0 then [f] else varsL l
def varsL : List T → List Int
  | [] => []
  | a :: r => vars a ++ varsL r
end

-- A term over arities: variables stand alone.
mutual
def ok (ar : List Int) : T → Bool
  | .mk f l => if f < 0 then l.isEmpty else decide (f < ar.length ∧ ar.getD f.toNat 0 = l.length) && okL ar l
def okL (ar : List Int) : List T → Bool
  | [] => true
  | a :: r => ok ar a && okL ar r
end

theorem okL_mem {ar : List Int} {l : List T} (h : okL ar l = true) : ∀ a ∈ l, ok ar a = true := by
  induction l with
  | nil => simp
  | cons b r ih =>
    simp only [okL, Bool.and_eq_true] at h
    intro a ha
    rcases List.mem_cons.1 ha with rfl | ha
    · exact h.1
    · exact ih h.2 a ha

theorem ok_cases {ar : List Int} {f : Int} {l : List T} (h : ok ar (.mk f l) = true) : f < 0 ∧ l = [] ∨ 0 ≤ f ∧ f < ar.length ∧ ar.getD f.toNat 0 = l.length ∧ okL ar l = true := by
  rw [ok] at h
  by_cases hf : f < 0
  · rw [if_pos hf] at h
    exact .inl ⟨hf, by simpa using h⟩
  · rw [if_neg hf] at h
    simp only [Bool.and_eq_true, decide_eq_true_eq] at h
    exact .inr ⟨by omega, h.1.1, h.1.2, h.2⟩

mutual
theorem often_vars {ar : List Int} {v : Int} (hv : v < 0) : ∀ t, ok ar t = true → often v t = (vars t).count v
  | .mk f l, h => by
    rcases ok_cases h with ⟨hf, rfl⟩ | ⟨hf, _, _, hl⟩
    · rw [often, oftenL, vars, if_pos hf]
      by_cases e : f = v
      · subst e; simp
      · simp [e]
    · rw [often, vars, if_neg (by omega), if_neg (by omega), often_varsL hv l hl]; omega
theorem often_varsL {ar : List Int} {v : Int} (hv : v < 0) : ∀ l, okL ar l = true → oftenL v l = (varsL l).count v
  | [], _ => by simp [oftenL, varsL]
  | a :: r, h => by
    simp only [okL, Bool.and_eq_true] at h
    rw [oftenL, varsL, List.count_append, often_vars hv a h.1, often_varsL hv r h.2]
end

mutual
theorem vars_neg : ∀ t, ∀ x ∈ vars t, x < 0
  | .mk f l => by
    intro x hx
    rw [vars] at hx
    by_cases hf : f < 0
    · rw [if_pos hf] at hx; simp at hx; omega
    · rw [if_neg hf] at hx; exact varsL_neg l x hx
theorem varsL_neg : ∀ l, ∀ x ∈ varsL l, x < 0
  | [] => by simp [varsL]
  | a :: r => by
    intro x hx
    rw [varsL, List.mem_append] at hx
    rcases hx with hx | hx
    · exact vars_neg a x hx
    · exact varsL_neg r x hx
end
end T

namespace Od

/-- No variable more often in t than in s. -/
def Cov (s t : T) : Prop := ∀ v, v < 0 → t.often v ≤ s.often v

mutual
theorem covers_iff {ar : List Int} {s t : T} : ∀ u, T.ok ar u = true → (covers s t u = true ↔ ∀ v ∈ T.vars u, t.often v ≤ s.often v)
  | .mk f l, h => by
    rcases T.ok_cases h with ⟨hf, rfl⟩ | ⟨hf, _, _, hl⟩
    · rw [covers, T.vars, if_pos hf, if_pos hf]; simp
    · rw [covers, T.vars, if_neg (by omega), if_neg (by omega)]; exact coversL_iff l hl
theorem coversL_iff {ar : List Int} {s t : T} : ∀ l, T.okL ar l = true → (coversL s t l = true ↔ ∀ v ∈ T.varsL l, t.often v ≤ s.often v)
  | [], _ => by simp [coversL, T.varsL]
  | a :: r, h => by
    simp only [T.okL, Bool.and_eq_true] at h
    rw [coversL, T.varsL, Bool.and_eq_true, covers_iff a h.1, coversL_iff r h.2]
    simp only [List.mem_append]
    constructor
    · rintro ⟨h1, h2⟩ v (hv | hv)
      · exact h1 v hv
      · exact h2 v hv
    · intro h
      exact ⟨fun v hv => h v (.inl hv), fun v hv => h v (.inr hv)⟩
end

theorem covers_cov {ar : List Int} {s t : T} (ht : T.ok ar t = true) : covers s t t = true ↔ Cov s t := by
  rw [covers_iff t ht]
  constructor
  · intro h v hv
    by_cases hm : v ∈ T.vars t
    · exact h v hm
    · rw [T.often_vars hv t ht, List.count_eq_zero.2 hm]; omega
  · intro h v hv
    exact h v (T.vars_neg t v hv)

/-- An order that may be, over arities. -/
structure Good (o : Od) (ar : List Int) : Prop where
  prec : o.prec.length = ar.length
  weights : o.weights.length = ar.length
  inj : ∀ f g : Int, 0 ≤ f → f < ar.length → 0 ≤ g → g < ar.length → o.rank f = o.rank g → f = g
  var : 1 ≤ o.var ∧ o.var ≤ 1000
  bound : ∀ f : Int, 0 ≤ f → f < ar.length → 0 ≤ o.wsym f ∧ o.wsym f ≤ 1000
  const : ∀ f : Int, 0 ≤ f → f < ar.length → ar.getD f.toNat 0 = 0 → o.var ≤ o.wsym f
  one : ∀ f : Int, 0 ≤ f → f < ar.length → ar.getD f.toNat 0 = 1 → o.wsym f = 0 → ∀ g : Int, 0 ≤ g → g < ar.length → o.rank g ≤ o.rank f

mutual
def wt (o : Od) : T → Int
  | .mk f l => o.wsym f + wtL o l
def wtL (o : Od) : List T → Int
  | [] => 0
  | a :: r => wt o a + wtL o r
end


theorem Good.clamp {o : Od} {ar : List Int} (G : Good o ar) {f : Int} (h : f < 0 ∨ 0 ≤ f ∧ f < ar.length) : Od.clamp (o.wsym f) = o.wsym f := by
  unfold Od.clamp most
  rcases h with h | ⟨h1, h2⟩
  · have := G.var; unfold wsym; rw [if_pos h]; omega
  · have := G.bound f h1 h2; omega

mutual
theorem Good.raw_wt {o : Od} {ar : List Int} (G : Good o ar) : ∀ t, T.ok ar t = true → o.raw t = o.wt t
  | .mk f l, h => by
    rcases T.ok_cases h with ⟨hf, rfl⟩ | ⟨h0, h1, _, hl⟩
    · rw [raw, wt, G.clamp (.inl hf)]; simp [rawL, wtL]
    · rw [raw, wt, G.clamp (.inr ⟨h0, h1⟩), Good.raw_wtL G l hl]
theorem Good.raw_wtL {o : Od} {ar : List Int} (G : Good o ar) : ∀ l, T.okL ar l = true → o.rawL l = o.wtL l
  | [], _ => by simp [rawL, wtL]
  | a :: r, h => by
    simp only [T.okL, Bool.and_eq_true] at h
    rw [rawL, wtL, Good.raw_wt G a h.1, Good.raw_wtL G r h.2]
end

mutual
theorem Good.wt_le {o : Od} {ar : List Int} (G : Good o ar) : ∀ t, T.ok ar t = true → o.wt t ≤ 1000 * t.size
  | .mk f l, h => by
    rcases T.ok_cases h with ⟨hf, rfl⟩ | ⟨h0, h1, _, hl⟩
    · have := G.var; rw [wt, T.size, wtL, T.sizeL]; unfold wsym; rw [if_pos hf]; omega
    · have := G.bound f h0 h1; have := Good.wtL_le G l hl; rw [wt, T.size]; omega
theorem Good.wtL_le {o : Od} {ar : List Int} (G : Good o ar) : ∀ l, T.okL ar l = true → o.wtL l ≤ 1000 * T.sizeL l
  | [], _ => by simp [wtL, T.sizeL]
  | a :: r, h => by
    simp only [T.okL, Bool.and_eq_true] at h
    have := Good.wt_le G a h.1; have := Good.wtL_le G r h.2
    rw [wtL, T.sizeL]; omega
end

mutual
theorem Good.var_le {o : Od} {ar : List Int} (G : Good o ar) : ∀ t, T.ok ar t = true → o.var ≤ o.wt t
  | .mk f l, h => by
    rcases T.ok_cases h with ⟨hf, rfl⟩ | ⟨h0, h1, h2, hl⟩
    · rw [wt, wtL]; unfold wsym; rw [if_pos hf]; omega
    · have b := G.bound f h0 h1
      cases l with
      | nil => have := G.const f h0 h1 (by simpa using h2); rw [wt, wtL]; omega
      | cons a r =>
        simp only [T.okL, Bool.and_eq_true] at hl
        have := Good.var_le G a hl.1; have := Good.wtL_nonneg G r hl.2
        rw [wt, wtL]; omega
theorem Good.wtL_nonneg {o : Od} {ar : List Int} (G : Good o ar) : ∀ l, T.okL ar l = true → 0 ≤ o.wtL l
  | [], _ => by simp [wtL]
  | a :: r, h => by
    simp only [T.okL, Bool.and_eq_true] at h
    have := Good.var_le G a h.1; have := Good.wtL_nonneg G r h.2; have := G.var
    rw [wtL]; omega
end

theorem Good.weight_wt {o : Od} {ar : List Int} (G : Good o ar) {t : T} (h : T.ok ar t = true) (hs : t.size ≤ 2000000) : o.weight t = o.wt t := by
  have := G.raw_wt t h
  have := G.wt_le t h
  unfold weight most
  omega

mutual
def kb (o : Od) : T → T → Bool
  | .mk f l, t =>
    covers (.mk f l) t t && (decide (o.wt t < o.wt (.mk f l)) || (decide (o.wt (.mk f l) = o.wt t) &&
      (if f < 0 then false else if t.f < 0 then around f t.f (.mk f l) else if f ≠ t.f then decide (o.rank t.f < o.rank f) else kbL o l t.args)))
def kbL (o : Od) : List T → List T → Bool
  | [], _ => false
  | _ :: _, [] => true
  | a :: r, b :: q => if T.same a b then kbL o r q else kb o a b
end

mutual
theorem Good.above_kb {o : Od} {ar : List Int} (G : Good o ar) : ∀ s t, T.ok ar s = true → T.ok ar t = true → s.size ≤ 2000000 → t.size ≤ 2000000 → o.above s t = o.kb s t
  | .mk f l, t, hs, ht, ss, st => by
    rw [above, kb, G.weight_wt hs ss, G.weight_wt ht st]
    rcases T.ok_cases hs with ⟨hf, rfl⟩ | ⟨h0, h1, _, hl⟩
    · simp [hf]
    · have := t.size_eq
      rw [T.size] at ss
      have : t.f < 0 ∨ T.okL ar t.args = true := by
        rw [← T.eta t] at ht
        rcases T.ok_cases ht with ⟨h, _⟩ | ⟨_, _, _, h⟩
        · exact .inl h
        · exact .inr h
      by_cases hg : t.f < 0
      · simp [hg]
      · rw [Good.aboveL_kb G l t.args hl (by rcases this with h | h; exact absurd h hg; exact h) (by omega) (by omega)]
theorem Good.aboveL_kb {o : Od} {ar : List Int} (G : Good o ar) : ∀ l q, T.okL ar l = true → T.okL ar q = true → T.sizeL l ≤ 2000000 → T.sizeL q ≤ 2000000 → o.aboveL l q = o.kbL l q
  | [], _, _, _, _, _ => by rw [aboveL, kbL]
  | _ :: _, [], _, _, _, _ => by rw [aboveL, kbL]
  | a :: r, b :: q, h1, h2, h3, h4 => by
    simp only [T.okL, Bool.and_eq_true] at h1 h2
    rw [T.sizeL] at h3 h4
    rw [aboveL, kbL, Good.aboveL_kb G r q h1.2 h2.2 (by omega) (by omega), Good.above_kb G a b h1.1 h2.1 (by omega) (by omega)]
end

/-- What decides between terms that weigh the same. -/
def Top (o : Od) (s t : T) : Prop :=
  0 ≤ s.f ∧ (t.f < 0 ∧ around s.f t.f s = true ∨ 0 ≤ t.f ∧ (s.f ≠ t.f ∧ o.rank t.f < o.rank s.f ∨ s.f = t.f ∧ o.kbL s.args t.args = true))

theorem kb_iff {o : Od} {ar : List Int} {s t : T} (ht : T.ok ar t = true) : o.kb s t = true ↔ Cov s t ∧ (o.wt t < o.wt s ∨ o.wt s = o.wt t ∧ o.Top s t) := by
  rw [← covers_cov ht]
  obtain ⟨f, l⟩ := s
  rw [kb]
  simp only [Bool.and_eq_true, Bool.or_eq_true, decide_eq_true_eq]
  refine and_congr_right fun _ => or_congr_right (and_congr_right fun _ => ?_)
  unfold Top
  simp only [T.f_mk, T.args_mk]
  by_cases h1 : f < 0
  · simp [h1]; omega
  · by_cases h2 : t.f < 0
    · have e1 : 0 ≤ f := by omega
      have e2 : ¬ 0 ≤ t.f := by omega
      simp [h1, h2, e1, e2]
    · by_cases h3 : f = t.f
      · have e : 0 ≤ t.f := by omega
        simp [h2, h3, e]
      · simp [h2, h3]; omega

theorem kbL_refl (o : Od) : ∀ l, o.kbL l l = false
  | [] => by rw [kbL]
  | a :: r => by rw [kbL, if_pos (T.same_refl a), kbL_refl o r]

theorem kb_irrefl (o : Od) (s : T) : o.kb s s = false := by
  obtain ⟨f, l⟩ := s
  rw [kb]
  by_cases h : f < 0
  · simp [h]
  · simp [h, kbL_refl]

theorem Cov.trans {s t u : T} (h : Cov s t) (k : Cov t u) : Cov s u := fun v hv => Nat.le_trans (k v hv) (h v hv)

theorem around_iff {f v : Int} {g : Int} {l : List T} : around f v (.mk g l) = true ↔ g = f ∧ ∃ a, l = [a] ∧ (a.f = v ∨ around f v a = true) := by
  match l with
  | [] => simp [around]
  | [a] => simp [around]
  | a :: b :: r => simp [around]

theorem ok_around {ar : List Int} {s : T} (h : T.ok ar s = true) {f v : Int} (hf : 0 ≤ f) (ha : around f v s = true) : s.f = f ∧ ar.getD f.toNat 0 = 1 ∧ ∃ a, s = .mk f [a] ∧ T.ok ar a = true ∧ (a.f = v ∨ around f v a = true) := by
  obtain ⟨g, l⟩ := s
  obtain ⟨rfl, a, rfl, h3⟩ := around_iff.1 ha
  rcases T.ok_cases h with ⟨h0, _⟩ | ⟨_, _, h1, h2⟩
  · omega
  · simp only [T.okL, Bool.and_eq_true] at h2
    exact ⟨rfl, by simpa using h1, a, rfl, h2.1, h3⟩


/-- Symbols around a variable that weigh as it does. -/
theorem Good.around_wt {o : Od} {ar : List Int} (G : Good o ar) : ∀ t, T.ok ar t = true → ∀ f v : Int, 0 ≤ f → v < 0 → around f v t = true → 0 ≤ o.wsym f → o.var + o.wsym f ≤ o.wt t := by
  intro t
  induction t using T.ind with
  | h g l ih =>
    intro ht f v hf hv ha hw
    obtain ⟨rfl, h1, a, e, h2, h3⟩ := ok_around ht hf ha
    simp only [T.mk.injEq, true_and, T.f_mk] at e
    subst e
    have := G.var_le a h2
    rw [wt, wtL, wtL]
    simp only [T.f_mk] at *
    omega

theorem Good.kb_var {o : Od} {ar : List Int} (G : Good o ar) {x : Int} {s : T} (hs : T.ok ar s = true) (hx : x < 0) (h : o.kb s (.mk x []) = true) (hw : o.wt s = o.var) : 0 ≤ s.f ∧ around s.f x s = true ∧ o.wsym s.f = 0 ∧ ∀ g : Int, 0 ≤ g → g < ar.length → o.rank g ≤ o.rank s.f := by
  have ok : T.ok ar (.mk x []) = true := by rw [T.ok, if_pos hx]; rfl
  have hwx : o.wt (.mk x []) = o.var := by rw [wt, wtL]; unfold wsym; rw [if_pos hx]; omega
  obtain ⟨_, h⟩ := (kb_iff ok).1 h
  rcases h with h | ⟨_, h0, h⟩
  · omega
  · rcases h with ⟨_, h⟩ | ⟨h, _⟩
    · obtain ⟨_, h1, a, e, h2, h3⟩ := ok_around hs h0 h
      have hlt : s.f < ar.length := by
        rw [← T.eta s] at hs
        rcases T.ok_cases hs with ⟨h, _⟩ | ⟨_, h, _⟩ <;> omega
      have b := G.bound s.f h0 hlt
      have := G.around_wt s hs s.f x h0 hx h b.1
      exact ⟨h0, h, by omega, G.one s.f h0 hlt h1 (by omega)⟩
    · simp only [T.f_mk] at h; omega

theorem kbL_trans {o : Od} {ar : List Int} : ∀ l q r : List T, l.length = q.length → q.length = r.length → T.okL ar l = true → T.okL ar q = true → T.okL ar r = true →
    (∀ a ∈ l, ∀ t u, T.ok ar a = true → T.ok ar t = true → T.ok ar u = true → o.kb a t = true → o.kb t u = true → o.kb a u = true) → o.kbL l q = true → o.kbL q r = true → o.kbL l r = true
  | [], _, _, _, _, _, _, _, _, h, _ => by simp [kbL] at h
  | a :: l, [], _, h, _, _, _, _, _, _, _ => by simp at h
  | a :: l, b :: q, [], _, h, _, _, _, _, _, _ => by simp at h
  | a :: l, b :: q, c :: r, h1, h2, k1, k2, k3, ih, h3, h4 => by
    simp only [T.okL, Bool.and_eq_true] at k1 k2 k3
    rw [kbL] at h3 h4 ⊢
    by_cases e1 : T.same a b = true
    · rw [if_pos e1] at h3
      obtain rfl := (T.same_iff _ _).1 e1
      by_cases e2 : T.same a c = true
      · rw [if_pos e2] at h4 ⊢
        exact kbL_trans l q r (by simpa using h1) (by simpa using h2) k1.2 k2.2 k3.2 (fun x hx => ih x (by simp [hx])) h3 h4
      · rw [if_neg e2] at h4 ⊢
        exact h4
    · rw [if_neg e1] at h3
      by_cases e2 : T.same b c = true
      · obtain rfl := (T.same_iff _ _).1 e2
        rw [if_neg e1]; exact h3
      · rw [if_neg e2] at h4
        have := ih a (by simp) b c k1.1 k2.1 k3.1 h3 h4
        have e3 : ¬ T.same a c = true := by
          intro e
          obtain rfl := (T.same_iff _ _).1 e
          rw [kb_irrefl] at this; cases this
        rw [if_neg e3]; exact this

theorem Good.kb_trans {o : Od} {ar : List Int} (G : Good o ar) : ∀ s t u, T.ok ar s = true → T.ok ar t = true → T.ok ar u = true → o.kb s t = true → o.kb t u = true → o.kb s u = true := by
  intro s
  induction s using T.ind with
  | h f l ih =>
  intro t u ks kt ku h k
  have h' := h
  have k' := k
  obtain ⟨c1, h⟩ := (kb_iff kt).1 h
  obtain ⟨c2, k⟩ := (kb_iff ku).1 k
  refine (kb_iff ku).2 ⟨c1.trans c2, ?_⟩
  rcases h with h | ⟨h1, h2, h3⟩
  · rcases k with k | ⟨k1, _⟩ <;> exact .inl (by omega)
  rcases k with k | ⟨k1, k2, k3⟩
  · exact .inl (by omega)
  refine .inr ⟨by omega, h2, ?_⟩
  simp only [T.f_mk, T.args_mk] at h2 h3 ⊢
  rcases h3 with ⟨h3, _⟩ | ⟨_, h3⟩
  · omega
  have hfl : f < ar.length ∧ ar.getD f.toNat 0 = l.length ∧ T.okL ar l = true := by
    rcases T.ok_cases ks with ⟨h, _⟩ | ⟨_, h, h'⟩
    · omega
    · exact ⟨h, h'⟩
  have htl : t.f < ar.length ∧ ar.getD t.f.toNat 0 = t.args.length ∧ T.okL ar t.args = true := by
    rw [← T.eta t] at kt
    rcases T.ok_cases kt with ⟨h, _⟩ | ⟨_, h, h'⟩
    · omega
    · exact ⟨h, h'⟩
  rcases k3 with ⟨k3, k4⟩ | ⟨k3, k4⟩
  · -- u is a variable
    obtain ⟨x, m⟩ := u
    simp only [T.f_mk] at k3 k4 ⊢
    have hm : m = [] := by
      rcases T.ok_cases ku with ⟨_, h⟩ | ⟨h, _⟩
      · exact h
      · omega
    subst hm
    have hwx : o.wt (.mk x []) = o.var := by rw [wt, wtL]; unfold wsym; rw [if_pos k3]; omega
    obtain ⟨_, _, z1, z2⟩ := G.kb_var kt k3 k' (by omega)
    refine .inl ⟨k3, ?_⟩
    rcases h3 with ⟨h3, h4⟩ | ⟨h3, h4⟩
    · have := z2 f h2 hfl.1; omega
    · subst h3
      obtain ⟨_, a1, b, e, kb, hb⟩ := ok_around kt k2 k4
      have e1 : t.args = [b] := by rw [e]; rfl
      rw [e1] at h4
      rw [a1] at hfl
      obtain ⟨a, rfl⟩ : ∃ a, l = [a] := by
        match l, hfl.2.1 with
        | [a], _ => exact ⟨a, rfl⟩
      have ka : T.ok ar a = true := by have := hfl.2.2; simp only [T.okL, Bool.and_eq_true] at this; exact this.1
      rw [kbL] at h4
      by_cases es : T.same a b = true
      · rw [if_pos es] at h4; simp [kbL] at h4
      rw [if_neg es] at h4
      have wa : o.wt a = o.var := by rw [wt, wtL, wtL] at h1; omega
      have hax : o.kb a (.mk x []) = true := by
        rcases hb with hb | hb
        · have : b = .mk x [] := by
            obtain ⟨y, m⟩ := b
            simp only [T.f_mk] at hb
            subst hb
            rcases T.ok_cases kb with ⟨_, h⟩ | ⟨h, _⟩
            · rw [h]
            · omega
          rw [← this]; exact h4
        · refine ih a (by simp) b _ ka kb ku h4 ((kb_iff ku).2 ⟨?_, .inr ⟨?_, ?_, .inl ⟨k3, ?_⟩⟩⟩)
          · intro v hv
            have := c2 v hv
            have e2 : t.often v = b.often v := by rw [e, T.often, T.oftenL, T.oftenL, if_neg (by omega)]; omega
            omega
          · rw [e, wt, wtL, wtL] at k1; omega
          · have := (ok_around kb k2 hb).1; omega
          · have := (ok_around kb k2 hb).1
            rw [this]; exact hb
      obtain ⟨y0, y1, y2, y3⟩ := G.kb_var ka k3 hax wa
      have haf : a.f < ar.length := by
        rw [← T.eta a] at ka
        rcases T.ok_cases ka with ⟨h, _⟩ | ⟨_, h, _⟩ <;> omega
      have eq : a.f = t.f := G.inj _ _ y0 haf k2 htl.1 (by have := z2 a.f y0 haf; have := y3 t.f k2 htl.1; omega)
      refine around_iff.2 ⟨rfl, a, rfl, .inr ?_⟩
      rw [← eq]; exact y1
  · -- u is none
    refine .inr ⟨k3, ?_⟩
    rcases h3 with ⟨h3, h4⟩ | ⟨h3, h4⟩
    · rcases k4 with ⟨k4, k5⟩ | ⟨k4, k5⟩
      · refine .inl ⟨?_, by omega⟩
        intro e; rw [e] at h4; omega
      · exact .inl ⟨by omega, by rw [← k4]; exact h4⟩
    · rcases k4 with ⟨k4, k5⟩ | ⟨k4, k5⟩
      · exact .inl ⟨by omega, by rw [h3]; exact k5⟩
      · have hul : ar.getD u.f.toNat 0 = u.args.length ∧ T.okL ar u.args = true := by
          rw [← T.eta u] at ku
          rcases T.ok_cases ku with ⟨h, _⟩ | ⟨_, _, h'⟩
          · omega
          · exact h'
        refine .inr ⟨by omega, kbL_trans l t.args u.args ?_ ?_ hfl.2.2 htl.2.2 hul.2 (fun a ha t u => ih a ha t u) h4 k5⟩
        · have h5 := hfl.2.1; have h6 := htl.2.1; rw [h3] at h5; omega
        · have h5 := hul.1; have h6 := htl.2.1; rw [k4] at h6; omega

end Od
end Go.Proofs.Ytlkiabgpnboicaa
