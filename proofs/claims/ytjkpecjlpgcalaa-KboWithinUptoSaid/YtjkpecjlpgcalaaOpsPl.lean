/- Operations on places, one law per kind and type. -/
import Derived.Test.YtjkpecjlpgcalaaOps
namespace Go.Proofs.Ytjkpecjlpgcalaa
open Go.RowKit Go

section
variable {w : World} {a : Act} {K : Act → World → Prop} {Q : Exit → Act → World → Prop} {o : Oper}
theorem wp_fld_syllogismref02Place_0 {x : Operand} {b p : Nat} (ho : o.op = .fieldAddr 45 x 0) (hx : a.eval x = .pointer (some ⟨b, p, none⟩)) (hK : K (a.put o.dst (.pointer (some ⟨b, p, none⟩))) w) : o.wp Try.prog a w K Q := by
  unfold Oper.wp execOp
  simp only [ho, hx]
  go_simp
  exact hK
theorem wp_fld_syllogismref02Place_1 {x : Operand} {b p : Nat} (ho : o.op = .fieldAddr 45 x 1) (hx : a.eval x = .pointer (some ⟨b, p, none⟩)) (hK : K (a.put o.dst (.pointer (some ⟨b, p + 1, none⟩))) w) : o.wp Try.prog a w K Q := by
  unfold Oper.wp execOp
  simp only [ho, hx]
  go_simp
  exact hK
theorem wp_len_Lsyllogismref02Place {x : Operand} {r : Option Addr} {n c : Nat} (ho : o.op = .call { callee := .builtin .len, args := #[x], argTypes := #[41] }) (hx : a.eval x = .slice r n c) (hK : K (a.put o.dst (.int .i64 n)) w) : o.wp Try.prog a w K Q := by
  unfold Oper.wp execOp
  simp only [ho, resolve, List.map_toArray, List.map_cons, List.map_nil, hx]
  go_simp
  exact hK
theorem wp_ix_Lsyllogismref02Place {x y : Operand} {b p n c k : Nat} (ho : o.op = .indexAddr 41 x y) (hx : a.eval x = .slice (some ⟨b, p, none⟩) n c) (hy : a.eval y = .int .i64 k) (hk : k < n) (hK : K (a.put o.dst (.pointer (some ⟨b, p + k * 3, none⟩))) w) : o.wp Try.prog a w K Q := by
  have h0 : (0 : Int) ≤ (k : Int) := by omega
  have h1 : (k : Int) < (n : Int) := by omega
  unfold Oper.wp execOp
  simp only [ho, hx, hy]
  go_simp
  exact hK
end
end Go.Proofs.Ytjkpecjlpgcalaa
