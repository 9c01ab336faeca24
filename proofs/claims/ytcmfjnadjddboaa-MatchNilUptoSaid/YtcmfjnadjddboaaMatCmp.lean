/- The comparison that a matcher sorts by. -/
import Derived.Test.YtcmfjnadjddboaaBdSort
import Derived.WalkKit
namespace Go.Proofs.Ytcmfjnadjddboaa
open Go.RowKit Go.Sort Go.Shelf Go

set_option maxHeartbeats 1000000 in
theorem mcmp1_any (x y : BdV) (W : World) : Calls Try.prog 41 #[.agg #[.int .i64 x.1.var, normB x.2.1, normB x.2.2], .agg #[.int .i64 y.1.var, normB y.2.1, normB y.2.2]] W fun e w' => e = .returned (.int .i64 (cmpB x y)) ∧ ∃ q os', w' = grow (W.drewN q) os' := by
  have hcon := fun W' => AnyG.cmp_Compare_int Try.lCmpInt x.1.var y.1.var W'
  change ∀ W', Calls Try.prog 42 _ _ _ at hcon
  unfold cmpB
  have o1 := normB_one x.2.1
  have o2 := normB_one x.2.2
  have o3 := normB_one y.2.1
  have o4 := normB_one y.2.2
  generalize Lib.compareInt x.1.var y.1.var = r at hcon ⊢
  generalize normB x.2.1 = a1 at *
  generalize normB x.2.2 = a2 at *
  generalize normB y.2.1 = a3 at *
  generalize normB y.2.2 = a4 at *
  go_enter Try.func41, Try.ntmps41
  go_wp2_with (go_at_call 42; refine (hcon _).mono ?_; rintro e w' ⟨rfl, rfl⟩)
  go_ret
  exact ⟨rfl, 0, _, by rw [alloc_eq_grow, alloc_eq_grow, grow_grow]; rfl⟩
theorem cmpIs_mat : CmpIs 41 := ⟨enters_of Try.func41 (by kernel_rfl) rfl, fun x y W => mcmp1_any x y W⟩

end Go.Proofs.Ytcmfjnadjddboaa
