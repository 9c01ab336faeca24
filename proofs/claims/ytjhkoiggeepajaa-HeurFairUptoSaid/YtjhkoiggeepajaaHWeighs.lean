/- What clauses weigh, no room: the walks through the laws. -/
import Derived.ChangeKeysEq
import Derived.Test.YtjhkoiggeepajaaHWakes
namespace Go.Proofs.Ytjhkoiggeepajaa
open Go.RowKit Go
set_option linter.unusedVariables false
set_option linter.unusedSimpArgs false

theorem eqPair (a b : Int) (w : World) : (binOp .eql 26 (.agg #[.int .i64 a, .int .i64 b]) (.agg #[.int .i64 a, .int .i64 b])).run Try.prog w = .ok (.bool true) w := by
  have u1 := Try.underlying26
  have u2 := Try.underlying3
  obtain ⟨i, hi⟩ := info_of_underlying u2
  rw [run_eql_struct, show (10000 : Nat) = 9998 + 1 + 1 from rfl, run_equalIn_array w _ _ _ u1 hi]
  have hc : Try.prog.cellsOf 3 = 1 := by kernel_rfl
  rw [hc]
  have hl : List.range 2 = [0, 1] := rfl
  rw [hl]
  simp only [Op.eqItems]
  go_simp

theorem eqp_26 {w : World} {a : Act} {K : Act → World → Prop} {Q : Exit → Act → World → Prop} {o : Oper} {x y : Operand} {m n : Int} (ho : o.op = .binOp .eql 26 x y 26) (hx : a.eval x = .agg #[.int .i64 m, .int .i64 n]) (hy : a.eval y = .agg #[.int .i64 m, .int .i64 n]) (hK : K (a.put o.dst (.bool true)) w) : o.wp Try.prog a w K Q := by
  have hm : Try.prog.eqGuardType Try.prog.depth 26 = false := by kernel_rfl
  unfold Oper.wp execOp
  simp only [ho, hx, hy, Sem.run_bind, run_eqGuard_agg _ _ _ _ _ _ _ hm, Result.andThen_ok, eqPair]
  go_simp
  exact hK
set_option maxRecDepth 100000 in
theorem weighs_any (k : Int) (l : List Li) (goal : Bool) (w : World) (a : Option Addr) (c : Nat) (hl : IsCl w l a c) (hlz : l.length ≤ 1048576) : Calls Try.prog 3 #[.int .i64 k, .slice a l.length c, .bool goal] w (Ret fun v' w' => v' = .bool true ∧ Below w.heap.size w w') := by
  refine Calls.walk (l := [.int .i64 k, .slice a l.length c, .bool goal]) Try.func3 rfl (by kernel_rfl) ?_
  refine WC.sub (K' := [(0, .int .i64 k), (1, .slice a l.length c), (2, .bool goal)]) ⟨rfl, rfl, rfl, trivial⟩ ?_
  refine WC.seq ?_
  refine WC.region ?_
  refine WL.val (.bool false) rfl rfl rfl (fun za zC zh zk => wp_assign rfl (zh.ev rfl) zk) ?_
  refine WL.nil (WE.sub (K' := [(0, .int .i64 k), (1, .slice a l.length c), (2, .bool goal), (6, .bool false)]) ⟨rfl, rfl, rfl, rfl, trivial⟩ ?_)
  refine WE.next ?_
  refine WC.seq ?_
  refine WC.region ?_
  refine WL.val (.slice a l.length c) rfl rfl rfl (fun za zC zh zk => wp_move rfl (zh.ev rfl) zk) ?_
  refine WL.call rfl rfl rfl (fun za zh zC => wp_call (by kernel_rfl) rfl (hv1 (zh.ev rfl))) (large_any l _ _ _ (hl.below (Below.refl _ _)) hlz) ?_
  rintro _ w2 ⟨rfl, hq1⟩
  refine WL.val (.bool ((decide ((40 : Int) < (l.length : Int)) || decide ((1000 : Int) < (clSize l : Int))))) rfl rfl rfl (fun za zC zh zk => wp_move rfl (zh.ev rfl) zk) ?_
  refine bool_split ((decide ((40 : Int) < (l.length : Int)) || decide ((1000 : Int) < (clSize l : Int)))) (fun h3 => ?_) (fun h3 => ?_)
  · refine WL.sub (K' := [(0, .int .i64 k), (1, .slice a l.length c), (2, .bool goal), (6, .bool false), (7, .slice a l.length c), (8, .bool ((decide ((40 : Int) < (l.length : Int)) || decide ((1000 : Int) < (clSize l : Int))))), (9, .bool true)]) ⟨rfl, rfl, rfl, rfl, rfl, rfl, (by exact congrArg (fun z => some (Value.bool z)) h3), trivial⟩ ?_
    refine WL.skip (d := 9) rfl rfl rfl rfl rfl ?_
    refine WL.skip (d := 9) rfl rfl rfl rfl rfl ?_
    refine WL.skip (d := 9) rfl rfl rfl rfl rfl ?_
    refine WL.skip (d := 9) rfl rfl rfl rfl rfl ?_
    refine WL.skip (d := 9) rfl rfl rfl rfl rfl ?_
    refine WL.skip (d := 9) rfl rfl rfl rfl rfl ?_
    refine WL.skip (d := 9) rfl rfl rfl rfl rfl ?_
    refine WL.skip (d := 9) rfl rfl rfl rfl rfl ?_
    refine WL.skip (d := 9) rfl rfl rfl rfl rfl ?_
    refine WL.val (.bool true) rfl rfl rfl (fun za zC zh zk => wp_pickT rfl (zh.ev rfl) (zh.ev rfl) zk) ?_
    refine WL.val (.bool true) rfl rfl rfl (fun za zC zh zk => wp_move rfl (zh.ev rfl) zk) ?_
    refine WL.want (d := 20) rfl rfl rfl ?_
    refine WL.call rfl rfl rfl (fun za zh zC => wp_call (by kernel_rfl) rfl (hv0)) (wakes_any _) ?_
    rintro _ w5 ⟨rfl, hq4⟩
    refine WL.val (.bool true) rfl rfl rfl (fun za zC zh zk => wp_pickT rfl (zh.ev rfl) (zh.ev rfl) zk) ?_
    refine WL.val (.bool true) rfl rfl rfl (fun za zC zh zk => wp_assign rfl (zh.ev rfl) zk) ?_
    refine WL.nil (WE.sub (K' := [(0, .int .i64 k), (1, .slice a l.length c), (2, .bool goal), (6, .bool true)]) ⟨rfl, rfl, rfl, rfl, trivial⟩ ?_)
    refine WE.next ?_
    refine WC.ret ?_
    refine WE.ret1 rfl rfl ?_
    have hb6 : Below w.heap.size w w5 := (bstep hq1 hq4)
    exact ⟨_, rfl, rfl, hb6⟩
  · refine WL.sub (K' := [(0, .int .i64 k), (1, .slice a l.length c), (2, .bool goal), (6, .bool false), (7, .slice a l.length c), (8, .bool ((decide ((40 : Int) < (l.length : Int)) || decide ((1000 : Int) < (clSize l : Int))))), (9, .bool false)]) ⟨rfl, rfl, rfl, rfl, rfl, rfl, (by exact congrArg (fun z => some (Value.bool z)) h3), trivial⟩ ?_
    refine WL.want (d := 9) rfl rfl rfl ?_
    refine WL.val (.int .i64 k) rfl rfl rfl (fun za zC zh zk => wp_move rfl (zh.ev rfl) zk) ?_
    refine WL.want (d := 9) rfl rfl rfl ?_
    refine WL.val (.slice a l.length c) rfl rfl rfl (fun za zC zh zk => wp_move rfl (zh.ev rfl) zk) ?_
    refine WL.want (d := 9) rfl rfl rfl ?_
    refine WL.val (.bool goal) rfl rfl rfl (fun za zC zh zk => wp_move rfl (zh.ev rfl) zk) ?_
    refine WL.want (d := 9) rfl rfl rfl ?_
    refine WL.call rfl rfl rfl (fun za zh zC => wp_call (by kernel_rfl) rfl (hv3 (zh.ev rfl) (zh.ev rfl) (zh.ev rfl))) (weigh_any k l _ _ _ (hl.below hq1) hlz goal) ?_
    rintro _ w8 ⟨rfl, hq7⟩
    refine WL.want (d := 9) rfl rfl rfl ?_
    refine WL.val (.int .i64 k) rfl rfl rfl (fun za zC zh zk => wp_move rfl (zh.ev rfl) zk) ?_
    refine WL.want (d := 9) rfl rfl rfl ?_
    refine WL.val (.slice a l.length c) rfl rfl rfl (fun za zC zh zk => wp_move rfl (zh.ev rfl) zk) ?_
    refine WL.want (d := 9) rfl rfl rfl ?_
    refine WL.val (.bool goal) rfl rfl rfl (fun za zC zh zk => wp_move rfl (zh.ev rfl) zk) ?_
    refine WL.want (d := 9) rfl rfl rfl ?_
    have hb9 : Below w.heap.size w w8 := (bstep hq1 hq7)
    refine WL.call rfl rfl rfl (fun za zh zC => wp_call (by kernel_rfl) rfl (hv3 (zh.ev rfl) (zh.ev rfl) (zh.ev rfl))) (rweigh_any k l _ _ _ (hl.below hb9) hlz goal) ?_
    rintro _ w11 ⟨rfl, hq10⟩
    refine WL.want (d := 9) rfl rfl rfl ?_
    refine WL.val (.bool true) rfl rfl rfl (fun za zC zh zk => eqp_26 rfl (zh.ev rfl) (zh.ev rfl) zk) ?_
    refine WL.val (.bool true) rfl rfl rfl (fun za zC zh zk => wp_pickF rfl (zh.ev rfl) (zh.ev rfl) zk) ?_
    refine WL.val (.bool true) rfl rfl rfl (fun za zC zh zk => wp_move rfl (zh.ev rfl) zk) ?_
    refine WL.want (d := 20) rfl rfl rfl ?_
    refine WL.call rfl rfl rfl (fun za zh zC => wp_call (by kernel_rfl) rfl (hv0)) (wakes_any _) ?_
    rintro _ w13 ⟨rfl, hq12⟩
    refine WL.val (.bool true) rfl rfl rfl (fun za zC zh zk => wp_pickT rfl (zh.ev rfl) (zh.ev rfl) zk) ?_
    refine WL.val (.bool true) rfl rfl rfl (fun za zC zh zk => wp_assign rfl (zh.ev rfl) zk) ?_
    refine WL.nil (WE.sub (K' := [(0, .int .i64 k), (1, .slice a l.length c), (2, .bool goal), (6, .bool true)]) ⟨rfl, rfl, rfl, rfl, trivial⟩ ?_)
    refine WE.next ?_
    refine WC.ret ?_
    refine WE.ret1 rfl rfl ?_
    have hb14 : Below w.heap.size w w13 := (bstep (bstep hb9 hq10) hq12)
    exact ⟨_, rfl, rfl, hb14⟩

set_option maxRecDepth 100000 in
theorem nil_any (n : Int) (k : Nat) (w : World) (a : Option Addr) (c : Nat) : Calls Try.prog 6 #[.int .i64 n, .slice a k c] w (Ret fun v' w' => v' = .bool true ∧ Below w.heap.size w w') := by
  refine Calls.walk (l := [.int .i64 n, .slice a k c]) Try.func6 rfl (by kernel_rfl) ?_
  refine WC.sub (K' := [(0, .int .i64 n), (1, .slice a k c)]) ⟨rfl, rfl, trivial⟩ ?_
  refine WC.seq ?_
  refine WC.region ?_
  refine WL.val (.bool false) rfl rfl rfl (fun za zC zh zk => wp_assign rfl (zh.ev rfl) zk) ?_
  refine WL.nil (WE.sub (K' := [(0, .int .i64 n), (1, .slice a k c), (4, .bool false)]) ⟨rfl, rfl, rfl, trivial⟩ ?_)
  refine WE.next ?_
  refine WC.seq ?_
  refine WC.region ?_
  refine WL.val (.pointer none) rfl rfl rfl (fun za zC zh zk => wp_assign rfl (zh.ev rfl) zk) ?_
  refine WL.nil (WE.sub (K' := [(0, .int .i64 n), (1, .slice a k c), (4, .bool false), (5, .pointer none)]) ⟨rfl, rfl, rfl, rfl, trivial⟩ ?_)
  refine WE.next ?_
  refine WC.seq ?_
  refine WC.region ?_
  refine WL.val (.pointer none) rfl rfl rfl (fun za zC zh zk => wp_move rfl (zh.ev rfl) zk) ?_
  refine WL.call rfl rfl rfl (fun za zh zC => wp_call (by kernel_rfl) rfl (hv1 (zh.ev rfl))) (next_nil _) ?_
  rintro _ w2 ⟨rfl, hq1⟩
  refine WL.val (.tuple #[.int .i64 0, .bool false]) rfl rfl rfl (fun za zC zh zk => wp_move rfl (zh.ev rfl) zk) ?_
  refine WL.val (.int .i64 0) rfl rfl rfl (fun za zC zh zk => ext2_0 rfl (zh.ev rfl) zk) ?_
  refine WL.val (.bool false) rfl rfl rfl (fun za zC zh zk => ext2_1 rfl (zh.ev rfl) zk) ?_
  refine WL.val (.int .i64 0) rfl rfl rfl (fun za zC zh zk => wp_assign rfl (zh.ev rfl) zk) ?_
  refine WL.val (.bool false) rfl rfl rfl (fun za zC zh zk => wp_assign rfl (zh.ev rfl) zk) ?_
  refine WL.nil (WE.sub (K' := [(0, .int .i64 n), (1, .slice a k c), (4, .bool false), (5, .pointer none), (6, .int .i64 0), (7, .bool false)]) ⟨rfl, rfl, rfl, rfl, rfl, rfl, trivial⟩ ?_)
  refine WE.next ?_
  refine WC.seq ?_
  refine WC.region ?_
  refine WL.val (.int .i64 0) rfl rfl rfl (fun za zC zh zk => wp_move rfl (zh.ev rfl) zk) ?_
  refine WL.val (.bool true) rfl rfl rfl (fun za zC zh zk => eql_3 rfl (zh.ev rfl) (zh.ev rfl) zk) ?_
  refine WL.val (.bool true) rfl rfl rfl (fun za zC zh zk => wp_move rfl (zh.ev rfl) zk) ?_
  refine WL.want (d := 15) rfl rfl rfl ?_
  refine WL.val (.bool false) rfl rfl rfl (fun za zC zh zk => wp_move rfl (zh.ev rfl) zk) ?_
  refine WL.want (d := 15) rfl rfl rfl ?_
  refine WL.val (.bool true) rfl rfl rfl (fun za zC zh zk => wp_not rfl (zh.ev rfl) zk) ?_
  refine WL.val (.bool true) rfl rfl rfl (fun za zC zh zk => wp_pickT rfl (zh.ev rfl) (zh.ev rfl) zk) ?_
  refine WL.val (.bool true) rfl rfl rfl (fun za zC zh zk => wp_move rfl (zh.ev rfl) zk) ?_
  refine WL.want (d := 19) rfl rfl rfl ?_
  refine WL.val (.pointer none) rfl rfl rfl (fun za zC zh zk => wp_move rfl (zh.ev rfl) zk) ?_
  refine WL.want (d := 19) rfl rfl rfl ?_
  refine WL.val (.int .i64 n) rfl rfl rfl (fun za zC zh zk => wp_move rfl (zh.ev rfl) zk) ?_
  refine WL.want (d := 19) rfl rfl rfl ?_
  refine WL.val (.slice a k c) rfl rfl rfl (fun za zC zh zk => wp_move rfl (zh.ev rfl) zk) ?_
  refine WL.want (d := 19) rfl rfl rfl ?_
  refine WL.call rfl rfl rfl (fun za zh zC => wp_call (by kernel_rfl) rfl (hv4 (zh.ev rfl) (zh.ev rfl) (zh.ev rfl) (zh.ev rfl))) (add_nil n a k c true _) ?_
  rintro _ w4 ⟨rfl, hq3⟩
  refine WL.want (d := 19) rfl rfl rfl ?_
  refine WL.val (.bool true) rfl rfl rfl (fun za zC zh zk => eql_34 rfl (zh.ev rfl) (zh.ev rfl) zk) ?_
  refine WL.val (.bool true) rfl rfl rfl (fun za zC zh zk => wp_pickT rfl (zh.ev rfl) (zh.ev rfl) zk) ?_
  refine WL.val (.bool true) rfl rfl rfl (fun za zC zh zk => wp_move rfl (zh.ev rfl) zk) ?_
  refine WL.want (d := 26) rfl rfl rfl ?_
  refine WL.val (.pointer none) rfl rfl rfl (fun za zC zh zk => wp_move rfl (zh.ev rfl) zk) ?_
  refine WL.want (d := 26) rfl rfl rfl ?_
  refine WL.val (.int .i64 n) rfl rfl rfl (fun za zC zh zk => wp_move rfl (zh.ev rfl) zk) ?_
  refine WL.want (d := 26) rfl rfl rfl ?_
  refine WL.call rfl rfl rfl (fun za zh zC => wp_call (by kernel_rfl) rfl (hv2 (zh.ev rfl) (zh.ev rfl))) (drop_nil n _) ?_
  rintro _ w6 ⟨rfl, hq5⟩
  refine WL.want (d := 26) rfl rfl rfl ?_
  refine WL.val (.bool true) rfl rfl rfl (fun za zC zh zk => wp_not rfl (zh.ev rfl) zk) ?_
  refine WL.val (.bool true) rfl rfl rfl (fun za zC zh zk => wp_pickT rfl (zh.ev rfl) (zh.ev rfl) zk) ?_
  refine WL.val (.bool true) rfl rfl rfl (fun za zC zh zk => wp_move rfl (zh.ev rfl) zk) ?_
  refine WL.want (d := 32) rfl rfl rfl ?_
  refine WL.val (.pointer none) rfl rfl rfl (fun za zC zh zk => wp_move rfl (zh.ev rfl) zk) ?_
  refine WL.want (d := 32) rfl rfl rfl ?_
  refine WL.call rfl rfl rfl (fun za zh zC => wp_call (by kernel_rfl) rfl (hv1 (zh.ev rfl))) (len_nil _) ?_
  rintro _ w8 ⟨rfl, hq7⟩
  refine WL.want (d := 32) rfl rfl rfl ?_
  refine WL.val (.bool true) rfl rfl rfl (fun za zC zh zk => eql_3 rfl (zh.ev rfl) (zh.ev rfl) zk) ?_
  refine WL.val (.bool true) rfl rfl rfl (fun za zC zh zk => wp_pickT rfl (zh.ev rfl) (zh.ev rfl) zk) ?_
  refine WL.val (.bool true) rfl rfl rfl (fun za zC zh zk => wp_move rfl (zh.ev rfl) zk) ?_
  refine WL.want (d := 37) rfl rfl rfl ?_
  refine WL.call rfl rfl rfl (fun za zh zC => wp_call (by kernel_rfl) rfl (hv0)) (wakes_any _) ?_
  rintro _ w10 ⟨rfl, hq9⟩
  refine WL.val (.bool true) rfl rfl rfl (fun za zC zh zk => wp_pickT rfl (zh.ev rfl) (zh.ev rfl) zk) ?_
  refine WL.val (.bool true) rfl rfl rfl (fun za zC zh zk => wp_assign rfl (zh.ev rfl) zk) ?_
  refine WL.nil (WE.sub (K' := [(0, .int .i64 n), (1, .slice a k c), (4, .bool true), (5, .pointer none), (6, .int .i64 0), (7, .bool false)]) ⟨rfl, rfl, rfl, rfl, rfl, rfl, trivial⟩ ?_)
  refine WE.next ?_
  refine WC.ret ?_
  refine WE.ret1 rfl rfl ?_
  have hb11 : Below w.heap.size w w10 := (bstep (bstep (bstep (bstep hq1 hq3) hq5) hq7) hq9)
  exact ⟨_, rfl, rfl, hb11⟩

end Go.Proofs.Ytjhkoiggeepajaa
