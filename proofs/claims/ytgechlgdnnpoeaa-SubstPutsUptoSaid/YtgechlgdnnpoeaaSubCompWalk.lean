/- The walk through the law SubstComposes. -/
import Derived.Test.YtgechlgdnnpoeaaSubRComp
import Derived.Test.YtgechlgdnnpoeaaSubWakes
namespace Go.Proofs.Ytgechlgdnnpoeaa
open Go.RowKit Go

theorem NewSub.isBs {w0 w : World} {R : List Bd} {a : Option Addr} {c : Nat} (h : NewSub w0 w R a c) : IsBs w R a := h.1.mono (by decide) (fun _ _ _ => trivial)
theorem compYes {F : FuncId} {w : World} {sA sB : List Bd} {vs : Array Value} (h : Calls Try.prog F vs w (Ret fun v' w' => CompIs w w' sA sB v' ∧ Below w.heap.size w w')) (hok : subOk (-1) sA = true ∧ subOk (-1) sB = true) :
    Calls Try.prog F vs w (Ret fun v' w' => (∃ (R : List Bd) (p : Option Addr) (c : Nat), v' = .tuple #[.slice p R.length c, .int .i64 0] ∧ CompOf sA sB R ∧ NewSub w w' R p c) ∧ Below w.heap.size w w') := by
  refine h.mono ?_
  rintro e w' ⟨v, rfl, hc, hb⟩
  unfold CompIs at hc
  rw [if_pos hok] at hc
  exact ⟨v, rfl, hc, hb⟩
theorem compNo {F : FuncId} {w : World} {sA sB : List Bd} {vs : Array Value} (h : Calls Try.prog F vs w (Ret fun v' w' => CompIs w w' sA sB v' ∧ Below w.heap.size w w')) (hok : ¬ (subOk (-1) sA = true ∧ subOk (-1) sB = true)) :
    Calls Try.prog F vs w (Ret fun v' w' => v' = .tuple #[.slice none 0 0, .int .i64 2] ∧ Below w.heap.size w w') := by
  refine h.mono ?_
  rintro e w' ⟨v, rfl, hc, hb⟩
  unfold CompIs at hc
  rw [if_neg hok] at hc
  exact ⟨v, rfl, hc, hb⟩

set_option maxRecDepth 100000 in
theorem composes_yes (sA sB : List Bd) (w : World) (pa pb : Option Addr) (ca cb : Nat) (hA : IsSub w sA pa ca) (hB : IsSub w sB pb cb) (hla : sA.length ≤ 1048576) (hlb : sB.length ≤ 1048576) (hok : (subOk (-1) sA = true ∧ subOk (-1) sB = true)) : Calls Try.prog 3 #[.slice pa sA.length ca, .slice pb sB.length cb] w (Ret fun v' w' => v' = .bool true ∧ Below w.heap.size w w') := by
  refine Calls.walk (l := [.slice pa sA.length ca, .slice pb sB.length cb]) Try.func3 rfl (by kernel_rfl) ?_
  refine WC.sub (K' := [(0, .slice pa sA.length ca), (1, .slice pb sB.length cb)]) ⟨rfl, rfl, trivial⟩ ?_
  refine WC.seq ?_
  refine WC.region ?_
  refine WL.val (.bool false) rfl rfl rfl (fun za zC zh zk => wp_assign rfl (zh.ev rfl) zk) ?_
  refine WL.nil (WE.sub (K' := [(0, .slice pa sA.length ca), (1, .slice pb sB.length cb), (4, .bool false)]) ⟨rfl, rfl, rfl, trivial⟩ ?_)
  refine WE.next ?_
  refine WC.seq ?_
  refine WC.seq ?_
  refine WC.region ?_
  refine WL.val (.slice pa sA.length ca) rfl rfl rfl (fun za zC zh zk => wp_move rfl (zh.ev rfl) zk) ?_
  refine WL.call rfl rfl rfl (fun za zh zC => wp_call (by kernel_rfl) rfl (hv2 (zh.ev rfl) (zh.ev rfl))) (large_any sA 100 _ _ _ (hA.below (Below.refl _ _))) ?_
  rintro _ w3 ⟨⟨bl1, rfl, _⟩, hq2⟩
  refine WL.val (.bool bl1) rfl rfl rfl (fun za zC zh zk => wp_move rfl (zh.ev rfl) zk) ?_
  refine bool_split bl1 (fun h4 => ?_) (fun h4 => ?_)
  · refine WL.sub (K' := [(0, .slice pa sA.length ca), (1, .slice pb sB.length cb), (4, .bool false), (9, .slice pa sA.length ca), (10, .bool bl1), (11, .bool true)]) ⟨rfl, rfl, rfl, rfl, rfl, (by exact congrArg (fun z => some (Value.bool z)) h4), trivial⟩ ?_
    refine WL.skip (d := 11) rfl rfl rfl rfl rfl ?_
    refine WL.skip (d := 11) rfl rfl rfl rfl rfl ?_
    refine WL.val (.bool true) rfl rfl rfl (fun za zC zh zk => wp_pickT rfl (zh.ev rfl) (zh.ev rfl) zk) ?_
    refine WL.nil (WE.sub (K' := [(0, .slice pa sA.length ca), (1, .slice pb sB.length cb), (4, .bool false), (14, .bool true)]) ⟨rfl, rfl, rfl, rfl, trivial⟩ ?_)
    refine WE.next ?_
    refine WC.condT rfl rfl ?_
    refine WC.seq ?_
    refine WC.region ?_
    refine WL.call rfl rfl rfl (fun za zh zC => wp_call (by kernel_rfl) rfl (hv0)) (wakes_any _) ?_
    rintro _ w6 ⟨rfl, hq5⟩
    refine WL.val (.bool true) rfl rfl rfl (fun za zC zh zk => wp_assign rfl (zh.ev rfl) zk) ?_
    refine WL.nil (WE.sub (K' := [(0, .slice pa sA.length ca), (1, .slice pb sB.length cb), (4, .bool true), (14, .bool true)]) ⟨rfl, rfl, rfl, rfl, trivial⟩ ?_)
    refine WE.next ?_
    refine WC.ret ?_
    refine WE.thenRet ?_
    refine WE.ret1 rfl rfl ?_
    have hb7 : Below w.heap.size w w6 := (bstep hq2 hq5)
    exact ⟨_, rfl, rfl, hb7⟩
  · refine WL.sub (K' := [(0, .slice pa sA.length ca), (1, .slice pb sB.length cb), (4, .bool false), (9, .slice pa sA.length ca), (10, .bool bl1), (11, .bool false)]) ⟨rfl, rfl, rfl, rfl, rfl, (by exact congrArg (fun z => some (Value.bool z)) h4), trivial⟩ ?_
    refine WL.want (d := 11) rfl rfl rfl ?_
    refine WL.val (.slice pb sB.length cb) rfl rfl rfl (fun za zC zh zk => wp_move rfl (zh.ev rfl) zk) ?_
    refine WL.want (d := 11) rfl rfl rfl ?_
    refine WL.call rfl rfl rfl (fun za zh zC => wp_call (by kernel_rfl) rfl (hv2 (zh.ev rfl) (zh.ev rfl))) (large_any sB 100 _ _ _ (hB.below hq2)) ?_
    rintro _ w10 ⟨⟨bl8, rfl, _⟩, hq9⟩
    refine WL.val (.bool bl8) rfl rfl rfl (fun za zC zh zk => wp_pickF rfl (zh.ev rfl) (zh.ev rfl) zk) ?_
    refine WL.nil (WE.sub (K' := [(0, .slice pa sA.length ca), (1, .slice pb sB.length cb), (4, .bool false), (14, .bool bl8)]) ⟨rfl, rfl, rfl, rfl, trivial⟩ ?_)
    refine WE.next ?_
    refine WC.cond rfl (fun h11 => ?_) (fun h11 => ?_)
    · skip
      refine WC.seq ?_
      refine WC.region ?_
      refine WL.call rfl rfl rfl (fun za zh zC => wp_call (by kernel_rfl) rfl (hv0)) (wakes_any _) ?_
      rintro _ w13 ⟨rfl, hq12⟩
      refine WL.val (.bool true) rfl rfl rfl (fun za zC zh zk => wp_assign rfl (zh.ev rfl) zk) ?_
      refine WL.nil (WE.sub (K' := [(0, .slice pa sA.length ca), (1, .slice pb sB.length cb), (4, .bool true), (14, .bool bl8)]) ⟨rfl, rfl, rfl, rfl, trivial⟩ ?_)
      refine WE.next ?_
      refine WC.ret ?_
      refine WE.thenRet ?_
      refine WE.ret1 rfl rfl ?_
      have hb14 : Below w.heap.size w w13 := (bstep (bstep hq2 hq9) hq12)
      exact ⟨_, rfl, rfl, hb14⟩
    · skip
      refine WC.skip ?_
      refine WE.next ?_
      refine WC.seq ?_
      refine WC.region ?_
      refine WL.val (.slice pa sA.length ca) rfl rfl rfl (fun za zC zh zk => wp_move rfl (zh.ev rfl) zk) ?_
      refine WL.val (.slice pb sB.length cb) rfl rfl rfl (fun za zC zh zk => wp_move rfl (zh.ev rfl) zk) ?_
      have hb15 : Below w.heap.size w w10 := (bstep hq2 hq9)
      refine WL.call rfl rfl rfl (fun za zh zC => wp_call (by kernel_rfl) rfl (hv2 (zh.ev rfl) (zh.ev rfl))) (compYes (compose_any sA sB _ _ _ _ _ (hA.below hb15) (hB.below hb15) hla hlb) hok) ?_
      rintro _ w17 ⟨⟨R1, p1, c1, rfl, hR1, hN1⟩, hq16⟩
      refine WL.val (.tuple #[.slice p1 R1.length c1, .int .i64 0]) rfl rfl rfl (fun za zC zh zk => wp_move rfl (zh.ev rfl) zk) ?_
      refine WL.val (.slice p1 R1.length c1) rfl rfl rfl (fun za zC zh zk => ext2_0 rfl (zh.ev rfl) zk) ?_
      refine WL.val (.int .i64 0) rfl rfl rfl (fun za zC zh zk => ext2_1 rfl (zh.ev rfl) zk) ?_
      refine WL.val (.slice p1 R1.length c1) rfl rfl rfl (fun za zC zh zk => wp_assign rfl (zh.ev rfl) zk) ?_
      refine WL.val (.int .i64 0) rfl rfl rfl (fun za zC zh zk => wp_assign rfl (zh.ev rfl) zk) ?_
      refine WL.nil (WE.sub (K' := [(0, .slice pa sA.length ca), (1, .slice pb sB.length cb), (4, .bool false), (5, .slice p1 R1.length c1), (6, .int .i64 0), (14, .bool bl8)]) ⟨rfl, rfl, rfl, rfl, rfl, rfl, trivial⟩ ?_)
      refine WE.next ?_
      refine WC.seq ?_
      refine WC.region ?_
      refine WL.val (.slice pa sA.length ca) rfl rfl rfl (fun za zC zh zk => wp_move rfl (zh.ev rfl) zk) ?_
      refine WL.val (.slice pb sB.length cb) rfl rfl rfl (fun za zC zh zk => wp_move rfl (zh.ev rfl) zk) ?_
      have hb18 : Below w.heap.size w w17 := (bstep hb15 hq16)
      refine WL.call rfl rfl rfl (fun za zh zC => wp_call (by kernel_rfl) rfl (hv2 (zh.ev rfl) (zh.ev rfl))) (compYes (rcompose_any sA sB _ _ _ _ _ (hA.below hb18) (hB.below hb18) hla hlb) hok) ?_
      rintro _ w20 ⟨⟨R2, p2, c2, rfl, hR2, hN2⟩, hq19⟩
      refine WL.val (.tuple #[.slice p2 R2.length c2, .int .i64 0]) rfl rfl rfl (fun za zC zh zk => wp_move rfl (zh.ev rfl) zk) ?_
      refine WL.val (.slice p2 R2.length c2) rfl rfl rfl (fun za zC zh zk => ext2_0 rfl (zh.ev rfl) zk) ?_
      refine WL.val (.int .i64 0) rfl rfl rfl (fun za zC zh zk => ext2_1 rfl (zh.ev rfl) zk) ?_
      refine WL.val (.slice p2 R2.length c2) rfl rfl rfl (fun za zC zh zk => wp_assign rfl (zh.ev rfl) zk) ?_
      refine WL.val (.int .i64 0) rfl rfl rfl (fun za zC zh zk => wp_assign rfl (zh.ev rfl) zk) ?_
      refine WL.nil (WE.sub (K' := [(0, .slice pa sA.length ca), (1, .slice pb sB.length cb), (4, .bool false), (5, .slice p1 R1.length c1), (6, .int .i64 0), (7, .slice p2 R2.length c2), (8, .int .i64 0), (14, .bool bl8)]) ⟨rfl, rfl, rfl, rfl, rfl, rfl, rfl, rfl, trivial⟩ ?_)
      refine WE.next ?_
      refine WC.seq ?_
      refine WC.region ?_
      refine WL.val (.int .i64 0) rfl rfl rfl (fun za zC zh zk => wp_move rfl (zh.ev rfl) zk) ?_
      refine WL.val (.int .i64 0) rfl rfl rfl (fun za zC zh zk => wp_move rfl (zh.ev rfl) zk) ?_
      refine WL.val (.bool true) rfl rfl rfl (fun za zC zh zk => eql_26 rfl (zh.ev rfl) (zh.ev rfl) zk) ?_
      refine WL.val (.bool true) rfl rfl rfl (fun za zC zh zk => wp_move rfl (zh.ev rfl) zk) ?_
      refine WL.want (d := 31) rfl rfl rfl ?_
      refine WL.val (.slice p1 R1.length c1) rfl rfl rfl (fun za zC zh zk => wp_move rfl (zh.ev rfl) zk) ?_
      refine WL.want (d := 31) rfl rfl rfl ?_
      refine WL.val (.slice p2 R2.length c2) rfl rfl rfl (fun za zC zh zk => wp_move rfl (zh.ev rfl) zk) ?_
      refine WL.want (d := 31) rfl rfl rfl ?_
      refine WL.call rfl rfl rfl (fun za zh zC => wp_call (by kernel_rfl) rfl (hv2 (zh.ev rfl) (zh.ev rfl))) (rsubSame_yes R1 R2 _ p1 p2 c1 c2 (Nat.le_trans hN1.2.1 hN1.2.2) (hN1.isBs.below hq19) (hN2.isBs.below (Below.refl _ _)) (hR1.unique hR2)) ?_
      rintro _ w22 ⟨rfl, hq21⟩
      refine WL.val (.bool true) rfl rfl rfl (fun za zC zh zk => wp_pickT rfl (zh.ev rfl) (zh.ev rfl) zk) ?_
      refine WL.val (.bool true) rfl rfl rfl (fun za zC zh zk => wp_move rfl (zh.ev rfl) zk) ?_
      refine WL.want (d := 36) rfl rfl rfl ?_
      refine WL.call rfl rfl rfl (fun za zh zC => wp_call (by kernel_rfl) rfl (hv0)) (wakes_any _) ?_
      rintro _ w24 ⟨rfl, hq23⟩
      refine WL.val (.bool true) rfl rfl rfl (fun za zC zh zk => wp_pickT rfl (zh.ev rfl) (zh.ev rfl) zk) ?_
      refine WL.val (.bool true) rfl rfl rfl (fun za zC zh zk => wp_assign rfl (zh.ev rfl) zk) ?_
      refine WL.nil (WE.sub (K' := [(0, .slice pa sA.length ca), (1, .slice pb sB.length cb), (4, .bool true), (5, .slice p1 R1.length c1), (6, .int .i64 0), (7, .slice p2 R2.length c2), (8, .int .i64 0), (14, .bool bl8)]) ⟨rfl, rfl, rfl, rfl, rfl, rfl, rfl, rfl, trivial⟩ ?_)
      refine WE.next ?_
      refine WC.ret ?_
      refine WE.ret1 rfl rfl ?_
      have hb25 : Below w.heap.size w w24 := (bstep (bstep (bstep hb18 hq19) hq21) hq23)
      exact ⟨_, rfl, rfl, hb25⟩

set_option maxRecDepth 100000 in
theorem composes_no (sA sB : List Bd) (w : World) (pa pb : Option Addr) (ca cb : Nat) (hA : IsSub w sA pa ca) (hB : IsSub w sB pb cb) (hla : sA.length ≤ 1048576) (hlb : sB.length ≤ 1048576) (hok : ¬ (subOk (-1) sA = true ∧ subOk (-1) sB = true)) : Calls Try.prog 3 #[.slice pa sA.length ca, .slice pb sB.length cb] w (Ret fun v' w' => v' = .bool true ∧ Below w.heap.size w w') := by
  refine Calls.walk (l := [.slice pa sA.length ca, .slice pb sB.length cb]) Try.func3 rfl (by kernel_rfl) ?_
  refine WC.sub (K' := [(0, .slice pa sA.length ca), (1, .slice pb sB.length cb)]) ⟨rfl, rfl, trivial⟩ ?_
  refine WC.seq ?_
  refine WC.region ?_
  refine WL.val (.bool false) rfl rfl rfl (fun za zC zh zk => wp_assign rfl (zh.ev rfl) zk) ?_
  refine WL.nil (WE.sub (K' := [(0, .slice pa sA.length ca), (1, .slice pb sB.length cb), (4, .bool false)]) ⟨rfl, rfl, rfl, trivial⟩ ?_)
  refine WE.next ?_
  refine WC.seq ?_
  refine WC.seq ?_
  refine WC.region ?_
  refine WL.val (.slice pa sA.length ca) rfl rfl rfl (fun za zC zh zk => wp_move rfl (zh.ev rfl) zk) ?_
  refine WL.call rfl rfl rfl (fun za zh zC => wp_call (by kernel_rfl) rfl (hv2 (zh.ev rfl) (zh.ev rfl))) (large_any sA 100 _ _ _ (hA.below (Below.refl _ _))) ?_
  rintro _ w3 ⟨⟨bl1, rfl, _⟩, hq2⟩
  refine WL.val (.bool bl1) rfl rfl rfl (fun za zC zh zk => wp_move rfl (zh.ev rfl) zk) ?_
  refine bool_split bl1 (fun h4 => ?_) (fun h4 => ?_)
  · refine WL.sub (K' := [(0, .slice pa sA.length ca), (1, .slice pb sB.length cb), (4, .bool false), (9, .slice pa sA.length ca), (10, .bool bl1), (11, .bool true)]) ⟨rfl, rfl, rfl, rfl, rfl, (by exact congrArg (fun z => some (Value.bool z)) h4), trivial⟩ ?_
    refine WL.skip (d := 11) rfl rfl rfl rfl rfl ?_
    refine WL.skip (d := 11) rfl rfl rfl rfl rfl ?_
    refine WL.val (.bool true) rfl rfl rfl (fun za zC zh zk => wp_pickT rfl (zh.ev rfl) (zh.ev rfl) zk) ?_
    refine WL.nil (WE.sub (K' := [(0, .slice pa sA.length ca), (1, .slice pb sB.length cb), (4, .bool false), (14, .bool true)]) ⟨rfl, rfl, rfl, rfl, trivial⟩ ?_)
    refine WE.next ?_
    refine WC.condT rfl rfl ?_
    refine WC.seq ?_
    refine WC.region ?_
    refine WL.call rfl rfl rfl (fun za zh zC => wp_call (by kernel_rfl) rfl (hv0)) (wakes_any _) ?_
    rintro _ w6 ⟨rfl, hq5⟩
    refine WL.val (.bool true) rfl rfl rfl (fun za zC zh zk => wp_assign rfl (zh.ev rfl) zk) ?_
    refine WL.nil (WE.sub (K' := [(0, .slice pa sA.length ca), (1, .slice pb sB.length cb), (4, .bool true), (14, .bool true)]) ⟨rfl, rfl, rfl, rfl, trivial⟩ ?_)
    refine WE.next ?_
    refine WC.ret ?_
    refine WE.thenRet ?_
    refine WE.ret1 rfl rfl ?_
    have hb7 : Below w.heap.size w w6 := (bstep hq2 hq5)
    exact ⟨_, rfl, rfl, hb7⟩
  · refine WL.sub (K' := [(0, .slice pa sA.length ca), (1, .slice pb sB.length cb), (4, .bool false), (9, .slice pa sA.length ca), (10, .bool bl1), (11, .bool false)]) ⟨rfl, rfl, rfl, rfl, rfl, (by exact congrArg (fun z => some (Value.bool z)) h4), trivial⟩ ?_
    refine WL.want (d := 11) rfl rfl rfl ?_
    refine WL.val (.slice pb sB.length cb) rfl rfl rfl (fun za zC zh zk => wp_move rfl (zh.ev rfl) zk) ?_
    refine WL.want (d := 11) rfl rfl rfl ?_
    refine WL.call rfl rfl rfl (fun za zh zC => wp_call (by kernel_rfl) rfl (hv2 (zh.ev rfl) (zh.ev rfl))) (large_any sB 100 _ _ _ (hB.below hq2)) ?_
    rintro _ w10 ⟨⟨bl8, rfl, _⟩, hq9⟩
    refine WL.val (.bool bl8) rfl rfl rfl (fun za zC zh zk => wp_pickF rfl (zh.ev rfl) (zh.ev rfl) zk) ?_
    refine WL.nil (WE.sub (K' := [(0, .slice pa sA.length ca), (1, .slice pb sB.length cb), (4, .bool false), (14, .bool bl8)]) ⟨rfl, rfl, rfl, rfl, trivial⟩ ?_)
    refine WE.next ?_
    refine WC.cond rfl (fun h11 => ?_) (fun h11 => ?_)
    · skip
      refine WC.seq ?_
      refine WC.region ?_
      refine WL.call rfl rfl rfl (fun za zh zC => wp_call (by kernel_rfl) rfl (hv0)) (wakes_any _) ?_
      rintro _ w13 ⟨rfl, hq12⟩
      refine WL.val (.bool true) rfl rfl rfl (fun za zC zh zk => wp_assign rfl (zh.ev rfl) zk) ?_
      refine WL.nil (WE.sub (K' := [(0, .slice pa sA.length ca), (1, .slice pb sB.length cb), (4, .bool true), (14, .bool bl8)]) ⟨rfl, rfl, rfl, rfl, trivial⟩ ?_)
      refine WE.next ?_
      refine WC.ret ?_
      refine WE.thenRet ?_
      refine WE.ret1 rfl rfl ?_
      have hb14 : Below w.heap.size w w13 := (bstep (bstep hq2 hq9) hq12)
      exact ⟨_, rfl, rfl, hb14⟩
    · skip
      refine WC.skip ?_
      refine WE.next ?_
      refine WC.seq ?_
      refine WC.region ?_
      refine WL.val (.slice pa sA.length ca) rfl rfl rfl (fun za zC zh zk => wp_move rfl (zh.ev rfl) zk) ?_
      refine WL.val (.slice pb sB.length cb) rfl rfl rfl (fun za zC zh zk => wp_move rfl (zh.ev rfl) zk) ?_
      have hb15 : Below w.heap.size w w10 := (bstep hq2 hq9)
      refine WL.call rfl rfl rfl (fun za zh zC => wp_call (by kernel_rfl) rfl (hv2 (zh.ev rfl) (zh.ev rfl))) (compNo (compose_any sA sB _ _ _ _ _ (hA.below hb15) (hB.below hb15) hla hlb) hok) ?_
      rintro _ w17 ⟨rfl, hq16⟩
      refine WL.val (.tuple #[.slice none 0 0, .int .i64 2]) rfl rfl rfl (fun za zC zh zk => wp_move rfl (zh.ev rfl) zk) ?_
      refine WL.val (.slice none 0 0) rfl rfl rfl (fun za zC zh zk => ext2_0 rfl (zh.ev rfl) zk) ?_
      refine WL.val (.int .i64 2) rfl rfl rfl (fun za zC zh zk => ext2_1 rfl (zh.ev rfl) zk) ?_
      refine WL.val (.slice none 0 0) rfl rfl rfl (fun za zC zh zk => wp_assign rfl (zh.ev rfl) zk) ?_
      refine WL.val (.int .i64 2) rfl rfl rfl (fun za zC zh zk => wp_assign rfl (zh.ev rfl) zk) ?_
      refine WL.nil (WE.sub (K' := [(0, .slice pa sA.length ca), (1, .slice pb sB.length cb), (4, .bool false), (5, .slice none 0 0), (6, .int .i64 2), (14, .bool bl8)]) ⟨rfl, rfl, rfl, rfl, rfl, rfl, trivial⟩ ?_)
      refine WE.next ?_
      refine WC.seq ?_
      refine WC.region ?_
      refine WL.val (.slice pa sA.length ca) rfl rfl rfl (fun za zC zh zk => wp_move rfl (zh.ev rfl) zk) ?_
      refine WL.val (.slice pb sB.length cb) rfl rfl rfl (fun za zC zh zk => wp_move rfl (zh.ev rfl) zk) ?_
      have hb18 : Below w.heap.size w w17 := (bstep hb15 hq16)
      refine WL.call rfl rfl rfl (fun za zh zC => wp_call (by kernel_rfl) rfl (hv2 (zh.ev rfl) (zh.ev rfl))) (compNo (rcompose_any sA sB _ _ _ _ _ (hA.below hb18) (hB.below hb18) hla hlb) hok) ?_
      rintro _ w20 ⟨rfl, hq19⟩
      refine WL.val (.tuple #[.slice none 0 0, .int .i64 2]) rfl rfl rfl (fun za zC zh zk => wp_move rfl (zh.ev rfl) zk) ?_
      refine WL.val (.slice none 0 0) rfl rfl rfl (fun za zC zh zk => ext2_0 rfl (zh.ev rfl) zk) ?_
      refine WL.val (.int .i64 2) rfl rfl rfl (fun za zC zh zk => ext2_1 rfl (zh.ev rfl) zk) ?_
      refine WL.val (.slice none 0 0) rfl rfl rfl (fun za zC zh zk => wp_assign rfl (zh.ev rfl) zk) ?_
      refine WL.val (.int .i64 2) rfl rfl rfl (fun za zC zh zk => wp_assign rfl (zh.ev rfl) zk) ?_
      refine WL.nil (WE.sub (K' := [(0, .slice pa sA.length ca), (1, .slice pb sB.length cb), (4, .bool false), (5, .slice none 0 0), (6, .int .i64 2), (7, .slice none 0 0), (8, .int .i64 2), (14, .bool bl8)]) ⟨rfl, rfl, rfl, rfl, rfl, rfl, rfl, rfl, trivial⟩ ?_)
      refine WE.next ?_
      refine WC.seq ?_
      refine WC.region ?_
      refine WL.val (.int .i64 2) rfl rfl rfl (fun za zC zh zk => wp_move rfl (zh.ev rfl) zk) ?_
      refine WL.val (.int .i64 2) rfl rfl rfl (fun za zC zh zk => wp_move rfl (zh.ev rfl) zk) ?_
      refine WL.val (.bool true) rfl rfl rfl (fun za zC zh zk => eql_26 rfl (zh.ev rfl) (zh.ev rfl) zk) ?_
      refine WL.val (.bool true) rfl rfl rfl (fun za zC zh zk => wp_move rfl (zh.ev rfl) zk) ?_
      refine WL.want (d := 31) rfl rfl rfl ?_
      refine WL.val (.slice none 0 0) rfl rfl rfl (fun za zC zh zk => wp_move rfl (zh.ev rfl) zk) ?_
      refine WL.want (d := 31) rfl rfl rfl ?_
      refine WL.val (.slice none 0 0) rfl rfl rfl (fun za zC zh zk => wp_move rfl (zh.ev rfl) zk) ?_
      refine WL.want (d := 31) rfl rfl rfl ?_
      refine WL.call rfl rfl rfl (fun za zh zC => wp_call (by kernel_rfl) rfl (hv2 (zh.ev rfl) (zh.ev rfl))) (rsubSame_yes [] [] _ none none 0 0 (Nat.zero_le _) InRow.nil InRow.nil rfl) ?_
      rintro _ w22 ⟨rfl, hq21⟩
      refine WL.val (.bool true) rfl rfl rfl (fun za zC zh zk => wp_pickT rfl (zh.ev rfl) (zh.ev rfl) zk) ?_
      refine WL.val (.bool true) rfl rfl rfl (fun za zC zh zk => wp_move rfl (zh.ev rfl) zk) ?_
      refine WL.want (d := 36) rfl rfl rfl ?_
      refine WL.call rfl rfl rfl (fun za zh zC => wp_call (by kernel_rfl) rfl (hv0)) (wakes_any _) ?_
      rintro _ w24 ⟨rfl, hq23⟩
      refine WL.val (.bool true) rfl rfl rfl (fun za zC zh zk => wp_pickT rfl (zh.ev rfl) (zh.ev rfl) zk) ?_
      refine WL.val (.bool true) rfl rfl rfl (fun za zC zh zk => wp_assign rfl (zh.ev rfl) zk) ?_
      refine WL.nil (WE.sub (K' := [(0, .slice pa sA.length ca), (1, .slice pb sB.length cb), (4, .bool true), (5, .slice none 0 0), (6, .int .i64 2), (7, .slice none 0 0), (8, .int .i64 2), (14, .bool bl8)]) ⟨rfl, rfl, rfl, rfl, rfl, rfl, rfl, rfl, trivial⟩ ?_)
      refine WE.next ?_
      refine WC.ret ?_
      refine WE.ret1 rfl rfl ?_
      have hb25 : Below w.heap.size w w24 := (bstep (bstep (bstep hb18 hq19) hq21) hq23)
      exact ⟨_, rfl, rfl, hb25⟩

theorem composes_any (sA sB : List Bd) (w : World) (pa pb : Option Addr) (ca cb : Nat) (hA : IsSub w sA pa ca) (hB : IsSub w sB pb cb) (hla : sA.length ≤ 1048576) (hlb : sB.length ≤ 1048576) : Calls Try.prog 3 #[.slice pa sA.length ca, .slice pb sB.length cb] w (Ret fun v' w' => v' = .bool true ∧ Below w.heap.size w w') := by
  by_cases hok : subOk (-1) sA = true ∧ subOk (-1) sB = true
  · exact composes_yes sA sB w pa pb ca cb hA hB hla hlb hok
  · exact composes_no sA sB w pa pb ca cb hA hB hla hlb hok

end Go.Proofs.Ytgechlgdnnpoeaa
