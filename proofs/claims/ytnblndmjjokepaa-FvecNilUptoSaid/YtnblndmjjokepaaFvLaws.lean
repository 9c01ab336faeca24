/- The walk through the law of features. -/
import Derived.Test.YtnblndmjjokepaaFvRef
import Derived.Test.YtnblndmjjokepaaCons
namespace Go.Proofs.Ytnblndmjjokepaa
open Go.RowKit Go
set_option linter.unusedVariables false
set_option linter.unusedSimpArgs false

set_option maxRecDepth 100000 in
theorem fnew_bad (w : World) : Calls Try.prog 17 #[.int .i64 97] w (Ret fun v' w' => v' = .tuple #[.pointer none, .int .i64 2] ∧ Below w.heap.size w w') := by
  refine Calls.walk (l := [.int .i64 97]) Try.func17 rfl (by kernel_rfl) ?_
  refine WC.sub (K' := [(0, .int .i64 97)]) ⟨rfl, trivial⟩ ?_
  refine WC.seq ?_
  refine WC.region ?_
  refine WL.val (.pointer none) rfl rfl rfl (fun za zC zh zk => wp_assign rfl (zh.ev rfl) zk) ?_
  refine WL.val (.int .i64 0) rfl rfl rfl (fun za zC zh zk => wp_assign rfl (zh.ev rfl) zk) ?_
  refine WL.nil (WE.sub (K' := [(0, .int .i64 97), (2, .pointer none), (3, .int .i64 0)]) ⟨rfl, rfl, rfl, trivial⟩ ?_)
  refine WE.next ?_
  refine WC.seq ?_
  refine WC.seq ?_
  refine WC.region ?_
  refine WL.val (.int .i64 97) rfl rfl rfl (fun za zC zh zk => wp_move rfl (zh.ev rfl) zk) ?_
  refine WL.val (.bool false) rfl rfl rfl (fun za zC zh zk => lss_3 rfl (zh.ev rfl) (zh.ev rfl) zk) ?_
  refine WL.val (.bool false) rfl rfl rfl (fun za zC zh zk => wp_move rfl (zh.ev rfl) zk) ?_
  refine WL.want (d := 6) rfl rfl rfl ?_
  refine WL.val (.int .i64 97) rfl rfl rfl (fun za zC zh zk => wp_move rfl (zh.ev rfl) zk) ?_
  refine WL.want (d := 6) rfl rfl rfl ?_
  refine WL.val (.bool true) rfl rfl rfl (fun za zC zh zk => gtr_3 rfl (zh.ev rfl) (zh.ev rfl) zk) ?_
  refine WL.val (.bool true) rfl rfl rfl (fun za zC zh zk => wp_pickF rfl (zh.ev rfl) (zh.ev rfl) zk) ?_
  refine WL.nil (WE.sub (K' := [(0, .int .i64 97), (2, .pointer none), (3, .int .i64 0), (9, .bool true)]) ⟨rfl, rfl, rfl, rfl, trivial⟩ ?_)
  refine WE.next ?_
  refine WC.condT rfl rfl ?_
  refine WC.seq ?_
  refine WC.region ?_
  refine WL.val (.pointer none) rfl rfl rfl (fun za zC zh zk => wp_assign rfl (zh.ev rfl) zk) ?_
  refine WL.val (.int .i64 2) rfl rfl rfl (fun za zC zh zk => wp_assign rfl (zh.ev rfl) zk) ?_
  refine WL.nil (WE.sub (K' := [(0, .int .i64 97), (2, .pointer none), (3, .int .i64 2), (9, .bool true)]) ⟨rfl, rfl, rfl, rfl, trivial⟩ ?_)
  refine WE.next ?_
  refine WC.ret ?_
  refine WE.thenRet ?_
  refine WE.ret2 rfl rfl rfl ?_
  exact ⟨_, rfl, rfl, (Below.refl _ _)⟩

def wkC : List Li := [⟨false, .mk 3 [.mk 2 [.mk 1 [], .mk (-1) []]], .mk 0 []⟩, ⟨true, .mk 3 [.mk 1 []], .mk 0 []⟩]
theorem wk_feats : featsI 4 wkC = [1, 1, 0, 0, 0, 0, 1, 3, 1, 2, 1, 2, 0, 0, 1, 1, 1, 1] := by decide +kernel
theorem wk_may1 : mayI 4 [] wkC = true := by decide +kernel
theorem wk_may2 : mayI 4 wkC [] = false := by decide +kernel
theorem row_wk {w : World} {a : Option Addr} {c g : Nat} (h : Nums w (featsI 4 wkC) a) (hB : Blk w g 3 (([1, 1, 0, 0, 0, 0, 1, 3, 1, 2, 1, 2, 0, 0, 1, 1, 1, 1] : List Int).map (fun x => Value.int .i64 x)).toArray) : Calls Try.prog 10 #[.slice a (featsI 4 wkC).length c, .slice (some ⟨g, 0, none⟩) 18 18] w (Ret fun v' w' => v' = .bool true ∧ Below w.heap.size w w') := by
  have := row_any (featsI 4 wkC) [1, 1, 0, 0, 0, 0, 1, 3, 1, 2, 1, 2, 0, 0, 1, 1, 1, 1] w a (some ⟨g, 0, none⟩) c 18 h (nums_blk hB) (by have z := featsI_le 4 wkC; omega)
  rwa [wk_feats, decide_eq_true rfl] at this
theorem may_wk1 {w : World} {a b : Option Addr} {c e : Nat} (h1 : IsCl w [] a c) (h2 : IsCl w wkC b e) : Calls Try.prog 13 #[.int .i64 4, .slice a 0 c, .slice b 2 e] w (Ret fun v' w' => v' = .bool true ∧ Below w.heap.size w w') := by
  have := may_any 4 [] wkC w a b c e h1 h2 (by decide) (by decide)
  rwa [wk_may1] at this
theorem may_wk2 {w : World} {a b : Option Addr} {c e : Nat} (h1 : IsCl w wkC a c) (h2 : IsCl w [] b e) : Calls Try.prog 13 #[.int .i64 4, .slice a 2 c, .slice b 0 e] w (Ret fun v' w' => v' = .bool false ∧ Below w.heap.size w w') := by
  have := may_any 4 wkC [] w a b c e h1 h2 (by decide) (by decide)
  rwa [wk_may2] at this
set_option maxRecDepth 100000 in
theorem wakes_any (w : World) : Calls Try.prog 9 #[] w (Ret fun v' w' => v' = .bool true ∧ Below w.heap.size w w') := by
  refine Calls.walk (l := []) Try.func9 rfl (by kernel_rfl) ?_
  refine WC.sub (K' := []) trivial ?_
  refine WC.seq ?_
  refine WC.region ?_
  refine WL.val (.bool false) rfl rfl rfl (fun za zC zh zk => wp_assign rfl (zh.ev rfl) zk) ?_
  refine WL.nil (WE.sub (K' := [(0, .bool false)]) ⟨rfl, trivial⟩ ?_)
  refine WE.next ?_
  refine WC.seq ?_
  refine WC.region ?_
  refine WL.call rfl rfl rfl (fun za zh zC => wp_call (by kernel_rfl) rfl (hv2 (zh.ev rfl) (zh.ev rfl))) (of_any _ _ _ _ _) ?_
  rintro _ w2 ⟨rfl, hq1⟩
  refine WL.call rfl rfl rfl (fun za zh zC => wp_call (by kernel_rfl) rfl (hv2 (zh.ev rfl) (zh.ev rfl))) (of_any _ _ _ _ _) ?_
  rintro _ w4 ⟨rfl, hq3⟩
  refine WL.step (post := NewBlk w4 32 #[.int .i64 0, .slice none 0 0]) rfl rfl rfl (fun za zC zh zk => alloc_32 rfl (zk _ _ (newBlk _ _ _))) ?_
  rintro _ w5 ⟨g6, rfl, hg7, hB8, hb9, hz10⟩
  have hb11 : Below w.heap.size w w4 := (bstep hq1 hq3)
  have hl12 : w.heap.size ≤ g6 := by have z2 := (hb11).size; omega
  refine WL.step (post := NewBlk w5 32 #[.int .i64 0, .slice none 0 0]) rfl rfl rfl (fun za zC zh zk => alloc_32 rfl (zk _ _ (newBlk _ _ _))) ?_
  rintro _ w13 ⟨g14, rfl, hg15, hB16, hb17, hz18⟩
  have hl19 : g6 < g14 := by have z1 := hB8.lt; omega
  have hb20 : Below w.heap.size w w5 := (bstep hb11 hb9)
  have hl21 : w.heap.size ≤ g14 := by have z2 := (hb20).size; omega
  have hB22 := hB8.below hb17
  refine WL.step (post := fun _ w' => Upd g6 w13 w' ∧ Blk w' g6 32 #[.int .i64 1, .slice none 0 0]) rfl rfl rfl (fun za zC zh zk => st_32 rfl (zh.ev rfl) (zh.ev rfl) rfl rfl hB22 (by first | decide | simp) (fun v => zk v _ ⟨(Upd.at_ _ _ _ _).trans (Upd.at_ _ _ _ _), (hB22.set_ 0 _).set_ 1 _⟩)) ?_
  rintro v26 w23 ⟨hu24, hB25⟩
  have hb27 : Below w.heap.size w w13 := (bstep hb20 hb17)
  have hb28 := upd_below hb27 hu24 (by omega)
  have hB29 := upd_blk hB16 hu24 (by omega)
  refine WL.step (post := fun _ w' => Upd g14 w23 w' ∧ Blk w' g14 32 #[.int .i64 0, .slice none 0 0]) rfl rfl rfl (fun za zC zh zk => st_32 rfl (zh.ev rfl) (zh.ev rfl) rfl rfl hB29 (by first | decide | simp) (fun v => zk v _ ⟨(Upd.at_ _ _ _ _).trans (Upd.at_ _ _ _ _), (hB29.set_ 0 _).set_ 1 _⟩)) ?_
  rintro v33 w30 ⟨hu31, hB32⟩
  have hb34 := upd_below hb28 hu31 (by omega)
  have hB35 := upd_blk hB25 hu31 (by omega)
  refine WL.nil (WE.sub (K' := [(0, .bool false), (1, .pointer (some ⟨g6, 0, none⟩)), (2, .pointer (some ⟨g14, 0, none⟩))]) ⟨rfl, rfl, rfl, trivial⟩ ?_)
  refine WE.next ?_
  refine WC.seq ?_
  refine WC.opt [(true, .val (.agg #[.int .i64 1, .slice none 0 0])), (true, .val (.agg #[.int .i64 ((-1)), .slice none 0 0])), (true, .mem (fun v w => RowT ([(.mk 1 []), (.mk ((-1)) [])]) v w) (fun v w w' hb h => h.below hb)), (true, .mem (fun v w => IsT w ((.mk 2 [(.mk 1 []), (.mk ((-1)) [])])) v) isT_keep), (true, .mem (fun v w => RowT ([(.mk 2 [(.mk 1 []), (.mk ((-1)) [])])]) v w) (fun v w w' hb h => h.below hb)), (true, .mem (fun v w => IsT w ((.mk 3 [(.mk 2 [(.mk 1 []), (.mk ((-1)) [])])])) v) isT_keep), (true, .val (.agg #[.int .i64 0, .slice none 0 0])), (true, .mem (fun v w => IsLi w ((⟨false, (.mk 3 [(.mk 2 [(.mk 1 []), (.mk ((-1)) [])])]), (.mk 0 [])⟩ : Li)) v) isLi_keep), (true, .val (.agg #[.int .i64 1, .slice none 0 0])), (true, .mem (fun v w => RowT ([(.mk 1 [])]) v w) (fun v w w' hb h => h.below hb)), (true, .mem (fun v w => IsT w ((.mk 3 [(.mk 1 [])])) v) isT_keep), (true, .val (.agg #[.int .i64 0, .slice none 0 0])), (true, .mem (fun v w => IsLi w ((⟨true, (.mk 3 [(.mk 1 [])]), (.mk 0 [])⟩ : Li)) v) isLi_keep), (true, .mem (fun v w => RowC ([(⟨false, (.mk 3 [(.mk 2 [(.mk 1 []), (.mk ((-1)) [])])]), (.mk 0 [])⟩ : Li), (⟨true, (.mk 3 [(.mk 1 [])]), (.mk 0 [])⟩ : Li)]) v w) (fun v w w' hb h => h.below hb)), (true, .mem (fun v w => RowC ([(⟨false, (.mk 3 [(.mk 2 [(.mk 1 []), (.mk ((-1)) [])])]), (.mk 0 [])⟩ : Li), (⟨true, (.mk 3 [(.mk 1 [])]), (.mk 0 [])⟩ : Li)]) v w) (fun v w w' hb h => h.below hb))] [(0, .bool false), (1, .pointer (some ⟨g6, 0, none⟩)), (2, .pointer (some ⟨g14, 0, none⟩))] ⟨rfl, rfl, rfl, trivial⟩ (by kernel_rfl) (by kernel_rfl) (by kernel_rfl) ?_ ?_
  · refine ⟨⟨true, .none rfl, fun h w => optUndef h, fun zβ za zw zc => ?_⟩, ?_⟩
    · exact ld_32 rfl (zc.kn.ev rfl) (bkeeps zc.below _ _ ((hB35.cell 0).trans rfl)) (bkeeps zc.below _ _ ((hB35.cell 1).trans rfl)) ⟨_, rfl, Below.refl _ _, optDef zβ rfl⟩
    refine ⟨⟨true, .none rfl, fun h w => optUndef h, fun zβ za zw zc => ?_⟩, ?_⟩
    · exact wp_call (by kernel_rfl) rfl (hv2 (zc.kn.ev rfl) (zc.kn.ev rfl)) (of_any _ _ _ _ _) (fun v w' h => ⟨v, rfl, h.2, optDef zβ h.1⟩)
    refine ⟨⟨true, .none rfl, fun h w => optUndef h, fun zβ za zw zc => ?_⟩, ?_⟩
    · have m0 : IsT zw (.mk 1 []) (.agg #[.int .i64 1, .slice none 0 0]) := isT_lf (by decide)
      have E0 := ((show za.eval (.tmp 8) = za.tmps.getD 8 undef from rfl).trans (optVal (zc.dep 0 8 (by kernel_rfl)) rfl rfl))
      have m1 : IsT zw (.mk ((-1)) []) (.agg #[.int .i64 ((-1)), .slice none 0 0]) := isT_lf (by decide)
      have E1 := ((show za.eval (.tmp 9) = za.tmps.getD 9 undef from rfl).trans (optVal (zc.dep 1 9 (by kernel_rfl)) rfl rfl))
      exact row_30_2 rfl E0 E1 ⟨_, rfl, balloc _ _, optDef zβ ⟨_, _, rfl, Nat.le_refl _, by unfold maxLen; decide, ⟨⟨_, 0, _, _, rfl, (Blk.cell (Blk.new' rfl) _).trans rfl, (Blk.cell (Blk.new' rfl) _).trans rfl, IsT.below (balloc _ _) m0⟩, ⟨⟨_, 0, _, _, rfl, (Blk.cell (Blk.new' rfl) _).trans rfl, (Blk.cell (Blk.new' rfl) _).trans rfl, IsT.below (balloc _ _) m1⟩, trivial⟩⟩⟩⟩
    refine ⟨⟨true, .none rfl, fun h w => optUndef h, fun zβ za zw zc => ?_⟩, ?_⟩
    · obtain ⟨a1, c1, e1, hr1⟩ := (optMem (zc.dep 2 10 (by kernel_rfl)) rfl rfl)
      have m1 := (optMem (zc.dep 2 10 (by kernel_rfl)) rfl rfl)
      rw [e1] at m1
      exact wp_call (by kernel_rfl) rfl (hv2 (zc.kn.ev rfl) (((show za.eval (.tmp 10) = za.tmps.getD 10 undef from rfl)).trans e1)) (of_any _ _ _ _ _) (fun v w' h => ⟨v, rfl, h.2, optDef zβ (by rw [h.1]; exact isT_mk (by unfold I64; decide) (m1.below h.2))⟩)
    refine ⟨⟨true, .none rfl, fun h w => optUndef h, fun zβ za zw zc => ?_⟩, ?_⟩
    · obtain ⟨_, a0, c0, e0, _, _, _⟩ := IsT.form (optMem (zc.dep 3 11 (by kernel_rfl)) rfl rfl)
      have m0 := (optMem (zc.dep 3 11 (by kernel_rfl)) rfl rfl)
      rw [e0] at m0
      have E0 := ((show za.eval (.tmp 11) = za.tmps.getD 11 undef from rfl)).trans e0
      exact row_30_1 rfl E0 ⟨_, rfl, balloc _ _, optDef zβ ⟨_, _, rfl, Nat.le_refl _, by unfold maxLen; decide, ⟨⟨_, 0, _, _, rfl, (Blk.cell (Blk.new' rfl) _).trans rfl, (Blk.cell (Blk.new' rfl) _).trans rfl, IsT.below (balloc _ _) m0⟩, trivial⟩⟩⟩
    refine ⟨⟨true, .none rfl, fun h w => optUndef h, fun zβ za zw zc => ?_⟩, ?_⟩
    · obtain ⟨a1, c1, e1, hr1⟩ := (optMem (zc.dep 4 12 (by kernel_rfl)) rfl rfl)
      have m1 := (optMem (zc.dep 4 12 (by kernel_rfl)) rfl rfl)
      rw [e1] at m1
      exact wp_call (by kernel_rfl) rfl (hv2 (zc.kn.ev rfl) (((show za.eval (.tmp 12) = za.tmps.getD 12 undef from rfl)).trans e1)) (of_any _ _ _ _ _) (fun v w' h => ⟨v, rfl, h.2, optDef zβ (by rw [h.1]; exact isT_mk (by unfold I64; decide) (m1.below h.2))⟩)
    refine ⟨⟨true, .none rfl, fun h w => optUndef h, fun zβ za zw zc => ?_⟩, ?_⟩
    · exact ld_32 rfl (zc.kn.ev rfl) (bkeeps zc.below _ _ ((hB32.cell 0).trans rfl)) (bkeeps zc.below _ _ ((hB32.cell 1).trans rfl)) ⟨_, rfl, Below.refl _ _, optDef zβ rfl⟩
    refine ⟨⟨true, .none rfl, fun h w => optUndef h, fun zβ za zw zc => ?_⟩, ?_⟩
    · obtain ⟨_, a1, c1, e1, _, _, _⟩ := IsT.form (optMem (zc.dep 5 13 (by kernel_rfl)) rfl rfl)
      have m1 := (optMem (zc.dep 5 13 (by kernel_rfl)) rfl rfl)
      rw [e1] at m1
      have E1 := ((show za.eval (.tmp 13) = za.tmps.getD 13 undef from rfl)).trans e1
      have m2 : IsT zw (.mk 0 []) (.agg #[.int .i64 0, .slice none 0 0]) := isT_lf (by decide)
      have E2 := ((show za.eval (.tmp 14) = za.tmps.getD 14 undef from rfl).trans (optVal (zc.dep 6 14 (by kernel_rfl)) rfl rfl))
      exact build_34_1_2 rfl E1 E2 ⟨_, rfl, Below.refl _ _, optDef zβ (isLi_of (x := (⟨false, (.mk 3 [(.mk 2 [(.mk 1 []), (.mk ((-1)) [])])]), (.mk 0 [])⟩ : Li)) m1 m2)⟩
    refine ⟨⟨true, .none rfl, fun h w => optUndef h, fun zβ za zw zc => ?_⟩, ?_⟩
    · exact ld_32 rfl (zc.kn.ev rfl) (bkeeps zc.below _ _ ((hB35.cell 0).trans rfl)) (bkeeps zc.below _ _ ((hB35.cell 1).trans rfl)) ⟨_, rfl, Below.refl _ _, optDef zβ rfl⟩
    refine ⟨⟨true, .none rfl, fun h w => optUndef h, fun zβ za zw zc => ?_⟩, ?_⟩
    · have m0 : IsT zw (.mk 1 []) (.agg #[.int .i64 1, .slice none 0 0]) := isT_lf (by decide)
      have E0 := ((show za.eval (.tmp 16) = za.tmps.getD 16 undef from rfl).trans (optVal (zc.dep 8 16 (by kernel_rfl)) rfl rfl))
      exact row_30_1 rfl E0 ⟨_, rfl, balloc _ _, optDef zβ ⟨_, _, rfl, Nat.le_refl _, by unfold maxLen; decide, ⟨⟨_, 0, _, _, rfl, (Blk.cell (Blk.new' rfl) _).trans rfl, (Blk.cell (Blk.new' rfl) _).trans rfl, IsT.below (balloc _ _) m0⟩, trivial⟩⟩⟩
    refine ⟨⟨true, .none rfl, fun h w => optUndef h, fun zβ za zw zc => ?_⟩, ?_⟩
    · obtain ⟨a1, c1, e1, hr1⟩ := (optMem (zc.dep 9 17 (by kernel_rfl)) rfl rfl)
      have m1 := (optMem (zc.dep 9 17 (by kernel_rfl)) rfl rfl)
      rw [e1] at m1
      exact wp_call (by kernel_rfl) rfl (hv2 (zc.kn.ev rfl) (((show za.eval (.tmp 17) = za.tmps.getD 17 undef from rfl)).trans e1)) (of_any _ _ _ _ _) (fun v w' h => ⟨v, rfl, h.2, optDef zβ (by rw [h.1]; exact isT_mk (by unfold I64; decide) (m1.below h.2))⟩)
    refine ⟨⟨true, .none rfl, fun h w => optUndef h, fun zβ za zw zc => ?_⟩, ?_⟩
    · exact ld_32 rfl (zc.kn.ev rfl) (bkeeps zc.below _ _ ((hB32.cell 0).trans rfl)) (bkeeps zc.below _ _ ((hB32.cell 1).trans rfl)) ⟨_, rfl, Below.refl _ _, optDef zβ rfl⟩
    refine ⟨⟨true, .none rfl, fun h w => optUndef h, fun zβ za zw zc => ?_⟩, ?_⟩
    · obtain ⟨_, a1, c1, e1, _, _, _⟩ := IsT.form (optMem (zc.dep 10 18 (by kernel_rfl)) rfl rfl)
      have m1 := (optMem (zc.dep 10 18 (by kernel_rfl)) rfl rfl)
      rw [e1] at m1
      have E1 := ((show za.eval (.tmp 18) = za.tmps.getD 18 undef from rfl)).trans e1
      have m2 : IsT zw (.mk 0 []) (.agg #[.int .i64 0, .slice none 0 0]) := isT_lf (by decide)
      have E2 := ((show za.eval (.tmp 19) = za.tmps.getD 19 undef from rfl).trans (optVal (zc.dep 11 19 (by kernel_rfl)) rfl rfl))
      exact build_34_0_1_2 rfl (zc.kn.ev rfl) E1 E2 ⟨_, rfl, Below.refl _ _, optDef zβ (isLi_of (x := (⟨true, (.mk 3 [(.mk 1 [])]), (.mk 0 [])⟩ : Li)) m1 m2)⟩
    refine ⟨⟨true, .none rfl, fun h w => optUndef h, fun zβ za zw zc => ?_⟩, ?_⟩
    · obtain ⟨x1_0, x2_0, y1_0, y2_0, e0, _, _⟩ := IsLi.form (optMem (zc.dep 7 15 (by kernel_rfl)) rfl rfl)
      have m0 := (optMem (zc.dep 7 15 (by kernel_rfl)) rfl rfl)
      rw [e0] at m0
      have E0 := ((show za.eval (.tmp 15) = za.tmps.getD 15 undef from rfl)).trans e0
      obtain ⟨x1_1, x2_1, y1_1, y2_1, e1, _, _⟩ := IsLi.form (optMem (zc.dep 12 20 (by kernel_rfl)) rfl rfl)
      have m1 := (optMem (zc.dep 12 20 (by kernel_rfl)) rfl rfl)
      rw [e1] at m1
      have E1 := ((show za.eval (.tmp 20) = za.tmps.getD 20 undef from rfl)).trans e1
      exact row_23_2 rfl E0 E1 ⟨_, rfl, balloc _ _, optDef zβ ⟨_, _, rfl, isCl_blk (cs := [[.bool (⟨false, (.mk 3 [(.mk 2 [(.mk 1 []), (.mk ((-1)) [])])]), (.mk 0 [])⟩ : Li).neg, .int .i64 (⟨false, (.mk 3 [(.mk 2 [(.mk 1 []), (.mk ((-1)) [])])]), (.mk 0 [])⟩ : Li).l.f, .slice x1_0 (⟨false, (.mk 3 [(.mk 2 [(.mk 1 []), (.mk ((-1)) [])])]), (.mk 0 [])⟩ : Li).l.args.length y1_0, .int .i64 (⟨false, (.mk 3 [(.mk 2 [(.mk 1 []), (.mk ((-1)) [])])]), (.mk 0 [])⟩ : Li).r.f, .slice x2_0 (⟨false, (.mk 3 [(.mk 2 [(.mk 1 []), (.mk ((-1)) [])])]), (.mk 0 [])⟩ : Li).r.args.length y2_0], [.bool (⟨true, (.mk 3 [(.mk 1 [])]), (.mk 0 [])⟩ : Li).neg, .int .i64 (⟨true, (.mk 3 [(.mk 1 [])]), (.mk 0 [])⟩ : Li).l.f, .slice x1_1 (⟨true, (.mk 3 [(.mk 1 [])]), (.mk 0 [])⟩ : Li).l.args.length y1_1, .int .i64 (⟨true, (.mk 3 [(.mk 1 [])]), (.mk 0 [])⟩ : Li).r.f, .slice x2_1 (⟨true, (.mk 3 [(.mk 1 [])]), (.mk 0 [])⟩ : Li).r.args.length y2_1]]) (l := [(⟨false, (.mk 3 [(.mk 2 [(.mk 1 []), (.mk ((-1)) [])])]), (.mk 0 [])⟩ : Li), (⟨true, (.mk 3 [(.mk 1 [])]), (.mk 0 [])⟩ : Li)]) (Blk.new' rfl) rfl (by simp) (fun i hi hc => by have h9 : i < 2 := hi; (rcases (show i = 0 ∨ i = 1 by omega) with rfl | rfl <;> first | exact IsLi.below (balloc _ _) m0 | exact IsLi.below (balloc _ _) m1)) (by decide) (by simp [T.size, T.sizeL])⟩⟩
    refine ⟨⟨true, .none rfl, fun h w => optUndef h, fun zβ za zw zc => ?_⟩, ?_⟩
    · exact wp_assign rfl (show za.eval (.tmp 21) = za.tmps.getD 21 undef from rfl) ⟨_, rfl, Below.refl _ _, optDef zβ (optMem (zc.dep 13 21 (by kernel_rfl)) rfl rfl)⟩
    exact trivial
  · intro za w37 zh hb38 zu
    obtain ⟨za3, zc3, ze3, hC3⟩ := optMem (zu 14 3 (by kernel_rfl)) rfl rfl
    have zh := zh.cons (d := 3) ze3
    clear zu
    refine (show WE _ [(0, .bool false), (1, .pointer (some ⟨g6, 0, none⟩)), (2, .pointer (some ⟨g14, 0, none⟩)), (3, .slice za3 2 zc3)] w37 _ .normal from ?_) za (zh.sub ⟨rfl, rfl, rfl, rfl, trivial⟩)
    refine WE.next ?_
    refine WC.seq ?_
    refine WC.region ?_
    refine WL.call rfl rfl rfl (fun za zh zC => wp_call (by kernel_rfl) rfl (hv1 (zh.ev rfl))) (fnew_bad _) ?_
    rintro _ w41 ⟨rfl, hq40⟩
    refine WL.val (.tuple #[.pointer none, .int .i64 2]) rfl rfl rfl (fun za zC zh zk => wp_move rfl (zh.ev rfl) zk) ?_
    refine WL.val (.pointer none) rfl rfl rfl (fun za zC zh zk => ext2_0 rfl (zh.ev rfl) zk) ?_
    refine WL.val (.int .i64 2) rfl rfl rfl (fun za zC zh zk => ext2_1 rfl (zh.ev rfl) zk) ?_
    refine WL.val (.pointer none) rfl rfl rfl (fun za zC zh zk => wp_assign rfl (zh.ev rfl) zk) ?_
    refine WL.val (.int .i64 2) rfl rfl rfl (fun za zC zh zk => wp_assign rfl (zh.ev rfl) zk) ?_
    refine WL.nil (WE.sub (K' := [(0, .bool false), (1, .pointer (some ⟨g6, 0, none⟩)), (2, .pointer (some ⟨g14, 0, none⟩)), (3, .slice za3 2 zc3), (5, .int .i64 2)]) ⟨rfl, rfl, rfl, rfl, rfl, trivial⟩ ?_)
    refine WE.next ?_
    refine WC.seq ?_
    refine WC.region ?_
    refine WL.val (.slice za3 2 zc3) rfl rfl rfl (fun za zC zh zk => wp_move rfl (zh.ev rfl) zk) ?_
    refine WL.call rfl rfl rfl (fun za zh zC => wp_call (by kernel_rfl) rfl (hv2 (zh.ev rfl) (zh.ev rfl))) (feats_any 4 wkC _ _ _ (IsCl.below hC3 hq40) (by decide)) ?_
    rintro _ w42 ⟨⟨ra, rc, rfl, hN⟩, hbf⟩
    refine WL.step (post := NewRow w42 3 #[.int .i64 1, .int .i64 1, .int .i64 0, .int .i64 0, .int .i64 0, .int .i64 0, .int .i64 1, .int .i64 3, .int .i64 1, .int .i64 2, .int .i64 1, .int .i64 2, .int .i64 0, .int .i64 0, .int .i64 1, .int .i64 1, .int .i64 1, .int .i64 1] 18) rfl rfl rfl (fun za zC zh zk => row_27_18 rfl (zh.ev rfl) (zh.ev rfl) (zh.ev rfl) (zh.ev rfl) (zh.ev rfl) (zh.ev rfl) (zh.ev rfl) (zh.ev rfl) (zh.ev rfl) (zh.ev rfl) (zh.ev rfl) (zh.ev rfl) (zh.ev rfl) (zh.ev rfl) (zh.ev rfl) (zh.ev rfl) (zh.ev rfl) (zh.ev rfl) (zk _ _ (newRow _ _ _ _))) ?_
    rintro _ w43 ⟨g44, rfl, hg45, hB46, hb47, hz48⟩
    have hb49 : Below w30.heap.size w30 w42 := (bstep (bstep hb38 hq40) hbf)
    have hl50 : g6 < g44 := by have z1 := hB35.lt; have z2 := (hb49).size; omega
    have hl51 : g14 < g44 := by have z1 := hB32.lt; have z2 := (hb49).size; omega
    have hb52 : Below w.heap.size w w42 := (bstep hb34 hb49)
    have hl53 : w.heap.size ≤ g44 := by have z2 := (hb52).size; omega
    have hb54 : Below w37.heap.size w37 w42 := (bstep hq40 hbf)
    have hl55 : w37.heap.size ≤ g44 := by have z2 := (hb54).size; omega
    have hl56 : w42.heap.size ≤ g44 := by omega
    refine WL.call rfl rfl rfl (fun za zh zC => wp_call (by kernel_rfl) rfl (hv2 (zh.ev rfl) (zh.ev rfl))) (row_wk (Nums.below hN hb47) hB46) ?_
    rintro _ w58 ⟨rfl, hq57⟩
    refine WL.val (.bool true) rfl rfl rfl (fun za zC zh zk => wp_move rfl (zh.ev rfl) zk) ?_
    refine WL.want (d := 30) rfl rfl rfl ?_
    refine WL.step (post := NewRow w58 34 #[] 0) rfl rfl rfl (fun za zC zh zk => row_23_0 rfl  (zk _ _ (newRow _ _ _ _))) ?_
    rintro _ w59 ⟨g60, rfl, hg61, hB62, hb63, hz64⟩
    have hb65 : Below w30.heap.size w30 w58 := (bstep (bstep hb49 hb47) hq57)
    have hl66 : g6 < g60 := by have z1 := hB35.lt; have z2 := (hb65).size; omega
    have hl67 : g14 < g60 := by have z1 := hB32.lt; have z2 := (hb65).size; omega
    have hl68 : g44 < g60 := by have z1 := hB46.lt; have z2 := (hq57).size; omega
    have hb69 : Below w.heap.size w w58 := (bstep hb34 hb65)
    have hl70 : w.heap.size ≤ g60 := by have z2 := (hb69).size; omega
    have hb71 : Below w37.heap.size w37 w58 := (bstep (bstep hb54 hb47) hq57)
    have hl72 : w37.heap.size ≤ g60 := by have z2 := (hb71).size; omega
    have hb73 : Below w42.heap.size w42 w58 := (bstep hb47 hq57)
    have hl74 : w42.heap.size ≤ g60 := by have z2 := (hb73).size; omega
    refine WL.want (d := 30) rfl rfl rfl ?_
    refine WL.val (.slice za3 2 zc3) rfl rfl rfl (fun za zC zh zk => wp_move rfl (zh.ev rfl) zk) ?_
    refine WL.want (d := 30) rfl rfl rfl ?_
    have hb75 : Below w37.heap.size w37 w59 := (bstep hb71 hb63)
    refine WL.call rfl rfl rfl (fun za zh zC => wp_call (by kernel_rfl) rfl (hv3 (zh.ev rfl) (zh.ev rfl) (zh.ev rfl))) (may_wk1 (isCl_nil (by unfold maxLen; decide)) (IsCl.below hC3 hb75)) ?_
    rintro _ w77 ⟨rfl, hq76⟩
    refine WL.val (.bool true) rfl rfl rfl (fun za zC zh zk => wp_pickT rfl (zh.ev rfl) (zh.ev rfl) zk) ?_
    refine WL.val (.bool true) rfl rfl rfl (fun za zC zh zk => wp_move rfl (zh.ev rfl) zk) ?_
    refine WL.want (d := 35) rfl rfl rfl ?_
    refine WL.val (.slice za3 2 zc3) rfl rfl rfl (fun za zC zh zk => wp_move rfl (zh.ev rfl) zk) ?_
    refine WL.want (d := 35) rfl rfl rfl ?_
    refine WL.step (post := NewRow w77 34 #[] 0) rfl rfl rfl (fun za zC zh zk => row_23_0 rfl  (zk _ _ (newRow _ _ _ _))) ?_
    rintro _ w78 ⟨g79, rfl, hg80, hB81, hb82, hz83⟩
    have hb84 : Below w30.heap.size w30 w77 := (bstep (bstep hb38 hb75) hq76)
    have hl85 : g6 < g79 := by have z1 := hB35.lt; have z2 := (hb84).size; omega
    have hl86 : g14 < g79 := by have z1 := hB32.lt; have z2 := (hb84).size; omega
    have hb87 : Below w43.heap.size w43 w77 := (bstep (bstep hq57 hb63) hq76)
    have hl88 : g44 < g79 := by have z1 := hB46.lt; have z2 := (hb87).size; omega
    have hl89 : g60 < g79 := by have z1 := hB62.lt; have z2 := (hq76).size; omega
    have hb90 : Below w.heap.size w w77 := (bstep hb34 hb84)
    have hl91 : w.heap.size ≤ g79 := by have z2 := (hb90).size; omega
    have hb92 : Below w37.heap.size w37 w77 := (bstep hb75 hq76)
    have hl93 : w37.heap.size ≤ g79 := by have z2 := (hb92).size; omega
    have hb94 : Below w42.heap.size w42 w77 := (bstep hb47 hb87)
    have hl95 : w42.heap.size ≤ g79 := by have z2 := (hb94).size; omega
    refine WL.want (d := 35) rfl rfl rfl ?_
    have hb96 : Below w37.heap.size w37 w78 := (bstep hb92 hb82)
    refine WL.call rfl rfl rfl (fun za zh zC => wp_call (by kernel_rfl) rfl (hv3 (zh.ev rfl) (zh.ev rfl) (zh.ev rfl))) (may_wk2 (IsCl.below hC3 hb96) (isCl_nil (by unfold maxLen; decide))) ?_
    rintro _ w98 ⟨rfl, hq97⟩
    refine WL.want (d := 35) rfl rfl rfl ?_
    refine WL.val (.bool true) rfl rfl rfl (fun za zC zh zk => wp_not rfl (zh.ev rfl) zk) ?_
    refine WL.val (.bool true) rfl rfl rfl (fun za zC zh zk => wp_pickT rfl (zh.ev rfl) (zh.ev rfl) zk) ?_
    refine WL.val (.bool true) rfl rfl rfl (fun za zC zh zk => wp_move rfl (zh.ev rfl) zk) ?_
    refine WL.want (d := 41) rfl rfl rfl ?_
    refine WL.val (.int .i64 2) rfl rfl rfl (fun za zC zh zk => wp_move rfl (zh.ev rfl) zk) ?_
    refine WL.want (d := 41) rfl rfl rfl ?_
    refine WL.val (.bool true) rfl rfl rfl (fun za zC zh zk => eql_40 rfl (zh.ev rfl) (zh.ev rfl) zk) ?_
    refine WL.val (.bool true) rfl rfl rfl (fun za zC zh zk => wp_pickT rfl (zh.ev rfl) (zh.ev rfl) zk) ?_
    refine WL.val (.bool true) rfl rfl rfl (fun za zC zh zk => wp_assign rfl (zh.ev rfl) zk) ?_
    refine WL.nil (WE.sub (K' := [(0, .bool true), (1, .pointer (some ⟨g6, 0, none⟩)), (2, .pointer (some ⟨g14, 0, none⟩)), (3, .slice za3 2 zc3), (5, .int .i64 2)]) ⟨rfl, rfl, rfl, rfl, rfl, trivial⟩ ?_)
    refine WE.next ?_
    refine WC.ret ?_
    refine WE.ret1 rfl rfl ?_
    have hb99 : Below w.heap.size w w98 := (bstep (bstep hb90 hb82) hq97)
    exact ⟨_, rfl, rfl, hb99⟩

theorem lsize_le : ∀ (l : List Li) (n : Nat), n ≤ 8589974592 → (∀ x ∈ l, x.l.size ≤ 4294967296 ∧ x.r.size ≤ 4294967296) → lsize l n ≤ 8589974592
  | [], n, hn, _ => by rw [lsize]; exact hn
  | x :: r, n, hn, h => by
    rw [lsize]
    split
    · have h1 := h x (by simp)
      exact lsize_le r _ (by omega) (fun y hy => h y (by simp [hy]))
    · exact hn
theorem row_same {L : List Int} {w : World} {a b : Option Addr} {c e : Nat} (h1 : Nums w L a) (h2 : Nums w L b) (hz : L.length ≤ 1073741824) : Calls Try.prog 10 #[.slice a L.length c, .slice b L.length e] w (Ret fun v' w' => v' = .bool true ∧ Below w.heap.size w w') := by
  have := row_any L L w a b c e h1 h2 hz
  rwa [decide_eq_true rfl] at this
set_option maxRecDepth 100000 in
theorem features_any (n : Int) (l d : List Li) (w : World) (a b : Option Addr) (c e : Nat) (hl : IsCl w l a c) (hd : IsCl w d b e) (hz : l.length ≤ 1048576) (hz2 : d.length ≤ 1048576) : Calls Try.prog 3 #[.int .i64 n, .slice a l.length c, .slice b d.length e] w (Ret fun v' w' => v' = .bool true ∧ Below w.heap.size w w') := by
  have hsl := lsize_le l l.length (by omega) (fun x hx => ⟨hl.partsL x hx, hl.partsR x hx⟩)
  have hsd := lsize_le d d.length (by omega) (fun x hx => ⟨hd.partsL x hx, hd.partsR x hx⟩)
  refine Calls.walk (l := [.int .i64 n, .slice a l.length c, .slice b d.length e]) Try.func3 rfl (by kernel_rfl) ?_
  refine WC.sub (K' := [(0, .int .i64 n), (1, .slice a l.length c), (2, .slice b d.length e)]) ⟨rfl, rfl, rfl, trivial⟩ ?_
  refine WC.seq ?_
  refine WC.region ?_
  refine WL.val (.bool false) rfl rfl rfl (fun za zC zh zk => wp_assign rfl (zh.ev rfl) zk) ?_
  refine WL.nil (WE.sub (K' := [(0, .int .i64 n), (1, .slice a l.length c), (2, .slice b d.length e), (6, .bool false)]) ⟨rfl, rfl, rfl, rfl, trivial⟩ ?_)
  refine WE.next ?_
  refine WC.seq ?_
  refine WC.seq ?_
  refine WC.region ?_
  refine WL.val (.slice a l.length c) rfl rfl rfl (fun za zC zh zk => wp_move rfl (zh.ev rfl) zk) ?_
  refine WL.call rfl rfl rfl (fun za zh zC => wp_call (by kernel_rfl) rfl (hv1 (zh.ev rfl))) (lsize_any l _ _ _ (hl.below (Below.refl _ _))) ?_
  rintro _ w2 ⟨rfl, hq1⟩
  refine WL.val (.slice b d.length e) rfl rfl rfl (fun za zC zh zk => wp_move rfl (zh.ev rfl) zk) ?_
  refine WL.call rfl rfl rfl (fun za zh zC => wp_call (by kernel_rfl) rfl (hv1 (zh.ev rfl))) (lsize_any d _ _ _ (hd.below hq1)) ?_
  rintro _ w4 ⟨rfl, hq3⟩
  refine WL.val (.int .i64 (((((lsize l l.length) + (lsize d d.length)) : Nat) : Int))) rfl rfl rfl (fun za zC zh zk => addb_3 rfl (zh.ev rfl) (zh.ev rfl) (wrap_eq (by omega) (by omega) (by omega)) zk) ?_
  refine WL.val (.bool ((decide ((3000 : Int) < (((((lsize l l.length) + (lsize d d.length)) : Nat) : Int) : Int))))) rfl rfl rfl (fun za zC zh zk => gtr_3 rfl (zh.ev rfl) (zh.ev rfl) zk) ?_
  refine WL.nil (WE.sub (K' := [(0, .int .i64 n), (1, .slice a l.length c), (2, .slice b d.length e), (6, .bool false), (12, .bool ((decide ((3000 : Int) < (((((lsize l l.length) + (lsize d d.length)) : Nat) : Int) : Int)))))]) ⟨rfl, rfl, rfl, rfl, rfl, trivial⟩ ?_)
  refine WE.next ?_
  refine WC.cond rfl (fun h5 => ?_) (fun h5 => ?_)
  · have h5 : (3000 : Int) < (((((lsize l l.length) + (lsize d d.length)) : Nat) : Int) : Int) := by simpa using h5
    refine WC.seq ?_
    refine WC.region ?_
    refine WL.call rfl rfl rfl (fun za zh zC => wp_call (by kernel_rfl) rfl (hv0)) (wakes_any _) ?_
    rintro _ w7 ⟨rfl, hq6⟩
    refine WL.val (.bool true) rfl rfl rfl (fun za zC zh zk => wp_assign rfl (zh.ev rfl) zk) ?_
    refine WL.nil (WE.sub (K' := [(0, .int .i64 n), (1, .slice a l.length c), (2, .slice b d.length e), (6, .bool true), (12, .bool ((decide ((3000 : Int) < (((((lsize l l.length) + (lsize d d.length)) : Nat) : Int) : Int)))))]) ⟨rfl, rfl, rfl, rfl, rfl, trivial⟩ ?_)
    refine WE.next ?_
    refine WC.ret ?_
    refine WE.thenRet ?_
    refine WE.ret1 rfl rfl ?_
    have hb8 : Below w.heap.size w w7 := (bstep (bstep hq1 hq3) hq6)
    exact ⟨_, rfl, rfl, hb8⟩
  · have h5 : ¬ ((3000 : Int) < (((((lsize l l.length) + (lsize d d.length)) : Nat) : Int) : Int)) := by simpa using h5
    refine WC.skip ?_
    refine WE.next ?_
    refine WC.seq ?_
    refine WC.region ?_
    refine WL.val (.int .i64 n) rfl rfl rfl (fun za zC zh zk => wp_move rfl (zh.ev rfl) zk) ?_
    refine WL.val (.slice a l.length c) rfl rfl rfl (fun za zC zh zk => wp_move rfl (zh.ev rfl) zk) ?_
    have hb9 : Below w.heap.size w w4 := (bstep hq1 hq3)
    refine WL.call rfl rfl rfl (fun za zh zC => wp_call (by kernel_rfl) rfl (hv2 (zh.ev rfl) (zh.ev rfl))) (feats_any n l _ _ _ (hl.below hb9) hz) ?_
    rintro _ w10 ⟨⟨aP, cP, rfl, hNP⟩, hbP⟩
    refine WL.val (.int .i64 n) rfl rfl rfl (fun za zC zh zk => wp_move rfl (zh.ev rfl) zk) ?_
    refine WL.val (.slice a l.length c) rfl rfl rfl (fun za zC zh zk => wp_move rfl (zh.ev rfl) zk) ?_
    have hb11 : Below w.heap.size w w10 := (bstep hb9 hbP)
    refine WL.call rfl rfl rfl (fun za zh zC => wp_call (by kernel_rfl) rfl (hv2 (zh.ev rfl) (zh.ev rfl))) (rfeats_any n l _ _ _ (hl.below hb11) hz) ?_
    rintro _ w12 ⟨⟨aR, cR, rfl, hNR⟩, hbR⟩
    refine WL.call rfl rfl rfl (fun za zh zC => wp_call (by kernel_rfl) rfl (hv2 (zh.ev rfl) (zh.ev rfl))) (row_same (Nums.below hNP hbR) (Nums.below hNR (Below.refl _ _)) (by have z := featsI_le n l; omega)) ?_
    rintro _ w14 ⟨rfl, hq13⟩
    refine WL.val (.bool true) rfl rfl rfl (fun za zC zh zk => wp_move rfl (zh.ev rfl) zk) ?_
    refine WL.want (d := 21) rfl rfl rfl ?_
    refine WL.val (.int .i64 n) rfl rfl rfl (fun za zC zh zk => wp_move rfl (zh.ev rfl) zk) ?_
    refine WL.want (d := 21) rfl rfl rfl ?_
    refine WL.val (.slice a l.length c) rfl rfl rfl (fun za zC zh zk => wp_move rfl (zh.ev rfl) zk) ?_
    refine WL.want (d := 21) rfl rfl rfl ?_
    refine WL.val (.slice b d.length e) rfl rfl rfl (fun za zC zh zk => wp_move rfl (zh.ev rfl) zk) ?_
    refine WL.want (d := 21) rfl rfl rfl ?_
    have hb15 : Below w.heap.size w w14 := (bstep (bstep hb11 hbR) hq13)
    refine WL.call rfl rfl rfl (fun za zh zC => wp_call (by kernel_rfl) rfl (hv3 (zh.ev rfl) (zh.ev rfl) (zh.ev rfl))) (may_any n l d _ _ _ _ _ (hl.below hb15) (hd.below hb15) hz hz2) ?_
    rintro _ w17 ⟨rfl, hq16⟩
    refine WL.want (d := 21) rfl rfl rfl ?_
    refine WL.val (.int .i64 n) rfl rfl rfl (fun za zC zh zk => wp_move rfl (zh.ev rfl) zk) ?_
    refine WL.want (d := 21) rfl rfl rfl ?_
    refine WL.val (.slice a l.length c) rfl rfl rfl (fun za zC zh zk => wp_move rfl (zh.ev rfl) zk) ?_
    refine WL.want (d := 21) rfl rfl rfl ?_
    refine WL.val (.slice b d.length e) rfl rfl rfl (fun za zC zh zk => wp_move rfl (zh.ev rfl) zk) ?_
    refine WL.want (d := 21) rfl rfl rfl ?_
    have hb18 : Below w.heap.size w w17 := (bstep hb15 hq16)
    refine WL.call rfl rfl rfl (fun za zh zC => wp_call (by kernel_rfl) rfl (hv3 (zh.ev rfl) (zh.ev rfl) (zh.ev rfl))) (rmay_any n l d _ _ _ _ _ (hl.below hb18) (hd.below hb18) hz hz2) ?_
    rintro _ w20 ⟨rfl, hq19⟩
    refine WL.want (d := 21) rfl rfl rfl ?_
    refine WL.val (.bool true) rfl rfl rfl (fun za zC zh zk => eql_4 rfl (zh.ev rfl) (zh.ev rfl) (by rw [beq_self_eq_true]; exact zk)) ?_
    refine WL.val (.bool true) rfl rfl rfl (fun za zC zh zk => wp_pickT rfl (zh.ev rfl) (zh.ev rfl) zk) ?_
    refine WL.val (.bool true) rfl rfl rfl (fun za zC zh zk => wp_move rfl (zh.ev rfl) zk) ?_
    refine WL.want (d := 32) rfl rfl rfl ?_
    refine WL.call rfl rfl rfl (fun za zh zC => wp_call (by kernel_rfl) rfl (hv0)) (wakes_any _) ?_
    rintro _ w22 ⟨rfl, hq21⟩
    refine WL.val (.bool true) rfl rfl rfl (fun za zC zh zk => wp_pickT rfl (zh.ev rfl) (zh.ev rfl) zk) ?_
    refine WL.val (.bool true) rfl rfl rfl (fun za zC zh zk => wp_assign rfl (zh.ev rfl) zk) ?_
    refine WL.nil (WE.sub (K' := [(0, .int .i64 n), (1, .slice a l.length c), (2, .slice b d.length e), (6, .bool true), (12, .bool ((decide ((3000 : Int) < (((((lsize l l.length) + (lsize d d.length)) : Nat) : Int) : Int)))))]) ⟨rfl, rfl, rfl, rfl, rfl, trivial⟩ ?_)
    refine WE.next ?_
    refine WC.ret ?_
    refine WE.ret1 rfl rfl ?_
    have hb23 : Below w.heap.size w w22 := (bstep (bstep hb18 hq19) hq21)
    exact ⟨_, rfl, rfl, hb23⟩

end Go.Proofs.Ytnblndmjjokepaa
