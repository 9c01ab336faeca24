/- The walk through the program's check of a signature. -/
import Derived.Test.YtbnjppmmhhjjbaaDoorSgnWalk
import Derived.Test.YtbnjppmmhhjjbaaDoorSyMap
import Derived.Test.YtbnjppmmhhjjbaaDoorSgnPlain
namespace Go.Proofs.YtbnjppmmhhjjbaaDoor
open Go.RowKit Go
set_option linter.unusedVariables false
set_option linter.unusedSimpArgs false

theorem chk1 {l : List Sy} (h : 96 < l.length) : (3 : Int) = sigCheck l := by unfold sigCheck; rw [if_pos h]
theorem chk2 {l : List Sy} (h : ¬ 96 < l.length) (h2 : ((l.length : Nat) : Int) = (0 : Int) ∨ ¬ (sget l 0 = truth)) : (110 : Int) = sigCheck l := by
  unfold sigCheck
  rw [if_neg h, if_pos]
  cases l with
  | nil => simp
  | cons x r =>
    rcases h2 with h2 | h2
    · simp at h2; omega
    · simpa [sget] using h2
theorem chk0 {l : List Sy} (h : ¬ 96 < l.length) (h2 : ¬ (((l.length : Nat) : Int) = (0 : Int) ∨ ¬ (sget l 0 = truth))) : sigCheck l = metErr [] (l.drop 1) := by
  cases l with
  | nil => simp at h2
  | cons x r =>
    simp [sget] at h2
    obtain ⟨_, rfl⟩ := h2
    exact sigCheck_met r (by simpa using h)
theorem chk3 {l : List Sy} {k : Nat} (h : ¬ 96 < l.length) (hk : k < l.length - 1) (h2 : ¬ (((l.length : Nat) : Int) = (0 : Int) ∨ ¬ (sget l 0 = truth))) (hE : metErr [] (l.drop 1) = metErr ((l.drop 1).take k) ((l.drop 1).drop k)) (_ : k < l.length - 1) (ho : ((sget (l.drop 1) k).one : Int) ≠ (0 : Int)) : (sget (l.drop 1) k).one = sigCheck l := by
  rw [chk0 h h2, hE, metErr_step (by simp; omega), if_pos ho]
theorem chk4 {l : List Sy} {k : Nat} (h : ¬ 96 < l.length) (hk : k < l.length - 1) (h2 : ¬ (((l.length : Nat) : Int) = (0 : Int) ∨ ¬ (sget l 0 = truth))) (hE : metErr [] (l.drop 1) = metErr ((l.drop 1).take k) ((l.drop 1).drop k)) (_ : k < l.length - 1) (ho : ¬ ((sget (l.drop 1) k).one : Int) ≠ (0 : Int)) (hm : sget (l.drop 1) k ∈ (l.drop 1).take k) : (113 : Int) = sigCheck l := by
  rw [chk0 h h2, hE, metErr_step (by simp; omega), if_neg ho, if_pos hm]
theorem chk5 {l : List Sy} {k : Nat} (h : ¬ 96 < l.length) (hk : ¬ k < l.length - 1) (h2 : ¬ (((l.length : Nat) : Int) = (0 : Int) ∨ ¬ (sget l 0 = truth))) (hE : metErr [] (l.drop 1) = metErr ((l.drop 1).take k) ((l.drop 1).drop k)) (_ : ¬ k < l.length - 1) : (0 : Int) = sigCheck l := by
  have e : (l.drop 1).drop k = [] := List.drop_of_length_le (by simp; omega)
  rw [chk0 h h2, hE, e]; rfl
theorem take_sget {w : World} {r k : Nat} {L : List Sy} (hk : k < L.length) (h : MapSy w r (L.take k ++ [sget L k])) : MapSy w r (L.take (k + 1)) := by
  rw [List.take_succ_eq_append_getElem hk, ← sget_lt hk]; exact h
theorem sget0_truth {l : List Sy} (h : ¬ ((l.length : Nat) : Int) = 0) : (sget l 0 = truth ↔ l.head? = some truth) ∧ (sget l 0 = truth → l = truth :: l.drop 1) := by
  cases l with
  | nil => simp at h
  | cons x r => simp [sget]
set_option maxRecDepth 100000 in
theorem pcheck_any (l : List Sy) (w : World) (v : Value) (hv : IsSig w l v) : Calls Tryd.prog 11 #[v] w (Ret fun v' w' => v' = .int .i64 (sigCheck l) ∧ Below w.heap.size w w') := by
  obtain ⟨a, c, rfl, hc, hm, hl⟩ := hv
  unfold maxLen at hm
  refine Calls.walk (l := [.agg #[.slice a l.length c]]) Tryd.func11 rfl (by kernel_rfl) ?_
  refine WC.sub (K' := [(0, .agg #[.slice a l.length c])]) ⟨rfl, trivial⟩ ?_
  refine WC.seq ?_
  refine WC.region ?_
  refine WL.step (post := NewBlk w 24 #[.slice a l.length c]) rfl rfl rfl (fun za zC zh zk => box_24 rfl (zh.ev rfl) (zk _ _ (newBlk _ _ _))) ?_
  rintro _ w1 ⟨g2, rfl, hg3, hB4, hb5, hz6⟩
  have hl7 : w.heap.size ≤ g2 := by omega
  refine WL.val (.int .i64 0) rfl rfl rfl (fun za zC zh zk => wp_assign rfl (zh.ev rfl) zk) ?_
  refine WL.nil (WE.sub (K' := [(0, .agg #[.slice a l.length c]), (1, .pointer (some ⟨g2, 0, none⟩)), (2, .int .i64 0)]) ⟨rfl, rfl, rfl, trivial⟩ ?_)
  refine WE.next ?_
  refine WC.seq ?_
  refine WC.block ?_
  refine WC.seq ?_
  refine WC.region ?_
  refine WL.val (.pointer (some ⟨g2, 0, none⟩)) rfl rfl rfl (fun za zC zh zk => fld_24_0 rfl (zh.ev rfl) zk) ?_
  refine WL.val (.slice a l.length c) rfl rfl rfl (fun za zC zh zk => ld_22 rfl (zh.ev rfl) ((hB4.cell 0).trans rfl) zk) ?_
  refine WL.val (.int .i64 (((l.length : Nat) : Int))) rfl rfl rfl (fun za zC zh zk => len_22 rfl (zh.ev rfl) zk) ?_
  refine WL.val (.bool ((decide ((96 : Int) < (((l.length : Nat) : Int) : Int))))) rfl rfl rfl (fun za zC zh zk => gtr_3 rfl (zh.ev rfl) (zh.ev rfl) zk) ?_
  refine WL.val (.bool ((decide ((96 : Int) < (((l.length : Nat) : Int) : Int))))) rfl rfl rfl (fun za zC zh zk => wp_assign rfl (zh.ev rfl) zk) ?_
  refine WL.nil (WE.sub (K' := [(0, .agg #[.slice a l.length c]), (1, .pointer (some ⟨g2, 0, none⟩)), (2, .int .i64 0), (9, .bool ((decide ((96 : Int) < (((l.length : Nat) : Int) : Int)))))]) ⟨rfl, rfl, rfl, rfl, trivial⟩ ?_)
  refine WE.next ?_
  refine WC.cond rfl (fun h8 => ?_) (fun h8 => ?_)
  · have h8 : (96 : Int) < (((l.length : Nat) : Int) : Int) := by simpa using h8
    refine WC.seq ?_
    refine WC.region ?_
    refine WL.val (.int .i64 3) rfl rfl rfl (fun za zC zh zk => wp_assign rfl (zh.ev rfl) zk) ?_
    refine WL.nil (WE.sub (K' := [(0, .agg #[.slice a l.length c]), (1, .pointer (some ⟨g2, 0, none⟩)), (2, .int .i64 3), (9, .bool ((decide ((96 : Int) < (((l.length : Nat) : Int) : Int)))))]) ⟨rfl, rfl, rfl, rfl, trivial⟩ ?_)
    refine WE.next ?_
    refine WC.ret ?_
    refine WE.blockRet ?_
    refine WE.thenRet ?_
    refine WE.ret1 rfl rfl ?_
    exact ⟨_, rfl, congrArg (Value.int .i64) (by first | exact chk1 (by omega) | exact chk2 (by omega) (by assumption) | exact chk3 (by omega) (by omega) ‹_› hE (by omega) ‹_› | exact chk4 (by omega) (by omega) ‹_› hE (by omega) ‹_› ‹_› | exact chk5 (by omega) (by omega) ‹_› hE (by omega)), hb5⟩
  · have h8 : ¬ ((96 : Int) < (((l.length : Nat) : Int) : Int)) := by simpa using h8
    refine WC.seq ?_
    obtain ⟨b9, o10, ha11, hc12⟩ := IsSys.open hl
    refine WC.opt [(true, .val (.pointer (some ⟨g2, 0, none⟩))), (true, .val (.slice a l.length c)), (true, .val (.int .i64 (((l.length : Nat) : Int)))), (true, .val (.bool (((((l.length : Nat) : Int) : Int) == (0 : Int))))), (true, .val (.bool (((((l.length : Nat) : Int) : Int) == (0 : Int))))), ((true && !((((l.length : Nat) : Int) : Int) == (0 : Int))), .val (.pointer (some ⟨g2, 0, none⟩))), ((true && !((((l.length : Nat) : Int) : Int) == (0 : Int))), .val (.slice a l.length c)), ((true && !((((l.length : Nat) : Int) : Int) == (0 : Int))), .val (.pointer (some ⟨b9, o10 + 0 * 3, none⟩))), ((true && !((((l.length : Nat) : Int) : Int) == (0 : Int))), .val (.agg #[.string ((sget l 0).name), .int .i64 ((sget l 0).ar), .bool ((sget l 0).pred)])), ((true && !((((l.length : Nat) : Int) : Int) == (0 : Int))), .val (.agg #[.string truth.name, .int .i64 truth.ar, .bool truth.pred])), ((true && !((((l.length : Nat) : Int) : Int) == (0 : Int))), .val (.bool ((!decide ((sget l 0) = truth))))), (true, .val (.bool ((((((l.length : Nat) : Int) : Int) == (0 : Int)) || (!decide ((sget l 0) = truth)))))), (true, .val (.bool ((((((l.length : Nat) : Int) : Int) == (0 : Int)) || (!decide ((sget l 0) = truth))))))] [(0, .agg #[.slice a l.length c]), (1, .pointer (some ⟨g2, 0, none⟩)), (2, .int .i64 0), (9, .bool ((decide ((96 : Int) < (((l.length : Nat) : Int) : Int)))))] ⟨rfl, rfl, rfl, rfl, trivial⟩ (by kernel_rfl) (by kernel_rfl) (by kernel_rfl) ?_ ?_
    · refine ⟨⟨true, .none rfl, fun h w => optUndef h, fun zβ za zw zc => ?_⟩, ?_⟩
      · exact fld_24_0 rfl (zc.kn.ev rfl) ⟨_, rfl, Below.refl _ _, optDef zβ rfl⟩
      refine ⟨⟨true, .none rfl, fun h w => optUndef h, fun zβ za zw zc => ?_⟩, ?_⟩
      · exact ld_22 rfl ((show za.eval (.tmp 15) = za.tmps.getD 15 undef from rfl).trans (optVal (zc.dep 0 15 (by kernel_rfl)) rfl rfl)) (bkeeps zc.below _ _ ((hB4.cell 0).trans rfl)) ⟨_, rfl, Below.refl _ _, optDef zβ rfl⟩
      refine ⟨⟨true, .none rfl, fun h w => optUndef h, fun zβ za zw zc => ?_⟩, ?_⟩
      · exact len_22 rfl ((show za.eval (.tmp 16) = za.tmps.getD 16 undef from rfl).trans (optVal (zc.dep 1 16 (by kernel_rfl)) rfl rfl)) ⟨_, rfl, Below.refl _ _, optDef zβ rfl⟩
      refine ⟨⟨true, .none rfl, fun h w => optUndef h, fun zβ za zw zc => ?_⟩, ?_⟩
      · exact eql_3 rfl ((show za.eval (.tmp 17) = za.tmps.getD 17 undef from rfl).trans (optVal (zc.dep 2 17 (by kernel_rfl)) rfl rfl)) (zc.kn.ev rfl) ⟨_, rfl, Below.refl _ _, optDef zβ rfl⟩
      refine ⟨⟨true, .none rfl, fun h w => optUndef h, fun zβ za zw zc => ?_⟩, ?_⟩
      · exact wp_move rfl ((show za.eval (.tmp 18) = za.tmps.getD 18 undef from rfl).trans (optVal (zc.dep 3 18 (by kernel_rfl)) rfl rfl)) ⟨_, rfl, Below.refl _ _, optDef zβ rfl⟩
      refine ⟨⟨(true && !((((l.length : Nat) : Int) : Int) == (0 : Int))), .no (c := ((((l.length : Nat) : Int) : Int) == (0 : Int))) (d := true) rfl (fun v w h => h), fun h w => optUndef h, fun zβ za zw zc => ?_⟩, ?_⟩
      · exact fld_24_0 rfl (zc.kn.ev rfl) ⟨_, rfl, Below.refl _ _, optDef zβ rfl⟩
      refine ⟨⟨(true && !((((l.length : Nat) : Int) : Int) == (0 : Int))), .no (c := ((((l.length : Nat) : Int) : Int) == (0 : Int))) (d := true) rfl (fun v w h => h), fun h w => optUndef h, fun zβ za zw zc => ?_⟩, ?_⟩
      · exact ld_22 rfl ((show za.eval (.tmp 20) = za.tmps.getD 20 undef from rfl).trans (optVal (zc.dep 5 20 (by kernel_rfl)) rfl zβ)) (bkeeps zc.below _ _ ((hB4.cell 0).trans rfl)) ⟨_, rfl, Below.refl _ _, optDef zβ rfl⟩
      refine ⟨⟨(true && !((((l.length : Nat) : Int) : Int) == (0 : Int))), .no (c := ((((l.length : Nat) : Int) : Int) == (0 : Int))) (d := true) rfl (fun v w h => h), fun h w => optUndef h, fun zβ za zw zc => ?_⟩, ?_⟩
      · exact ix_22 (k := 0) rfl ((show za.eval (.tmp 21) = za.tmps.getD 21 undef from rfl).trans (optVal (zc.dep 6 21 (by kernel_rfl)) rfl zβ)) (ha11 0 (by first | omega | (have zz := zβ; simp only [Bool.and_eq_true, Bool.or_eq_true, Bool.true_and, Bool.not_eq_true', Bool.or_eq_false_iff, Bool.and_eq_false_iff, beq_eq_false_iff_ne, ne_eq, beq_iff_eq, decide_eq_true_eq, decide_eq_false_iff_not, bne_iff_ne] at zz; omega))) (zc.kn.ev rfl) (by first | omega | (have zz := zβ; simp only [Bool.and_eq_true, Bool.or_eq_true, Bool.true_and, Bool.not_eq_true', Bool.or_eq_false_iff, Bool.and_eq_false_iff, beq_eq_false_iff_ne, ne_eq, beq_iff_eq, decide_eq_true_eq, decide_eq_false_iff_not, bne_iff_ne] at zz; omega)) ⟨_, rfl, Below.refl _ _, optDef zβ rfl⟩
      refine ⟨⟨(true && !((((l.length : Nat) : Int) : Int) == (0 : Int))), .no (c := ((((l.length : Nat) : Int) : Int) == (0 : Int))) (d := true) rfl (fun v w h => h), fun h w => optUndef h, fun zβ za zw zc => ?_⟩, ?_⟩
      · exact ld_26 rfl ((show za.eval (.tmp 22) = za.tmps.getD 22 undef from rfl).trans (optVal (zc.dep 7 22 (by kernel_rfl)) rfl zβ)) (bkeeps (bstep hb5 zc.below) _ _ (hc12 0 (by first | omega | (have zz := zβ; simp only [Bool.and_eq_true, Bool.or_eq_true, Bool.true_and, Bool.not_eq_true', Bool.or_eq_false_iff, Bool.and_eq_false_iff, beq_eq_false_iff_ne, ne_eq, beq_iff_eq, decide_eq_true_eq, decide_eq_false_iff_not, bne_iff_ne] at zz; omega))).1) (bkeeps (bstep hb5 zc.below) _ _ (hc12 0 (by first | omega | (have zz := zβ; simp only [Bool.and_eq_true, Bool.or_eq_true, Bool.true_and, Bool.not_eq_true', Bool.or_eq_false_iff, Bool.and_eq_false_iff, beq_eq_false_iff_ne, ne_eq, beq_iff_eq, decide_eq_true_eq, decide_eq_false_iff_not, bne_iff_ne] at zz; omega))).2.1) (bkeeps (bstep hb5 zc.below) _ _ (hc12 0 (by first | omega | (have zz := zβ; simp only [Bool.and_eq_true, Bool.or_eq_true, Bool.true_and, Bool.not_eq_true', Bool.or_eq_false_iff, Bool.and_eq_false_iff, beq_eq_false_iff_ne, ne_eq, beq_iff_eq, decide_eq_true_eq, decide_eq_false_iff_not, bne_iff_ne] at zz; omega))).2.2) ⟨_, rfl, Below.refl _ _, optDef zβ rfl⟩
      refine ⟨⟨(true && !((((l.length : Nat) : Int) : Int) == (0 : Int))), .no (c := ((((l.length : Nat) : Int) : Int) == (0 : Int))) (d := true) rfl (fun v w h => h), fun h w => optUndef h, fun zβ za zw zc => ?_⟩, ?_⟩
      · exact wp_call (by kernel_rfl) rfl (hv0) (ptruth_any _) (fun v w' h => ⟨v, rfl, h.2, optDef zβ h.1⟩)
      refine ⟨⟨(true && !((((l.length : Nat) : Int) : Int) == (0 : Int))), .no (c := ((((l.length : Nat) : Int) : Int) == (0 : Int))) (d := true) rfl (fun v w h => h), fun h w => optUndef h, fun zβ za zw zc => ?_⟩, ?_⟩
      · exact wp_neq_sy (s := (sget l 0)) (t := truth) rfl ((show za.eval (.tmp 23) = za.tmps.getD 23 undef from rfl).trans (optVal (zc.dep 8 23 (by kernel_rfl)) rfl zβ)) ((show za.eval (.tmp 24) = za.tmps.getD 24 undef from rfl).trans (optVal (zc.dep 9 24 (by kernel_rfl)) rfl zβ)) ⟨_, rfl, Below.refl _ _, optDef zβ rfl⟩
      refine ⟨⟨true, .none rfl, fun h w => optUndef h, fun zβ za zw zc => ?_⟩, ?_⟩
      · exact wp_or rfl ((show za.eval (.tmp 19) = za.tmps.getD 19 undef from rfl).trans (optVal (zc.dep 4 19 (by kernel_rfl)) rfl rfl)) (fun hp => ((show za.eval (.tmp 25) = za.tmps.getD 25 undef from rfl).trans (optVal (zc.dep 10 25 (by kernel_rfl)) rfl (bMkN zβ hp)))) ⟨_, rfl, Below.refl _ _, optDef zβ rfl⟩
      refine ⟨⟨true, .none rfl, fun h w => optUndef h, fun zβ za zw zc => ?_⟩, ?_⟩
      · exact wp_assign rfl ((show za.eval (.tmp 26) = za.tmps.getD 26 undef from rfl).trans (optVal (zc.dep 11 26 (by kernel_rfl)) rfl rfl)) ⟨_, rfl, Below.refl _ _, optDef zβ rfl⟩
      exact trivial
    · intro za w13 zh hb14 zu
      have zh := zh.cons (d := 14) (v := .bool ((((((l.length : Nat) : Int) : Int) == (0 : Int)) || (!decide ((sget l 0) = truth))))) (optVal (zu 12 14 (by kernel_rfl)) rfl rfl)
      clear zu
      refine (show WE _ [(0, .agg #[.slice a l.length c]), (1, .pointer (some ⟨g2, 0, none⟩)), (2, .int .i64 0), (9, .bool ((decide ((96 : Int) < (((l.length : Nat) : Int) : Int))))), (14, .bool ((((((l.length : Nat) : Int) : Int) == (0 : Int)) || (!decide ((sget l 0) = truth)))))] w13 _ .normal from ?_) za (zh.sub ⟨rfl, rfl, rfl, rfl, rfl, trivial⟩)
      refine WE.next ?_
      refine WC.cond rfl (fun h15 => ?_) (fun h15 => ?_)
      · have h15 : ((((l.length : Nat) : Int) : Int) = (0 : Int)) ∨ (¬ ((sget l 0) = truth)) := by simpa using h15
        refine WC.seq ?_
        refine WC.region ?_
        refine WL.val (.int .i64 110) rfl rfl rfl (fun za zC zh zk => wp_assign rfl (zh.ev rfl) zk) ?_
        refine WL.nil (WE.sub (K' := [(0, .agg #[.slice a l.length c]), (1, .pointer (some ⟨g2, 0, none⟩)), (2, .int .i64 110), (9, .bool ((decide ((96 : Int) < (((l.length : Nat) : Int) : Int))))), (14, .bool ((((((l.length : Nat) : Int) : Int) == (0 : Int)) || (!decide ((sget l 0) = truth)))))]) ⟨rfl, rfl, rfl, rfl, rfl, trivial⟩ ?_)
        refine WE.next ?_
        refine WC.ret ?_
        refine WE.blockRet ?_
        refine WE.thenRet ?_
        refine WE.ret1 rfl rfl ?_
        have hb16 : Below w.heap.size w w13 := (bstep hb5 hb14)
        exact ⟨_, rfl, congrArg (Value.int .i64) (by first | exact chk1 (by omega) | exact chk2 (by omega) (by assumption) | exact chk3 (by omega) (by omega) ‹_› hE (by omega) ‹_› | exact chk4 (by omega) (by omega) ‹_› hE (by omega) ‹_› ‹_› | exact chk5 (by omega) (by omega) ‹_› hE (by omega)), hb16⟩
      · have h15 : ¬ (((((l.length : Nat) : Int) : Int) = (0 : Int)) ∨ (¬ ((sget l 0) = truth))) := by simpa using h15
        refine WC.skip ?_
        refine WE.blockNormal ?_
        refine WE.next ?_
        refine WC.seq ?_
        refine WC.region ?_
        refine WL.step (post := NewMapSy w13) rfl rfl rfl (fun za zC zh zk => wp_makeMap_sy rfl (zk)) ?_
        rintro _ w17 ⟨g18, rfl, hg19, ho20, hb21, hz22⟩
        have hl23 : g2 < g18 := by have z1 := hB4.lt; have z2 := (hb14).size; omega
        have hb24 : Below w.heap.size w w13 := (bstep hb5 hb14)
        have hl25 : w.heap.size ≤ g18 := by have z2 := (hb24).size; omega
        refine WL.val (.map ((some g18))) rfl rfl rfl (fun za zC zh zk => wp_assign rfl (zh.ev rfl) zk) ?_
        refine WL.nil (WE.sub (K' := [(0, .agg #[.slice a l.length c]), (1, .pointer (some ⟨g2, 0, none⟩)), (2, .int .i64 0), (3, .map ((some g18))), (9, .bool ((decide ((96 : Int) < (((l.length : Nat) : Int) : Int))))), (14, .bool ((((((l.length : Nat) : Int) : Int) == (0 : Int)) || (!decide ((sget l 0) = truth)))))]) ⟨rfl, rfl, rfl, rfl, rfl, rfl, trivial⟩ ?_)
        refine WE.next ?_
        refine WC.seq ?_
        refine WC.seq ?_
        refine WC.region ?_
        refine WL.val (.pointer (some ⟨g2, 0, none⟩)) rfl rfl rfl (fun za zC zh zk => fld_24_0 rfl (zh.ev rfl) zk) ?_
        have hb27 : Below w1.heap.size w1 w17 := (bstep hb14 hb21)
        have hB26 := hB4.below hb27
        refine WL.val (.slice a l.length c) rfl rfl rfl (fun za zC zh zk => ld_22 rfl (zh.ev rfl) ((hB26.cell 0).trans rfl) zk) ?_
        refine WL.val (.slice ((slA a 1 3 c)) ((l.length - 1)) ((c - 1))) rfl rfl rfl (fun za zC zh zk => slo_22 (k := 1) rfl (zh.ev rfl) (zh.ev rfl) (by omega) (by omega) zk) ?_
        refine WL.val (.int .i64 ((((l.length - 1) : Nat) : Int))) rfl rfl rfl (fun za zC zh zk => len_22 rfl (zh.ev rfl) zk) ?_
        refine WL.val (.int .i64 0) rfl rfl rfl (fun za zC zh zk => wp_move rfl (zh.ev rfl) zk) ?_
        refine WL.nil (WE.sub (K' := [(0, .agg #[.slice a l.length c]), (1, .pointer (some ⟨g2, 0, none⟩)), (2, .int .i64 0), (3, .map ((some g18))), (9, .bool ((decide ((96 : Int) < (((l.length : Nat) : Int) : Int))))), (14, .bool ((((((l.length : Nat) : Int) : Int) == (0 : Int)) || (!decide ((sget l 0) = truth))))), (30, .slice ((slA a 1 3 c)) ((l.length - 1)) ((c - 1))), (31, .int .i64 ((((l.length - 1) : Nat) : Int))), (32, .int .i64 0)]) ⟨rfl, rfl, rfl, rfl, rfl, rfl, rfl, rfl, rfl, trivial⟩ ?_)
        refine WE.next ?_
        refine WC.block ?_
        refine WC.loop (X := Nat) (fun k => l.length - k) (fun k => [(0, .agg #[.slice a l.length c]), (1, .pointer (some ⟨g2, 0, none⟩)), (3, .map ((some g18))), (9, .bool ((decide ((96 : Int) < (((l.length : Nat) : Int) : Int))))), (14, .bool ((((((l.length : Nat) : Int) : Int) == (0 : Int)) || (!decide ((sget l 0) = truth))))), (30, .slice ((slA a 1 3 c)) ((l.length - 1)) ((c - 1))), (31, .int .i64 ((((l.length - 1) : Nat) : Int))), (32, .int .i64 (((k : Nat) : Int)))]) (fun k w28 => k ≤ l.length - 1 ∧ metErr [] (l.drop 1) = metErr ((l.drop 1).take k) ((l.drop 1).drop k) ∧ Below w.heap.size w w28 ∧ Blk w28 g2 24 #[.slice a l.length c] ∧ MapSy w28 g18 ((l.drop 1).take k)) 0 ⟨rfl, rfl, rfl, rfl, rfl, rfl, rfl, rfl, trivial⟩ ?_ ?_
        · have hb29 : Below w.heap.size w w17 := (bstep hb5 hb27)
          exact ⟨Nat.zero_le _, rfl, hb29, hB26, (by simpa using ho20)⟩
        · rintro k w28 ⟨hk, hE, hb30, hB31, ho32⟩
          refine WC.seq ?_
          refine WC.region ?_
          refine WL.val (.bool ((decide ((((k : Nat) : Int) : Int) < ((((l.length - 1) : Nat) : Int) : Int))))) rfl rfl rfl (fun za zC zh zk => lss_3 rfl (zh.ev rfl) (zh.ev rfl) zk) ?_
          refine WL.nil (WE.sub (K' := [(0, .agg #[.slice a l.length c]), (1, .pointer (some ⟨g2, 0, none⟩)), (3, .map ((some g18))), (9, .bool ((decide ((96 : Int) < (((l.length : Nat) : Int) : Int))))), (14, .bool ((((((l.length : Nat) : Int) : Int) == (0 : Int)) || (!decide ((sget l 0) = truth))))), (30, .slice ((slA a 1 3 c)) ((l.length - 1)) ((c - 1))), (31, .int .i64 ((((l.length - 1) : Nat) : Int))), (32, .int .i64 (((k : Nat) : Int))), (33, .bool ((decide ((((k : Nat) : Int) : Int) < ((((l.length - 1) : Nat) : Int) : Int)))))]) ⟨rfl, rfl, rfl, rfl, rfl, rfl, rfl, rfl, rfl, trivial⟩ ?_)
          refine WE.next ?_
          refine WC.seq ?_
          refine WC.cond rfl (fun h33 => ?_) (fun h33 => ?_)
          · have h33 : (((k : Nat) : Int) : Int) < ((((l.length - 1) : Nat) : Int) : Int) := by simpa using h33
            refine WC.skip ?_
            refine WE.next ?_
            refine WC.seq ?_
            refine WC.block ?_
            refine WC.seq ?_
            refine WC.region ?_
            refine WL.val (.int .i64 (((k : Nat) : Int))) rfl rfl rfl (fun za zC zh zk => wp_move rfl (zh.ev rfl) zk) ?_
            obtain ⟨b34, o35, ha36, hc37⟩ := IsSys.open (IsRow.drop hl (by omega))
            refine WL.val (.pointer (some ⟨b34, o35 + k * 3, none⟩)) rfl rfl rfl (fun za zC zh zk => ix_22 (k := k) rfl (zh.ev rfl) (ha36 k (by first | omega | (simp; omega))) (zh.ev rfl) (by first | omega | (simp; omega)) zk) ?_
            refine WL.val (.agg #[.string ((sget ((l.drop 1)) k).name), .int .i64 ((sget ((l.drop 1)) k).ar), .bool ((sget ((l.drop 1)) k).pred)]) rfl rfl rfl (fun za zC zh zk => ld_26 rfl (zh.ev rfl) (bkeeps hb30 _ _ (hc37 k (by first | omega | (simp; omega))).1) (bkeeps hb30 _ _ (hc37 k (by first | omega | (simp; omega))).2.1) (bkeeps hb30 _ _ (hc37 k (by first | omega | (simp; omega))).2.2) zk) ?_
            refine WL.step (post := NewBlk w28 26 #[.string (⟨#[]⟩), .int .i64 0, .bool false]) rfl rfl rfl (fun za zC zh zk => alloc_26 rfl (zk _ _ (newBlk _ _ _))) ?_
            rintro _ w38 ⟨g39, rfl, hg40, hB41, hb42, hz43⟩
            have hl44 : g2 < g39 := by have z1 := hB31.lt; omega
            have hl45 : g18 < g39 := by have z1 := ho32.lt; omega
            have hl46 : w.heap.size ≤ g39 := by have z2 := (hb30).size; omega
            refine WL.val (.int .i64 (((k : Nat) : Int))) rfl rfl rfl (fun za zC zh zk => wp_assign rfl (zh.ev rfl) zk) ?_
            refine WL.step (post := fun _ w' => Upd g39 w38 w' ∧ Blk w' g39 26 #[.string ((sget ((l.drop 1)) k).name), .int .i64 ((sget ((l.drop 1)) k).ar), .bool ((sget ((l.drop 1)) k).pred)]) rfl rfl rfl (fun za zC zh zk => st_26 rfl (zh.ev rfl) (zh.ev rfl) rfl rfl rfl hB41 (by first | decide | simp) (fun v => zk v _ ⟨((Upd.at_ _ _ _ _).trans (Upd.at_ _ _ _ _)).trans (Upd.at_ _ _ _ _), ((hB41.set_ 0 _).set_ 1 _).set_ 2 _⟩)) ?_
            rintro v50 w47 ⟨hu48, hB49⟩
            have hb51 : Below w.heap.size w w38 := (bstep hb30 hb42)
            have hb52 := upd_below hb51 hu48 (by omega)
            have hB53 := hB31.below hb42
            have hB54 := upd_blk hB53 hu48 (by omega)
            have ho55 := ho32.below hb42
            have ho56 := ho55.upd hu48 (by omega)
            refine WL.nil (WE.sub (K' := [(0, .agg #[.slice a l.length c]), (1, .pointer (some ⟨g2, 0, none⟩)), (3, .map ((some g18))), (4, .int .i64 (((k : Nat) : Int))), (5, .pointer (some ⟨g39, 0, none⟩)), (9, .bool ((decide ((96 : Int) < (((l.length : Nat) : Int) : Int))))), (14, .bool ((((((l.length : Nat) : Int) : Int) == (0 : Int)) || (!decide ((sget l 0) = truth))))), (30, .slice ((slA a 1 3 c)) ((l.length - 1)) ((c - 1))), (31, .int .i64 ((((l.length - 1) : Nat) : Int))), (32, .int .i64 (((k : Nat) : Int))), (33, .bool ((decide ((((k : Nat) : Int) : Int) < ((((l.length - 1) : Nat) : Int) : Int)))))]) ⟨rfl, rfl, rfl, rfl, rfl, rfl, rfl, rfl, rfl, rfl, rfl, trivial⟩ ?_)
            refine WE.next ?_
            refine WC.seq ?_
            refine WC.seq ?_
            refine WC.region ?_
            refine WL.val (.agg #[.string ((sget ((l.drop 1)) k).name), .int .i64 ((sget ((l.drop 1)) k).ar), .bool ((sget ((l.drop 1)) k).pred)]) rfl rfl rfl (fun za zC zh zk => ld_26 rfl (zh.ev rfl) ((hB49.cell 0).trans rfl) ((hB49.cell 1).trans rfl) ((hB49.cell 2).trans rfl) zk) ?_
            refine WL.call rfl rfl rfl (fun za zh zC => wp_call (by kernel_rfl) rfl (hv1 (zh.ev rfl))) (pone_any (sget ((l.drop 1)) k) _ (IsSys.wf (IsRow.drop (k := 1) hl hc) (by simp; omega)).2) ?_
            rintro _ w57 ⟨rfl, hbc⟩
            refine WL.val (.int .i64 ((sget ((l.drop 1)) k).one)) rfl rfl rfl (fun za zC zh zk => wp_assign rfl (zh.ev rfl) zk) ?_
            refine WL.nil (WE.sub (K' := [(0, .agg #[.slice a l.length c]), (1, .pointer (some ⟨g2, 0, none⟩)), (3, .map ((some g18))), (4, .int .i64 (((k : Nat) : Int))), (5, .pointer (some ⟨g39, 0, none⟩)), (6, .int .i64 ((sget ((l.drop 1)) k).one)), (9, .bool ((decide ((96 : Int) < (((l.length : Nat) : Int) : Int))))), (14, .bool ((((((l.length : Nat) : Int) : Int) == (0 : Int)) || (!decide ((sget l 0) = truth))))), (30, .slice ((slA a 1 3 c)) ((l.length - 1)) ((c - 1))), (31, .int .i64 ((((l.length - 1) : Nat) : Int))), (32, .int .i64 (((k : Nat) : Int))), (33, .bool ((decide ((((k : Nat) : Int) : Int) < ((((l.length - 1) : Nat) : Int) : Int)))))]) ⟨rfl, rfl, rfl, rfl, rfl, rfl, rfl, rfl, rfl, rfl, rfl, rfl, trivial⟩ ?_)
            refine WE.next ?_
            refine WC.seq ?_
            refine WC.region ?_
            refine WL.val (.int .i64 ((sget ((l.drop 1)) k).one)) rfl rfl rfl (fun za zC zh zk => wp_move rfl (zh.ev rfl) zk) ?_
            refine WL.val (.bool ((((sget ((l.drop 1)) k).one : Int) != (0 : Int)))) rfl rfl rfl (fun za zC zh zk => neq_27 rfl (zh.ev rfl) (zh.ev rfl) zk) ?_
            refine WL.nil (WE.sub (K' := [(0, .agg #[.slice a l.length c]), (1, .pointer (some ⟨g2, 0, none⟩)), (3, .map ((some g18))), (4, .int .i64 (((k : Nat) : Int))), (5, .pointer (some ⟨g39, 0, none⟩)), (6, .int .i64 ((sget ((l.drop 1)) k).one)), (9, .bool ((decide ((96 : Int) < (((l.length : Nat) : Int) : Int))))), (14, .bool ((((((l.length : Nat) : Int) : Int) == (0 : Int)) || (!decide ((sget l 0) = truth))))), (30, .slice ((slA a 1 3 c)) ((l.length - 1)) ((c - 1))), (31, .int .i64 ((((l.length - 1) : Nat) : Int))), (32, .int .i64 (((k : Nat) : Int))), (33, .bool ((decide ((((k : Nat) : Int) : Int) < ((((l.length - 1) : Nat) : Int) : Int))))), (40, .bool ((((sget ((l.drop 1)) k).one : Int) != (0 : Int))))]) ⟨rfl, rfl, rfl, rfl, rfl, rfl, rfl, rfl, rfl, rfl, rfl, rfl, rfl, trivial⟩ ?_)
            refine WE.next ?_
            refine WC.cond rfl (fun h58 => ?_) (fun h58 => ?_)
            · have h58 : ((sget ((l.drop 1)) k).one : Int) ≠ (0 : Int) := by simpa using h58
              refine WC.seq ?_
              refine WC.region ?_
              refine WL.val (.int .i64 ((sget ((l.drop 1)) k).one)) rfl rfl rfl (fun za zC zh zk => wp_move rfl (zh.ev rfl) zk) ?_
              refine WL.val (.int .i64 ((sget ((l.drop 1)) k).one)) rfl rfl rfl (fun za zC zh zk => wp_assign rfl (zh.ev rfl) zk) ?_
              refine WL.nil (WE.sub (K' := [(0, .agg #[.slice a l.length c]), (1, .pointer (some ⟨g2, 0, none⟩)), (2, .int .i64 ((sget ((l.drop 1)) k).one)), (3, .map ((some g18))), (4, .int .i64 (((k : Nat) : Int))), (5, .pointer (some ⟨g39, 0, none⟩)), (6, .int .i64 ((sget ((l.drop 1)) k).one)), (9, .bool ((decide ((96 : Int) < (((l.length : Nat) : Int) : Int))))), (14, .bool ((((((l.length : Nat) : Int) : Int) == (0 : Int)) || (!decide ((sget l 0) = truth))))), (30, .slice ((slA a 1 3 c)) ((l.length - 1)) ((c - 1))), (31, .int .i64 ((((l.length - 1) : Nat) : Int))), (32, .int .i64 (((k : Nat) : Int))), (33, .bool ((decide ((((k : Nat) : Int) : Int) < ((((l.length - 1) : Nat) : Int) : Int))))), (40, .bool ((((sget ((l.drop 1)) k).one : Int) != (0 : Int))))]) ⟨rfl, rfl, rfl, rfl, rfl, rfl, rfl, rfl, rfl, rfl, rfl, rfl, rfl, rfl, trivial⟩ ?_)
              refine WE.next ?_
              refine WC.ret ?_
              refine WE.thenRet ?_
              refine WE.blockRet ?_
              refine WE.thenRet ?_
              refine WE.thenRet ?_
              refine WE.blockRet ?_
              refine WE.thenRet ?_
              refine WE.ret1 rfl rfl ?_
              have hb59 : Below w.heap.size w w57 := (bstep hb52 hbc)
              exact ⟨_, rfl, congrArg (Value.int .i64) (by first | exact chk1 (by omega) | exact chk2 (by omega) (by assumption) | exact chk3 (by omega) (by omega) ‹_› hE (by omega) ‹_› | exact chk4 (by omega) (by omega) ‹_› hE (by omega) ‹_› ‹_› | exact chk5 (by omega) (by omega) ‹_› hE (by omega)), hb59⟩
            · have h58 : ¬ (((sget ((l.drop 1)) k).one : Int) ≠ (0 : Int)) := by simpa using h58
              refine WC.skip ?_
              refine WE.next ?_
              refine WC.seq ?_
              refine WC.seq ?_
              refine WC.region ?_
              refine WL.val (.map ((some g18))) rfl rfl rfl (fun za zC zh zk => wp_move rfl (zh.ev rfl) zk) ?_
              have hB60 := hB49.below hbc
              refine WL.val (.agg #[.string ((sget ((l.drop 1)) k).name), .int .i64 ((sget ((l.drop 1)) k).ar), .bool ((sget ((l.drop 1)) k).pred)]) rfl rfl rfl (fun za zC zh zk => ld_26 rfl (zh.ev rfl) ((hB60.cell 0).trans rfl) ((hB60.cell 1).trans rfl) ((hB60.cell 2).trans rfl) zk) ?_
              have ho62 := ho56.below hbc
              refine WL.step (post := fun v w' => ∃ n : Int, v = .tuple #[.int .i64 n, .bool (decide ((sget ((l.drop 1)) k) ∈ ((l.drop 1).take k)))] ∧ w57 = w') rfl rfl rfl (fun za zC zh zk => wp_lookup_sy (s := (sget ((l.drop 1)) k)) rfl (zh.ev rfl) (zh.ev rfl) ho62 (fun n => zk _ _ ⟨n, rfl, rfl⟩)) ?_
              rintro _ _ ⟨n61, rfl, rfl⟩
              refine WL.val (.tuple #[.int .i64 n61, .bool ((decide ((sget ((l.drop 1)) k) ∈ ((l.drop 1).take k))))]) rfl rfl rfl (fun za zC zh zk => wp_move rfl (zh.ev rfl) zk) ?_
              refine WL.val (.int .i64 n61) rfl rfl rfl (fun za zC zh zk => ext2_0 rfl (zh.ev rfl) zk) ?_
              refine WL.val (.bool ((decide ((sget ((l.drop 1)) k) ∈ ((l.drop 1).take k))))) rfl rfl rfl (fun za zC zh zk => ext2_1 rfl (zh.ev rfl) zk) ?_
              refine WL.val (.int .i64 n61) rfl rfl rfl (fun za zC zh zk => wp_assign rfl (zh.ev rfl) zk) ?_
              refine WL.val (.bool ((decide ((sget ((l.drop 1)) k) ∈ ((l.drop 1).take k))))) rfl rfl rfl (fun za zC zh zk => wp_assign rfl (zh.ev rfl) zk) ?_
              refine WL.nil (WE.sub (K' := [(0, .agg #[.slice a l.length c]), (1, .pointer (some ⟨g2, 0, none⟩)), (3, .map ((some g18))), (4, .int .i64 (((k : Nat) : Int))), (5, .pointer (some ⟨g39, 0, none⟩)), (6, .int .i64 ((sget ((l.drop 1)) k).one)), (8, .bool ((decide ((sget ((l.drop 1)) k) ∈ ((l.drop 1).take k))))), (9, .bool ((decide ((96 : Int) < (((l.length : Nat) : Int) : Int))))), (14, .bool ((((((l.length : Nat) : Int) : Int) == (0 : Int)) || (!decide ((sget l 0) = truth))))), (30, .slice ((slA a 1 3 c)) ((l.length - 1)) ((c - 1))), (31, .int .i64 ((((l.length - 1) : Nat) : Int))), (32, .int .i64 (((k : Nat) : Int))), (33, .bool ((decide ((((k : Nat) : Int) : Int) < ((((l.length - 1) : Nat) : Int) : Int))))), (40, .bool ((((sget ((l.drop 1)) k).one : Int) != (0 : Int))))]) ⟨rfl, rfl, rfl, rfl, rfl, rfl, rfl, rfl, rfl, rfl, rfl, rfl, rfl, rfl, trivial⟩ ?_)
              refine WE.next ?_
              refine WC.seq ?_
              refine WC.region ?_
              refine WL.val (.bool ((decide ((sget ((l.drop 1)) k) ∈ ((l.drop 1).take k))))) rfl rfl rfl (fun za zC zh zk => wp_move rfl (zh.ev rfl) zk) ?_
              refine WL.nil (WE.sub (K' := [(0, .agg #[.slice a l.length c]), (1, .pointer (some ⟨g2, 0, none⟩)), (3, .map ((some g18))), (4, .int .i64 (((k : Nat) : Int))), (5, .pointer (some ⟨g39, 0, none⟩)), (6, .int .i64 ((sget ((l.drop 1)) k).one)), (8, .bool ((decide ((sget ((l.drop 1)) k) ∈ ((l.drop 1).take k))))), (9, .bool ((decide ((96 : Int) < (((l.length : Nat) : Int) : Int))))), (14, .bool ((((((l.length : Nat) : Int) : Int) == (0 : Int)) || (!decide ((sget l 0) = truth))))), (30, .slice ((slA a 1 3 c)) ((l.length - 1)) ((c - 1))), (31, .int .i64 ((((l.length - 1) : Nat) : Int))), (32, .int .i64 (((k : Nat) : Int))), (33, .bool ((decide ((((k : Nat) : Int) : Int) < ((((l.length - 1) : Nat) : Int) : Int))))), (40, .bool ((((sget ((l.drop 1)) k).one : Int) != (0 : Int)))), (48, .bool ((decide ((sget ((l.drop 1)) k) ∈ ((l.drop 1).take k)))))]) ⟨rfl, rfl, rfl, rfl, rfl, rfl, rfl, rfl, rfl, rfl, rfl, rfl, rfl, rfl, rfl, trivial⟩ ?_)
              refine WE.next ?_
              refine WC.cond rfl (fun h63 => ?_) (fun h63 => ?_)
              · have h63 : (sget ((l.drop 1)) k) ∈ ((l.drop 1).take k) := by simpa using h63
                refine WC.seq ?_
                refine WC.region ?_
                refine WL.val (.int .i64 113) rfl rfl rfl (fun za zC zh zk => wp_assign rfl (zh.ev rfl) zk) ?_
                refine WL.nil (WE.sub (K' := [(0, .agg #[.slice a l.length c]), (1, .pointer (some ⟨g2, 0, none⟩)), (2, .int .i64 113), (3, .map ((some g18))), (4, .int .i64 (((k : Nat) : Int))), (5, .pointer (some ⟨g39, 0, none⟩)), (6, .int .i64 ((sget ((l.drop 1)) k).one)), (8, .bool ((decide ((sget ((l.drop 1)) k) ∈ ((l.drop 1).take k))))), (9, .bool ((decide ((96 : Int) < (((l.length : Nat) : Int) : Int))))), (14, .bool ((((((l.length : Nat) : Int) : Int) == (0 : Int)) || (!decide ((sget l 0) = truth))))), (30, .slice ((slA a 1 3 c)) ((l.length - 1)) ((c - 1))), (31, .int .i64 ((((l.length - 1) : Nat) : Int))), (32, .int .i64 (((k : Nat) : Int))), (33, .bool ((decide ((((k : Nat) : Int) : Int) < ((((l.length - 1) : Nat) : Int) : Int))))), (40, .bool ((((sget ((l.drop 1)) k).one : Int) != (0 : Int)))), (48, .bool ((decide ((sget ((l.drop 1)) k) ∈ ((l.drop 1).take k)))))]) ⟨rfl, rfl, rfl, rfl, rfl, rfl, rfl, rfl, rfl, rfl, rfl, rfl, rfl, rfl, rfl, rfl, trivial⟩ ?_)
                refine WE.next ?_
                refine WC.ret ?_
                refine WE.thenRet ?_
                refine WE.blockRet ?_
                refine WE.thenRet ?_
                refine WE.thenRet ?_
                refine WE.blockRet ?_
                refine WE.thenRet ?_
                refine WE.ret1 rfl rfl ?_
                have hb64 : Below w.heap.size w w57 := (bstep hb52 hbc)
                exact ⟨_, rfl, congrArg (Value.int .i64) (by first | exact chk1 (by omega) | exact chk2 (by omega) (by assumption) | exact chk3 (by omega) (by omega) ‹_› hE (by omega) ‹_› | exact chk4 (by omega) (by omega) ‹_› hE (by omega) ‹_› ‹_› | exact chk5 (by omega) (by omega) ‹_› hE (by omega)), hb64⟩
              · have h63 : ¬ ((sget ((l.drop 1)) k) ∈ ((l.drop 1).take k)) := by simpa using h63
                refine WC.skip ?_
                refine WE.next ?_
                refine WC.region ?_
                refine WL.val (.map ((some g18))) rfl rfl rfl (fun za zC zh zk => wp_move rfl (zh.ev rfl) zk) ?_
                refine WL.val (.agg #[.string ((sget ((l.drop 1)) k).name), .int .i64 ((sget ((l.drop 1)) k).ar), .bool ((sget ((l.drop 1)) k).pred)]) rfl rfl rfl (fun za zC zh zk => ld_26 rfl (zh.ev rfl) ((hB60.cell 0).trans rfl) ((hB60.cell 1).trans rfl) ((hB60.cell 2).trans rfl) zk) ?_
                refine WL.val (.int .i64 (((k : Nat) : Int))) rfl rfl rfl (fun za zC zh zk => wp_move rfl (zh.ev rfl) zk) ?_
                refine WL.step (post := fun _ w' => MapSy w' g18 (((l.drop 1).take k) ++ [(sget ((l.drop 1)) k)]) ∧ Upd g18 w57 w') rfl rfl rfl (fun za zC zh zk => wp_mapUpdate_sy (s := (sget ((l.drop 1)) k)) rfl (zh.ev rfl) (zh.ev rfl) (zh.ev rfl) ho62 (by assumption) (fun v w' h1 h2 => zk v w' ⟨h1, h2⟩)) ?_
                rintro _ w65 ⟨ho66, hu67⟩
                have hb68 : Below w.heap.size w w57 := (bstep hb52 hbc)
                have hb69 := upd_below hb68 hu67 (by omega)
                have hB70 := hB54.below hbc
                have hB71 := upd_blk hB70 hu67 (by omega)
                have hB72 := upd_blk hB60 hu67 (by omega)
                refine WL.nil (WE.sub (K' := [(0, .agg #[.slice a l.length c]), (1, .pointer (some ⟨g2, 0, none⟩)), (3, .map ((some g18))), (4, .int .i64 (((k : Nat) : Int))), (5, .pointer (some ⟨g39, 0, none⟩)), (6, .int .i64 ((sget ((l.drop 1)) k).one)), (8, .bool ((decide ((sget ((l.drop 1)) k) ∈ ((l.drop 1).take k))))), (9, .bool ((decide ((96 : Int) < (((l.length : Nat) : Int) : Int))))), (14, .bool ((((((l.length : Nat) : Int) : Int) == (0 : Int)) || (!decide ((sget l 0) = truth))))), (30, .slice ((slA a 1 3 c)) ((l.length - 1)) ((c - 1))), (31, .int .i64 ((((l.length - 1) : Nat) : Int))), (32, .int .i64 (((k : Nat) : Int))), (33, .bool ((decide ((((k : Nat) : Int) : Int) < ((((l.length - 1) : Nat) : Int) : Int))))), (40, .bool ((((sget ((l.drop 1)) k).one : Int) != (0 : Int)))), (48, .bool ((decide ((sget ((l.drop 1)) k) ∈ ((l.drop 1).take k)))))]) ⟨rfl, rfl, rfl, rfl, rfl, rfl, rfl, rfl, rfl, rfl, rfl, rfl, rfl, rfl, rfl, trivial⟩ ?_)
                refine WE.blockNormal ?_
                refine WE.next ?_
                refine WC.region ?_
                refine WL.val (.int .i64 ((((k + 1) : Nat) : Int))) rfl rfl rfl (fun za zC zh zk => addb_3 rfl (zh.ev rfl) (zh.ev rfl) (wrap_eq (by omega) (by omega) (by omega)) zk) ?_
                refine WL.val (.int .i64 ((((k + 1) : Nat) : Int))) rfl rfl rfl (fun za zC zh zk => wp_move rfl (zh.ev rfl) zk) ?_
                refine WL.nil (WE.sub (K' := [(0, .agg #[.slice a l.length c]), (1, .pointer (some ⟨g2, 0, none⟩)), (3, .map ((some g18))), (4, .int .i64 (((k : Nat) : Int))), (5, .pointer (some ⟨g39, 0, none⟩)), (6, .int .i64 ((sget ((l.drop 1)) k).one)), (8, .bool ((decide ((sget ((l.drop 1)) k) ∈ ((l.drop 1).take k))))), (9, .bool ((decide ((96 : Int) < (((l.length : Nat) : Int) : Int))))), (14, .bool ((((((l.length : Nat) : Int) : Int) == (0 : Int)) || (!decide ((sget l 0) = truth))))), (30, .slice ((slA a 1 3 c)) ((l.length - 1)) ((c - 1))), (31, .int .i64 ((((l.length - 1) : Nat) : Int))), (32, .int .i64 ((((k + 1) : Nat) : Int))), (33, .bool ((decide ((((k : Nat) : Int) : Int) < ((((l.length - 1) : Nat) : Int) : Int))))), (40, .bool ((((sget ((l.drop 1)) k).one : Int) != (0 : Int)))), (48, .bool ((decide ((sget ((l.drop 1)) k) ∈ ((l.drop 1).take k)))))]) ⟨rfl, rfl, rfl, rfl, rfl, rfl, rfl, rfl, rfl, rfl, rfl, rfl, rfl, rfl, rfl, trivial⟩ ?_)
                refine WE.round (k + 1) ⟨rfl, rfl, rfl, rfl, rfl, rfl, rfl, rfl, trivial⟩ ?_ ?_
                · exact ⟨by omega, hE.trans (by rw [metErr_step (by simp; omega), if_neg (by simpa using h58), if_neg h63]), hb69, hB71, (take_sget (by simp; omega) ho66)⟩
                · omega
          · have h33 : ¬ ((((k : Nat) : Int) : Int) < ((((l.length - 1) : Nat) : Int) : Int)) := by simpa using h33
            refine WC.exit ?_
            refine WE.thenExit ?_
            refine WE.thenExit ?_
            refine WE.blockIs rfl ?_
            refine WE.next ?_
            refine WC.seq ?_
            refine WC.region ?_
            refine WL.val (.int .i64 0) rfl rfl rfl (fun za zC zh zk => wp_assign rfl (zh.ev rfl) zk) ?_
            refine WL.nil (WE.sub (K' := [(0, .agg #[.slice a l.length c]), (1, .pointer (some ⟨g2, 0, none⟩)), (2, .int .i64 0), (3, .map ((some g18))), (9, .bool ((decide ((96 : Int) < (((l.length : Nat) : Int) : Int))))), (14, .bool ((((((l.length : Nat) : Int) : Int) == (0 : Int)) || (!decide ((sget l 0) = truth))))), (30, .slice ((slA a 1 3 c)) ((l.length - 1)) ((c - 1))), (31, .int .i64 ((((l.length - 1) : Nat) : Int))), (32, .int .i64 (((k : Nat) : Int))), (33, .bool ((decide ((((k : Nat) : Int) : Int) < ((((l.length - 1) : Nat) : Int) : Int)))))]) ⟨rfl, rfl, rfl, rfl, rfl, rfl, rfl, rfl, rfl, rfl, trivial⟩ ?_)
            refine WE.next ?_
            refine WC.ret ?_
            refine WE.ret1 rfl rfl ?_
            exact ⟨_, rfl, congrArg (Value.int .i64) (by first | exact chk1 (by omega) | exact chk2 (by omega) (by assumption) | exact chk3 (by omega) (by omega) ‹_› hE (by omega) ‹_› | exact chk4 (by omega) (by omega) ‹_› hE (by omega) ‹_› ‹_› | exact chk5 (by omega) (by omega) ‹_› hE (by omega)), hb30⟩

end Go.Proofs.YtbnjppmmhhjjbaaDoor
