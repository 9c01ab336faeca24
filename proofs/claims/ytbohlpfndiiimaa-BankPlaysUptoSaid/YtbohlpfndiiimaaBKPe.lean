/- Is a term small? The program. -/
import Derived.Test.YtbohlpfndiiimaaBKPd
import Derived.Test.YtbohlpfndiiimaaBKPa
import Derived.Test.YtbohlpfndiiimaaBKPc
import Derived.Test.YtbohlpfndiiimaaBKPb

/- The walk through the program's check of a signature. -/
namespace Go.Proofs.Ytbohlpfndiiimaa
open Go.RowKit Go
set_option linter.unusedVariables false
set_option linter.unusedSimpArgs false
theorem chk1 {l : List Sy} (h : 96 < l.length) : (3 : Int) = sigCheck l := by unfold sigCheck; rw [if_pos h]
theorem chk2 {l : List Sy} (h : ¬ 96 < l.length) (h2 : ((l.length : Nat) : Int) = (0 : Int) ∨ ¬ (sget l 0 = truth)) : (110 : Int) = sigCheck l := by
 unfold sigCheck
 rw [if_neg h, if_pos]
 cases l with
 | nil => simp
 | cons x r =>
  rcases h2 with h2 | h2
  ·simp at h2; omega
  ·simpa [sget] using h2
theorem chk0 {l : List Sy} (h : ¬ 96 < l.length) (h2 : ¬ (((l.length : Nat) : Int) = (0 : Int) ∨ ¬ (sget l 0 = truth))) : sigCheck l = metErr [] (l.drop 1) := by
 cases l with
 | nil => simp at h2
 | cons x r =>
  simp [sget] at h2
  obtain ⟨_, rfl⟩ := h2
  exact sigCheck_met r (by simpa using h)
theorem chk3 {l : List Sy} {k : Nat} (h : ¬ 96 < l.length) (hk : k < l.length - 1) (h2 : ¬ (((l.length : Nat) : Int) = (0 : Int) ∨ ¬ (sget l 0 = truth))) (hE : metErr [] (l.drop 1) = metErr ((l.drop 1).take k) ((l.drop 1).drop k)) (_ : k < l.length - 1) (ho : ((sget (l.drop 1) k).one : Int) ≠ (0 : Int)) : (sget (l.drop 1) k).one = sigCheck l := by
 rw [chk0 h h2, hE, metErr_step (by simp; omega), if_pos ho]
theorem chk4 {l : List Sy} {k : Nat} (h : ¬ 96 < l.length) (hk : k < l.length - 1) (h2 : ¬ (((l.length : Nat) : Int) = (0 : Int) ∨ ¬ (sget l 0 = truth))) (hE : metErr [] (l.drop 1) = metErr ((l.drop 1).take k) ((l.drop 1).drop k)) (_ : k < l.length - 1) (ho : ¬ ((sget (l.drop 1) k).one : Int) ≠ (0 : Int)) (hm : sget (l.drop 1) k ∈ (l.drop 1).take k) : (113 : Int) = sigCheck l := by
 rw [chk0 h h2, hE, metErr_step (by simp; omega), if_neg ho, if_pos hm]
theorem chk5 {l : List Sy} {k : Nat} (h : ¬ 96 < l.length) (hk : ¬ k < l.length - 1) (h2 : ¬ (((l.length : Nat) : Int) = (0 : Int) ∨ ¬ (sget l 0 = truth))) (hE : metErr [] (l.drop 1) = metErr ((l.drop 1).take k) ((l.drop 1).drop k)) (_ : ¬ k < l.length - 1) : (0 : Int) = sigCheck l := by
 have e : (l.drop 1).drop k = [] := List.drop_of_length_le (by simp; omega)
 rw [chk0 h h2, hE, e]; rfl
theorem take_sget {w : World} {r k : Nat} {L : List Sy} (hk : k < L.length) (h : MapSy w r (L.take k ++ [sget L k])) : MapSy w r (L.take (k + 1)) := by
 rw [List.take_succ_eq_append_getElem hk, ← sget_lt hk]; exact h
set_option maxRecDepth 100000 in
theorem pcheck_any (l : List Sy) (w : World) (v : Value) (hv : IsSig w l v) : Calls Try.prog 26 #[v] w (Ret fun v' w' => v' = .int .i64 (sigCheck l) ∧ Below w.heap.size w w') := by
 obtain ⟨a, c, rfl, hc, hm, hl⟩ := hv
 unfold maxLen at hm
 refine Calls.walk (l := [.agg #[.slice a l.length c]]) Try.func26 rfl (by kernel_rfl) ?_
 refine WC.sub (K' := [(0, .agg #[.slice a l.length c])]) ⟨rfl, trivial⟩ ?_
 refine WC.seq (WC.region ?_)
 refine WL.step (post := NewBlk w 24 #[.slice a l.length c]) rfl rfl rfl (fun za zC zh zk => box_24 rfl (zh.ev rfl) (zk _ _ (newBlk _ _ _))) ?_
 rintro _ w1 ⟨g2, rfl, hg3, hB4, hb5, hz6⟩
 have hl7 : w.heap.size ≤ g2 := by omega
 refine WL.asg rfl rfl rfl rfl rfl (WL.nil (WE.next (WC.seq (WC.block (WC.seq (WC.region ?_))))))
 refine WL.val _ rfl rfl rfl (fun za zC zh zk => fld_24_0 rfl (zh.ev rfl) zk) ?_
 refine WL.val _ rfl rfl rfl (fun za zC zh zk => ld_22 rfl (zh.ev rfl) ((hB4.cell 0).trans rfl) zk) ?_
 refine WL.val (.int .i64 (((l.length : Nat) : Int))) rfl rfl rfl (fun za zC zh zk => len_22 rfl (zh.ev rfl) zk) ?_
 refine WL.val (.bool ((decide ((96 : Int) < (((l.length : Nat) : Int) : Int))))) rfl rfl rfl (fun za zC zh zk => gtr_3 rfl (zh.ev rfl) (zh.ev rfl) zk) ?_
 refine WL.asg rfl rfl rfl rfl rfl (WL.nil (WE.next ?_))
 refine WC.cond rfl (fun h8 => ?_) (fun h8 => ?_)
 ·have h8 : (96 : Int) < (((l.length : Nat) : Int) : Int) := by simpa using h8
  refine WC.seq (WC.region (WL.asg rfl rfl rfl rfl rfl (WL.nil (WE.next (WC.ret (WE.blockRet (WE.thenRet (WE.ret1 rfl rfl ?_))))))))
  exact ⟨_, rfl, congrArg (Value.int .i64) (by first | exact chk1 (by omega) | exact chk2 (by omega) (by assumption) | exact chk3 (by omega) (by omega) ‹_› hE (by omega) ‹_› | exact chk4 (by omega) (by omega) ‹_› hE (by omega) ‹_› ‹_› | exact chk5 (by omega) (by omega) ‹_› hE (by omega)), hb5⟩
 ·have h8 : ¬ ((96 : Int) < (((l.length : Nat) : Int) : Int)) := by simpa using h8
  refine WC.seq ?_
  obtain ⟨b9, o10, ha11, hc12⟩ := IsSys.open hl
  refine WC.opt [(true, .val (.pointer (some ⟨g2, 0, none⟩))), (true, .val (.slice a l.length c)), (true, .val (.int .i64 (((l.length : Nat) : Int)))), (true, .val (.bool (((((l.length : Nat) : Int) : Int) == (0 : Int))))), (true, .val (.bool (((((l.length : Nat) : Int) : Int) == (0 : Int))))), ((true && !((((l.length : Nat) : Int) : Int) == (0 : Int))), .val (.pointer (some ⟨g2, 0, none⟩))), ((true && !((((l.length : Nat) : Int) : Int) == (0 : Int))), .val (.slice a l.length c)), ((true && !((((l.length : Nat) : Int) : Int) == (0 : Int))), .val (.pointer (some ⟨b9, o10 + 0 * 3, none⟩))), ((true && !((((l.length : Nat) : Int) : Int) == (0 : Int))), .val (.agg #[.string ((sget l 0).name), .int .i64 ((sget l 0).ar), .bool ((sget l 0).pred)])), ((true && !((((l.length : Nat) : Int) : Int) == (0 : Int))), .val (.agg #[.string truth.name, .int .i64 truth.ar, .bool truth.pred])), ((true && !((((l.length : Nat) : Int) : Int) == (0 : Int))), .val (.bool ((!decide ((sget l 0) = truth))))), (true, .val (.bool ((((((l.length : Nat) : Int) : Int) == (0 : Int)) || (!decide ((sget l 0) = truth)))))), (true, .val (.bool ((((((l.length : Nat) : Int) : Int) == (0 : Int)) || (!decide ((sget l 0) = truth))))))] [(0, .agg #[.slice a l.length c]), (1, .pointer (some ⟨g2, 0, none⟩)), (2, .int .i64 0), (9, .bool ((decide ((96 : Int) < (((l.length : Nat) : Int) : Int)))))] ⟨rfl, rfl, rfl, rfl, trivial⟩ (by kernel_rfl) (by kernel_rfl) (by kernel_rfl) ?_ ?_
  ·refine ⟨⟨true, .none rfl, fun h w => optUndef h, fun zβ za zw zc => ?_⟩, ?_⟩
   ·exact fld_24_0 rfl (zc.kn.ev rfl) ⟨_, rfl, Below.refl _ _, optDef zβ rfl⟩
   refine ⟨⟨true, .none rfl, fun h w => optUndef h, fun zβ za zw zc => ?_⟩, ?_⟩
   ·exact ld_22 rfl ((evt za 15).trans (optVal (zc.dep 0 15 (by kernel_rfl)) rfl rfl)) (bkeeps zc.below _ _ ((hB4.cell 0).trans rfl)) ⟨_, rfl, Below.refl _ _, optDef zβ rfl⟩
   refine ⟨⟨true, .none rfl, fun h w => optUndef h, fun zβ za zw zc => ?_⟩, ?_⟩
   ·exact len_22 rfl ((evt za 16).trans (optVal (zc.dep 1 16 (by kernel_rfl)) rfl rfl)) ⟨_, rfl, Below.refl _ _, optDef zβ rfl⟩
   refine ⟨⟨true, .none rfl, fun h w => optUndef h, fun zβ za zw zc => ?_⟩, ?_⟩
   ·exact eql_3 rfl ((evt za 17).trans (optVal (zc.dep 2 17 (by kernel_rfl)) rfl rfl)) (zc.kn.ev rfl) ⟨_, rfl, Below.refl _ _, optDef zβ rfl⟩
   refine ⟨⟨true, .none rfl, fun h w => optUndef h, fun zβ za zw zc => ?_⟩, ?_⟩
   ·exact wp_move rfl ((evt za 18).trans (optVal (zc.dep 3 18 (by kernel_rfl)) rfl rfl)) ⟨_, rfl, Below.refl _ _, optDef zβ rfl⟩
   refine ⟨⟨_, .no (d := true) rfl (fun v w h => h), fun h w => optUndef h, fun zβ za zw zc => ?_⟩, ?_⟩
   ·exact fld_24_0 rfl (zc.kn.ev rfl) ⟨_, rfl, Below.refl _ _, optDef zβ rfl⟩
   refine ⟨⟨_, .no (d := true) rfl (fun v w h => h), fun h w => optUndef h, fun zβ za zw zc => ?_⟩, ?_⟩
   ·exact ld_22 rfl ((evt za 20).trans (optVal (zc.dep 5 20 (by kernel_rfl)) rfl zβ)) (bkeeps zc.below _ _ ((hB4.cell 0).trans rfl)) ⟨_, rfl, Below.refl _ _, optDef zβ rfl⟩
   refine ⟨⟨_, .no (d := true) rfl (fun v w h => h), fun h w => optUndef h, fun zβ za zw zc => ?_⟩, ?_⟩
   ·exact ix_22 (k := 0) rfl ((evt za 21).trans (optVal (zc.dep 6 21 (by kernel_rfl)) rfl zβ)) (ha11 0 (by first | omega | (have zz := zβ; simp only [Bool.and_eq_true, Bool.or_eq_true, Bool.true_and, Bool.not_eq_true', Bool.or_eq_false_iff, Bool.and_eq_false_iff, beq_eq_false_iff_ne, ne_eq, beq_iff_eq, decide_eq_true_eq, decide_eq_false_iff_not, bne_iff_ne, bne_eq_false_iff_eq] at zz; omega))) (zc.kn.ev rfl) (by first | omega | (have zz := zβ; simp only [Bool.and_eq_true, Bool.or_eq_true, Bool.true_and, Bool.not_eq_true', Bool.or_eq_false_iff, Bool.and_eq_false_iff, beq_eq_false_iff_ne, ne_eq, beq_iff_eq, decide_eq_true_eq, decide_eq_false_iff_not, bne_iff_ne, bne_eq_false_iff_eq] at zz; omega)) ⟨_, rfl, Below.refl _ _, optDef zβ rfl⟩
   refine ⟨⟨_, .no (d := true) rfl (fun v w h => h), fun h w => optUndef h, fun zβ za zw zc => ?_⟩, ?_⟩
   ·exact ld_66 rfl ((evt za 22).trans (optVal (zc.dep 7 22 (by kernel_rfl)) rfl zβ)) (bkeeps (bstep hb5 zc.below) _ _ (hc12 0 (by first | omega | (have zz := zβ; simp only [Bool.and_eq_true, Bool.or_eq_true, Bool.true_and, Bool.not_eq_true', Bool.or_eq_false_iff, Bool.and_eq_false_iff, beq_eq_false_iff_ne, ne_eq, beq_iff_eq, decide_eq_true_eq, decide_eq_false_iff_not, bne_iff_ne, bne_eq_false_iff_eq] at zz; omega))).1) (bkeeps (bstep hb5 zc.below) _ _ (hc12 0 (by first | omega | (have zz := zβ; simp only [Bool.and_eq_true, Bool.or_eq_true, Bool.true_and, Bool.not_eq_true', Bool.or_eq_false_iff, Bool.and_eq_false_iff, beq_eq_false_iff_ne, ne_eq, beq_iff_eq, decide_eq_true_eq, decide_eq_false_iff_not, bne_iff_ne, bne_eq_false_iff_eq] at zz; omega))).2.1) (bkeeps (bstep hb5 zc.below) _ _ (hc12 0 (by first | omega | (have zz := zβ; simp only [Bool.and_eq_true, Bool.or_eq_true, Bool.true_and, Bool.not_eq_true', Bool.or_eq_false_iff, Bool.and_eq_false_iff, beq_eq_false_iff_ne, ne_eq, beq_iff_eq, decide_eq_true_eq, decide_eq_false_iff_not, bne_iff_ne, bne_eq_false_iff_eq] at zz; omega))).2.2) ⟨_, rfl, Below.refl _ _, optDef zβ rfl⟩
   refine ⟨⟨_, .no (d := true) rfl (fun v w h => h), fun h w => optUndef h, fun zβ za zw zc => ?_⟩, ?_⟩
   ·exact wp_call (by kernel_rfl) rfl (hv0) (ptruth_any _) (fun v w' h => ⟨v, rfl, h.2, optDef zβ h.1⟩)
   refine ⟨⟨_, .no (d := true) rfl (fun v w h => h), fun h w => optUndef h, fun zβ za zw zc => ?_⟩, ?_⟩
   ·exact wp_neq_sy (s := (sget l 0)) (t := truth) rfl ((evt za 23).trans (optVal (zc.dep 8 23 (by kernel_rfl)) rfl zβ)) ((evt za 24).trans (optVal (zc.dep 9 24 (by kernel_rfl)) rfl zβ)) ⟨_, rfl, Below.refl _ _, optDef zβ rfl⟩
   refine ⟨⟨true, .none rfl, fun h w => optUndef h, fun zβ za zw zc => ?_⟩, ?_⟩
   ·exact wp_or rfl ((evt za 19).trans (optVal (zc.dep 4 19 (by kernel_rfl)) rfl rfl)) (fun hp => ((evt za 25).trans (optVal (zc.dep 10 25 (by kernel_rfl)) rfl (bMkN zβ hp)))) ⟨_, rfl, Below.refl _ _, optDef zβ rfl⟩
   refine ⟨⟨true, .none rfl, fun h w => optUndef h, fun zβ za zw zc => ?_⟩, ?_⟩
   ·exact wp_assign rfl ((evt za 26).trans (optVal (zc.dep 11 26 (by kernel_rfl)) rfl rfl)) ⟨_, rfl, Below.refl _ _, optDef zβ rfl⟩
   exact trivial
  ·intro za w13 zh hb14 zu
   have zh := zh.cons (d := 14) (v := .bool ((((((l.length : Nat) : Int) : Int) == (0 : Int)) || (!decide ((sget l 0) = truth))))) (optVal (zu 12 14 (by kernel_rfl)) rfl rfl)
   clear zu
   refine WE.go zh ?_
   refine WE.next ?_
   refine WC.cond rfl (fun h15 => ?_) (fun h15 => ?_)
   ·have h15 : ((((l.length : Nat) : Int) : Int) = (0 : Int)) ∨ (¬ ((sget l 0) = truth)) := by simpa using h15
    refine WC.seq (WC.region (WL.asg rfl rfl rfl rfl rfl (WL.nil (WE.next (WC.ret (WE.blockRet (WE.thenRet (WE.ret1 rfl rfl ?_))))))))
    have hb16 : Below w.heap.size w w13 := (bstep hb5 hb14)
    exact ⟨_, rfl, congrArg (Value.int .i64) (by first | exact chk1 (by omega) | exact chk2 (by omega) (by assumption) | exact chk3 (by omega) (by omega) ‹_› hE (by omega) ‹_› | exact chk4 (by omega) (by omega) ‹_› hE (by omega) ‹_› ‹_› | exact chk5 (by omega) (by omega) ‹_› hE (by omega)), hb16⟩
   ·have h15 : ¬ (((((l.length : Nat) : Int) : Int) = (0 : Int)) ∨ (¬ ((sget l 0) = truth))) := by simpa using h15
    refine WC.skip (WE.blockNormal (WE.next (WC.seq (WC.region ?_))))
    refine WL.step (post := NewMapSy w13) rfl rfl rfl (fun za zC zh zk => wp_makeMap_sy rfl (zk)) ?_
    rintro _ w17 ⟨g18, rfl, hg19, ho20, hb21, hz22⟩
    have hl23 : g2 < g18 := by have z1 := hB4.lt; have z2 := (hb14).size; omega
    have hb24 : Below w.heap.size w w13 := (bstep hb5 hb14)
    have hl25 : w.heap.size ≤ g18 := by have z2 := (hb24).size; omega
    refine WL.asg rfl rfl rfl rfl rfl (WL.nil (WE.next (WC.seq (WC.seq (WC.region ?_)))))
    refine WL.val _ rfl rfl rfl (fun za zC zh zk => fld_24_0 rfl (zh.ev rfl) zk) ?_
    have hb27 : Below w1.heap.size w1 w17 := (bstep hb14 hb21)
    have hB26 := hB4.below hb27
    refine WL.val _ rfl rfl rfl (fun za zC zh zk => ld_22 rfl (zh.ev rfl) ((hB26.cell 0).trans rfl) zk) ?_
    refine WL.val (.slice ((slA a 1 3 c)) ((l.length - 1)) ((c - 1))) rfl rfl rfl (fun za zC zh zk => slo_22 (k := 1) rfl (zh.ev rfl) (zh.ev rfl) (by omega) (by omega) zk) ?_
    refine WL.val (.int .i64 ((((l.length - 1) : Nat) : Int))) rfl rfl rfl (fun za zC zh zk => len_22 rfl (zh.ev rfl) zk) ?_
    refine WL.mv rfl rfl rfl rfl rfl (WL.nil (WE.next (WC.block ?_)))
    refine WC.loop (X := Nat) (fun k => l.length - k) (fun k => [(0, .agg #[.slice a l.length c]), (1, .pointer (some ⟨g2, 0, none⟩)), (3, .map ((some g18))), (9, .bool ((decide ((96 : Int) < (((l.length : Nat) : Int) : Int))))), (14, .bool ((((((l.length : Nat) : Int) : Int) == (0 : Int)) || (!decide ((sget l 0) = truth))))), (30, .slice ((slA a 1 3 c)) ((l.length - 1)) ((c - 1))), (31, .int .i64 ((((l.length - 1) : Nat) : Int))), (32, .int .i64 (((k : Nat) : Int)))]) (fun k w28 => k ≤ l.length - 1 ∧ metErr [] (l.drop 1) = metErr ((l.drop 1).take k) ((l.drop 1).drop k) ∧ Below w.heap.size w w28 ∧ Blk w28 g2 24 #[.slice a l.length c] ∧ MapSy w28 g18 ((l.drop 1).take k)) 0 ⟨rfl, rfl, rfl, rfl, rfl, rfl, rfl, rfl, trivial⟩ ?_ ?_
    ·have hb29 : Below w.heap.size w w17 := (bstep hb5 hb27)
     exact ⟨Nat.zero_le _, rfl, hb29, hB26, (by simpa using ho20)⟩
    ·rintro k w28 ⟨hk, hE, hb30, hB31, ho32⟩
     refine WC.seq (WC.region ?_)
     refine WL.val (.bool ((decide ((((k : Nat) : Int) : Int) < ((((l.length - 1) : Nat) : Int) : Int))))) rfl rfl rfl (fun za zC zh zk => lss_3 rfl (zh.ev rfl) (zh.ev rfl) zk) ?_
     refine WL.nil (WE.next (WC.seq ?_))
     refine WC.cond rfl (fun h33 => ?_) (fun h33 => ?_)
     ·have h33 : (((k : Nat) : Int) : Int) < ((((l.length - 1) : Nat) : Int) : Int) := by simpa using h33
      refine WC.skip (WE.next (WC.seq (WC.block (WC.seq (WC.region (WL.mv rfl rfl rfl rfl rfl ?_))))))
      obtain ⟨b34, o35, ha36, hc37⟩ := IsSys.open (IsRow.drop hl (by omega))
      refine WL.val _ rfl rfl rfl (fun za zC zh zk => ix_22 (k := k) rfl (zh.ev rfl) (ha36 k (by first | omega | (simp; omega))) (zh.ev rfl) (by first | omega | (simp; omega)) zk) ?_
      refine WL.val _ rfl rfl rfl (fun za zC zh zk => ld_66 rfl (zh.ev rfl) (bkeeps hb30 _ _ (hc37 k (by first | omega | (simp; omega))).1) (bkeeps hb30 _ _ (hc37 k (by first | omega | (simp; omega))).2.1) (bkeeps hb30 _ _ (hc37 k (by first | omega | (simp; omega))).2.2) zk) ?_
      refine WL.step (post := NewBlk w28 66 #[.string (⟨#[]⟩), .int .i64 0, .bool false]) rfl rfl rfl (fun za zC zh zk => alloc_66 rfl (zk _ _ (newBlk _ _ _))) ?_
      rintro _ w38 ⟨g39, rfl, hg40, hB41, hb42, hz43⟩
      have hl44 : g2 < g39 := by have z1 := hB31.lt; omega
      have hl45 : g18 < g39 := by have z1 := ho32.lt; omega
      have hl46 : w.heap.size ≤ g39 := by have z2 := (hb30).size; omega
      refine WL.asg rfl rfl rfl rfl rfl ?_
      refine WL.step (post := fun _ w' => Upd g39 w38 w' ∧ Blk w' g39 66 #[.string ((sget ((l.drop 1)) k).name), .int .i64 ((sget ((l.drop 1)) k).ar), .bool ((sget ((l.drop 1)) k).pred)]) rfl rfl rfl (fun za zC zh zk => st_66 rfl (zh.ev rfl) (zh.ev rfl) rfl rfl rfl hB41 (by first | decide | simp) (fun v => zk v _ ⟨((Upd.at_ _ _ _ _).trans (Upd.at_ _ _ _ _)).trans (Upd.at_ _ _ _ _), ((hB41.set_ 0 _).set_ 1 _).set_ 2 _⟩)) ?_
      rintro v50 w47 ⟨hu48, hB49⟩
      have hb51 : Below w.heap.size w w38 := (bstep hb30 hb42)
      have hb52 := upd_below hb51 hu48 (by omega)
      have hB53 := hB31.below hb42
      have hB54 := upd_blk hB53 hu48 (by omega)
      have ho55 := ho32.below hb42
      have ho56 := ho55.upd hu48 (by omega)
      refine WL.nil (WE.next (WC.seq (WC.seq (WC.region ?_))))
      refine WL.val _ rfl rfl rfl (fun za zC zh zk => ld_66 rfl (zh.ev rfl) ((hB49.cell 0).trans rfl) ((hB49.cell 1).trans rfl) ((hB49.cell 2).trans rfl) zk) ?_
      refine WL.call rfl rfl rfl (fun za zh zC => wp_call (by kernel_rfl) rfl (hv1 (zh.ev rfl))) (pone_any (sget ((l.drop 1)) k) _ (IsSys.wf (IsRow.drop (k := 1) hl hc) (by simp; omega)).2) ?_
      rintro _ w57 ⟨rfl, hbc⟩
      refine WL.asg rfl rfl rfl rfl rfl (WL.nil (WE.next (WC.seq (WC.region (WL.mv rfl rfl rfl rfl rfl ?_)))))
      refine WL.val (.bool ((((sget ((l.drop 1)) k).one : Int) != (0 : Int)))) rfl rfl rfl (fun za zC zh zk => neq_27 rfl (zh.ev rfl) (zh.ev rfl) zk) ?_
      refine WL.nil (WE.next ?_)
      refine WC.cond rfl (fun h58 => ?_) (fun h58 => ?_)
      ·have h58 : ((sget ((l.drop 1)) k).one : Int) ≠ (0 : Int) := by simpa using h58
       refine WC.seq (WC.region (WL.mv rfl rfl rfl rfl rfl (WL.asg rfl rfl rfl rfl rfl (WL.nil (WE.next (WC.ret (WE.thenRet (WE.blockRet (WE.thenRet (WE.thenRet (WE.blockRet (WE.thenRet (WE.ret1 rfl rfl ?_)))))))))))))
       have hb59 : Below w.heap.size w w57 := (bstep hb52 hbc)
       exact ⟨_, rfl, congrArg (Value.int .i64) (by first | exact chk1 (by omega) | exact chk2 (by omega) (by assumption) | exact chk3 (by omega) (by omega) ‹_› hE (by omega) ‹_› | exact chk4 (by omega) (by omega) ‹_› hE (by omega) ‹_› ‹_› | exact chk5 (by omega) (by omega) ‹_› hE (by omega)), hb59⟩
      ·have h58 : ¬ (((sget ((l.drop 1)) k).one : Int) ≠ (0 : Int)) := by simpa using h58
       refine WC.skip (WE.next (WC.seq (WC.seq (WC.region (WL.mv rfl rfl rfl rfl rfl ?_)))))
       have hB60 := hB49.below hbc
       refine WL.val _ rfl rfl rfl (fun za zC zh zk => ld_66 rfl (zh.ev rfl) ((hB60.cell 0).trans rfl) ((hB60.cell 1).trans rfl) ((hB60.cell 2).trans rfl) zk) ?_
       have ho62 := ho56.below hbc
       refine WL.step (post := fun v w' => ∃ n : Int, v = .tuple #[.int .i64 n, .bool (decide ((sget ((l.drop 1)) k) ∈ ((l.drop 1).take k)))] ∧ w57 = w') rfl rfl rfl (fun za zC zh zk => wp_lookup_sy (s := (sget ((l.drop 1)) k)) rfl (zh.ev rfl) (zh.ev rfl) ho62 (fun n => zk _ _ ⟨n, rfl, rfl⟩)) ?_
       rintro _ _ ⟨n61, rfl, rfl⟩
       refine WL.mv rfl rfl rfl rfl rfl ?_
       refine WL.val (.int .i64 n61) rfl rfl rfl (fun za zC zh zk => ext2_0 rfl (zh.ev rfl) zk) ?_
       refine WL.val (.bool ((decide ((sget ((l.drop 1)) k) ∈ ((l.drop 1).take k))))) rfl rfl rfl (fun za zC zh zk => ext2_1 rfl (zh.ev rfl) zk) ?_
       refine WL.asg rfl rfl rfl rfl rfl (WL.asg rfl rfl rfl rfl rfl (WL.nil (WE.next (WC.seq (WC.region (WL.mv rfl rfl rfl rfl rfl (WL.nil (WE.next ?_))))))))
       refine WC.cond rfl (fun h63 => ?_) (fun h63 => ?_)
       ·have h63 : (sget ((l.drop 1)) k) ∈ ((l.drop 1).take k) := by simpa using h63
        refine WC.seq (WC.region (WL.asg rfl rfl rfl rfl rfl (WL.nil (WE.next (WC.ret (WE.thenRet (WE.blockRet (WE.thenRet (WE.thenRet (WE.blockRet (WE.thenRet (WE.ret1 rfl rfl ?_))))))))))))
        have hb64 : Below w.heap.size w w57 := (bstep hb52 hbc)
        exact ⟨_, rfl, congrArg (Value.int .i64) (by first | exact chk1 (by omega) | exact chk2 (by omega) (by assumption) | exact chk3 (by omega) (by omega) ‹_› hE (by omega) ‹_› | exact chk4 (by omega) (by omega) ‹_› hE (by omega) ‹_› ‹_› | exact chk5 (by omega) (by omega) ‹_› hE (by omega)), hb64⟩
       ·have h63 : ¬ ((sget ((l.drop 1)) k) ∈ ((l.drop 1).take k)) := by simpa using h63
        refine WC.skip (WE.next (WC.region (WL.mv rfl rfl rfl rfl rfl ?_)))
        refine WL.val _ rfl rfl rfl (fun za zC zh zk => ld_66 rfl (zh.ev rfl) ((hB60.cell 0).trans rfl) ((hB60.cell 1).trans rfl) ((hB60.cell 2).trans rfl) zk) ?_
        refine WL.mv rfl rfl rfl rfl rfl ?_
        refine WL.step (post := fun _ w' => MapSy w' g18 (((l.drop 1).take k) ++ [(sget ((l.drop 1)) k)]) ∧ Upd g18 w57 w') rfl rfl rfl (fun za zC zh zk => wp_mapUpdate_sy (s := (sget ((l.drop 1)) k)) rfl (zh.ev rfl) (zh.ev rfl) (zh.ev rfl) ho62 (by assumption) (fun v w' h1 h2 => zk v w' ⟨h1, h2⟩)) ?_
        rintro _ w65 ⟨ho66, hu67⟩
        have hb68 : Below w.heap.size w w57 := (bstep hb52 hbc)
        have hb69 := upd_below hb68 hu67 (by omega)
        have hB70 := hB54.below hbc
        have hB71 := upd_blk hB70 hu67 (by omega)
        have hB72 := upd_blk hB60 hu67 (by omega)
        refine WL.nil (WE.sub (K' := [(0, .agg #[.slice a l.length c]), (1, .pointer (some ⟨g2, 0, none⟩)), (3, .map ((some g18))), (4, .int .i64 (((k : Nat) : Int))), (5, .pointer (some ⟨g39, 0, none⟩)), (6, .int .i64 ((sget ((l.drop 1)) k).one)), (8, .bool ((decide ((sget ((l.drop 1)) k) ∈ ((l.drop 1).take k))))), (9, .bool ((decide ((96 : Int) < (((l.length : Nat) : Int) : Int))))), (14, .bool ((((((l.length : Nat) : Int) : Int) == (0 : Int)) || (!decide ((sget l 0) = truth))))), (30, .slice ((slA a 1 3 c)) ((l.length - 1)) ((c - 1))), (31, .int .i64 ((((l.length - 1) : Nat) : Int))), (32, .int .i64 (((k : Nat) : Int))), (33, .bool ((decide ((((k : Nat) : Int) : Int) < ((((l.length - 1) : Nat) : Int) : Int))))), (40, .bool ((((sget ((l.drop 1)) k).one : Int) != (0 : Int)))), (48, .bool ((decide ((sget ((l.drop 1)) k) ∈ ((l.drop 1).take k)))))]) ⟨rfl, rfl, rfl, rfl, rfl, rfl, rfl, rfl, rfl, rfl, rfl, rfl, rfl, rfl, rfl, trivial⟩ ?_)
        refine WE.blockNormal (WE.next (WC.region ?_))
        refine WL.val (.int .i64 ((((k + 1) : Nat) : Int))) rfl rfl rfl (fun za zC zh zk => addb_3 rfl (zh.ev rfl) (zh.ev rfl) (wrap_eq (by omega) (by omega) (by omega)) zk) ?_
        refine WL.mv rfl rfl rfl rfl rfl (WL.nil ?_)
        refine WE.round (k + 1) ⟨rfl, rfl, rfl, rfl, rfl, rfl, rfl, rfl, trivial⟩ ?_ ?_
        ·exact ⟨by omega, hE.trans (by rw [metErr_step (by simp; omega), if_neg (by simpa using h58), if_neg h63]), hb69, hB71, (take_sget (by simp; omega) ho66)⟩
        ·omega
     ·have h33 : ¬ ((((k : Nat) : Int) : Int) < ((((l.length - 1) : Nat) : Int) : Int)) := by simpa using h33
      refine WC.exit (WE.thenExit (WE.thenExit (WE.blockIs rfl (WE.next (WC.seq (WC.region (WL.asg rfl rfl rfl rfl rfl (WL.nil (WE.next (WC.ret (WE.ret1 rfl rfl ?_)))))))))))
      exact ⟨_, rfl, congrArg (Value.int .i64) (by first | exact chk1 (by omega) | exact chk2 (by omega) (by assumption) | exact chk3 (by omega) (by omega) ‹_› hE (by omega) ‹_› | exact chk4 (by omega) (by omega) ‹_› hE (by omega) ‹_› ‹_› | exact chk5 (by omega) (by omega) ‹_› hE (by omega)), hb30⟩
end Go.Proofs.Ytbohlpfndiiimaa

/- Regions in whatever order in which a row grows by append and is then given to a variable ('l = append(l, f(..))'). -/
namespace Go.Proofs.Ytbohlpfndiiimaa
open Go.RowKit Go
set_option linter.unusedVariables false
set_option linter.unusedSimpArgs false
section
variable {P : Program} {ops : Array Oper}
structure CtxH (ops : Array Oper) (chain : List Nat) (R : Nat → Value → World → Prop) (G : List (Option Value) → World → Prop) (n : Fr) (K Ke : Known) (i : Nat) (o : Oper) (a : Act) (w : World) (vs : List (Option Value)) : Prop where
 now : G vs w
 kn : Kn n K a
 dep : ∀ j d, depB ops o j d = true → chain.contains j = false → R j (a.tmps.getD d undef) w
 len : vs.length = chain.length
 link : ∀ (p c d : Nat), chain[p]? = some c → depB ops o c d = true → vs[p]? = some (some (a.tmps.getD d undef))
 done : ∀ (p c : Nat), chain[p]? = some c → o.after.any (fun e => e.on == c && Region.binds .any e) = true → ∃ v, vs[p]? = some (some v)
 most : ∀ (p c : Nat), chain[p]? = some c → afterB ops c i = true → vs[p]? = some none
 mostT : ∀ (p c : Nat), chain[p]? = some c → (ancL ops c).contains i = true → vs[p]? = some none
 old : ∀ d v, look Ke d = some v → (∀ c, (ops[c]?).bind (·.dst) = some d → (ancL ops c).contains i = true) → a.tmps.getD d undef = v
def SoundH (P : Program) (ops : Array Oper) (Q : Exit → Act → World → Prop) (chain : List Nat) (R : Nat → Value → World → Prop) (Le : World → World → Prop) (G : List (Option Value) → World → Prop) (n : Fr) (K Ke : Known) (i : Nat) (o : Oper) : Prop :=
 (chain.contains i = false ∧ ∃ β, GuardIs R o β ∧ (∀ g b, o.guard = some (g, b) → chain.contains g = false) ∧ (β = false → ∀ w, R i undef w) ∧
  (β = true → ∀ (a : Act) (w : World) (vs : List (Option Value)), CtxH ops chain R G n K Ke i o a w vs →
   o.wpIn (fen n.r) 0 P a w (fun a' w' => ∃ v, a' = Act.put a o.dst v ∧ Le w w' ∧ G vs w' ∧ R i v w') Q)) ∨
 (∃ p, chain[p]? = some i ∧ o.guard = none ∧ ∀ (a : Act) (w : World) (vs : List (Option Value)), CtxH ops chain R G n K Ke i o a w vs → vs[p]? = some none →
   o.wpIn (fen n.r) 0 P a w (fun a' w' => ∃ v, a' = Act.put a o.dst v ∧ Le w w' ∧ G (vs.set p (some v)) w') Q)
def SoundFromH (P : Program) (ops : Array Oper) (Q : Exit → Act → World → Prop) (chain : List Nat) (R : Nat → Value → World → Prop) (Le : World → World → Prop) (G : List (Option Value) → World → Prop) (n : Fr) (K Ke : Known) : Nat → List Oper → Prop
 | _, [] => True
 | k, o :: r => SoundH P ops Q chain R Le G n K Ke k o ∧ SoundFromH P ops Q chain R Le G n K Ke (k + 1) r
theorem SoundFromH.at_ {Q : Exit → Act → World → Prop} {chain : List Nat} {R : Nat → Value → World → Prop} {Le : World → World → Prop} {G : List (Option Value) → World → Prop} {n : Fr} {K Ke : Known} : ∀ {l : List Oper} {k : Nat}, SoundFromH P ops Q chain R Le G n K Ke k l → ∀ i o, l[i]? = some o → SoundH P ops Q chain R Le G n K Ke (k + i) o
 | [], _, _, i, o, h => by simp at h
 | x :: r, k, h, 0, o, ho => by simp at ho; subst ho; exact h.1
 | x :: r, k, h, i + 1, o, ho => by
  have := h.2.at_ i o (by simpa using ho)
  rwa [show k + 1 + i = k + (i + 1) by omega] at this
structure AtH (ops : Array Oper) (chain : List Nat) (R : Nat → Value → World → Prop) (G : List (Option Value) → World → Prop) (n : Fr) (K Ke : Known) (listed : Array Bool) (a : Act) (vs : List (Option Value)) (w : World) : Prop where
 size : listed.size = ops.size
 kn : Kn n K a
 plain : ∀ i d, chain.contains i = false → listed.getD i false = true → (ops[i]?).bind (·.dst) = some d → R i (a.tmps.getD d undef) w
 link : ∀ p c : Nat, chain[p]? = some c → (listed.getD c false = true ↔ ∃ v, vs[p]? = some (some v))
 vals : ∀ (p c d : Nat), chain[p]? = some c → listed.getD c false = true → (ops[c]?).bind (·.dst) = some d → vs[p]? = some (some (a.tmps.getD d undef))
 len : vs.length = chain.length
 closed : ∀ i o, ops[i]? = some o → listed.getD i false = true → ∀ e ∈ o.after, Region.binds .any e = true → listed.getD e.on false = true
 now : G vs w
 old : ∀ d v, look Ke d = some v → (∀ c, (ops[c]?).bind (·.dst) = some d → listed.getD c false = false) → a.tmps.getD d undef = v
theorem wp_any_genH {Q : Exit → Act → World → Prop} {n : Fr} {K Ke : Known} (chain : List Nat) (R : Nat → Value → World → Prop) (Le : World → World → Prop) (G : List (Option Value) → World → Prop)
  (hB : opsB ops n.n = true) (hnd : chain.Nodup) (hin : (chain.all fun c => Nat.blt c ops.size) = true) (hclear : clearB ops K = true)
  (hR : ∀ i v w w', R i v w → Le w w' → R i v w')
  (h : SoundFromH P ops Q chain R Le G n K Ke 0 ops.toList)
  (hQ : ∀ (a : Act) (w : World) (vs : List (Option Value)), Kn n K a → vs.length = chain.length → (∀ p, p < chain.length → ∃ v, vs[p]? = some (some v)) → G vs w → (∀ i d, (ops[i]?).bind (·.dst) = some d → chain.contains i = false → R i (a.tmps.getD d undef) w) → (∀ (p c d : Nat), chain[p]? = some c → (ops[c]?).bind (·.dst) = some d → vs[p]? = some (some (a.tmps.getD d undef))) → Q .normal a w) :
  ∀ (a0 : Act) (w0 : World), Kn n K a0 → Kn n Ke a0 → G (List.replicate chain.length none) w0 → wpAnyIn (fen n.r) 0 P .any ops Q ops.size (Array.replicate ops.size false) a0 w0 := by
 have main : ∀ (fuel : Nat) (listed : Array Bool) (a : Act) (vs : List (Option Value)) (w : World), listed.toList.count false ≤ fuel → AtH ops chain R G n K Ke listed a vs w →
   wpAnyIn (fen n.r) 0 P .any ops Q fuel listed a w := by
  intro fuel
  have done : ∀ (listed : Array Bool) (a : Act) (vs : List (Option Value)) (w : World), Region.ready .any ops listed = [] → AtH ops chain R G n K Ke listed a vs w → Q .normal a w := by
   intro listed a vs w hr H
   have all : ∀ i, i < ops.size → listed.getD i false = true := fun i hi => by
    have := ready_nil hB H.size hr i hi
    have hs := H.size
    simpa [Array.getD, show i < listed.size by omega] using this
   have hin' : ∀ p c, chain[p]? = some c → c < ops.size := fun p c hc => by
    have := List.all_eq_true.1 hin _ (List.mem_of_getElem? hc)
    simpa [Nat.blt_eq] using this
   have lt_of : ∀ i d, (ops[i]?).bind (·.dst) = some d → i < ops.size := fun i d hd => by
    rcases Nat.lt_or_ge i ops.size with h | h
    ·exact h
    ·simp [Array.getElem?_eq_none h] at hd
   exact hQ a w vs H.kn H.len (fun p hp => (H.link p chain[p] (by simp [hp])).1 (all _ (hin' p _ (by simp [hp])))) H.now (fun i d hd hc => H.plain i d hc (all i (lt_of i d hd)) hd) (fun p c d hc hd => H.vals p c d hc (all c (hin' p c hc)) hd)
  induction fuel with
  | zero =>
   intro listed a vs w hc H
   have hr : Region.ready .any ops listed = [] := by
    cases hr : Region.ready .any ops listed with
    | nil => rfl
    | cons i r =>
     have := (mem_ready (md := .any) (ops := ops) (j := i) (listed := listed)).1 (by rw [hr]; simp)
     rw [count_zero hc i] at this
     simp at this
   exact ⟨hr, done listed a vs w hr H⟩
  | succ fuel ih =>
   intro listed a vs w hc H
   refine ⟨fun hr => done listed a vs w hr H, fun i hi => ?_⟩
   obtain ⟨hun, o, ho, haf⟩ := mem_ready.1 hi
   have hilt : i < ops.size := by
    rcases Nat.lt_or_ge i ops.size with h | h
    ·exact h
    ·simp [Array.getElem?_eq_none h] at ho
   have hils : i < listed.size := by have := H.size; omega
   have hun' := getD_false_of hun
   have ok := opsB_spec hB ho
   have hs2 := h.at_ i o (by simpa using ho)
   rw [Nat.zero_add] at hs2
   have after_of : ∀ j d, depB ops o j d = true → listed.getD j false = true ∧ (ops[j]?).bind (·.dst) = some d := by
    intro j d hj
    simp only [depB, Bool.and_eq_true, Array.any_eq_true, beq_iff_eq] at hj
    obtain ⟨⟨k, hk, h1, h2⟩, h3⟩ := hj
    exact ⟨h1 ▸ haf _ (Array.getElem_mem hk) h2, h3⟩
   have ctx : CtxH ops chain R G n K Ke i o a w vs := by
    have opt : ∀ p c, chain[p]? = some c → listed.getD c false = false → vs[p]? = some none := fun p c hc hl => by
     have hp : p < vs.length := by rw [H.len]; exact (List.getElem?_eq_some_iff.1 hc).1
     rw [List.getElem?_eq_getElem hp]
     cases hx : vs[p] with
     | none => rfl
     | some v =>
      have := (H.link p c hc).2 ⟨v, by rw [List.getElem?_eq_getElem hp, hx]⟩
      rw [hl] at this; cases this
    refine ⟨H.now, H.kn, fun j d hj hc => H.plain j d hc (after_of j d hj).1 (after_of j d hj).2, H.len, fun p c d hc hj => H.vals p c d hc (after_of c d hj).1 (after_of c d hj).2, fun p c hc ha => ?_, fun p c hc ha => opt p c hc ?_, fun p c hc ha => opt p c hc ?_, fun d v hd hc => H.old d v hd fun c hcd => ?_⟩
    ·simp only [Array.any_eq_true, Bool.and_eq_true, beq_iff_eq] at ha
     obtain ⟨k, hk, h1, h2⟩ := ha
     exact (H.link p c hc).1 (h1 ▸ haf _ (Array.getElem_mem hk) h2)
    ·cases hl : listed.getD c false with
     | false => rfl
     | true =>
      exfalso
      unfold afterB at ha
      split at ha
      ·rename_i oc hoc
       simp only [Array.any_eq_true, Bool.and_eq_true, beq_iff_eq] at ha
       obtain ⟨k, hk, h1, h2⟩ := ha
       have := H.closed c oc hoc hl _ (Array.getElem_mem hk) h2
       rw [h1, hun'] at this
       cases this
      ·cases ha
    ·cases hl : listed.getD c false with
     | false => rfl
     | true =>
      exfalso
      have := anc_listed H.closed hl i (by simpa using ha)
      rw [hun'] at this
      cases this
    ·cases hl : listed.getD c false with
     | false => rfl
     | true =>
      exfalso
      have := anc_listed H.closed hl i (by simpa using hc c hcd)
      rw [hun'] at this
      cases this
   unfold wpOpIn
   simp only [ho]
   -- what is behind a step
   have step : ∀ (v : Value) (vs' : List (Option Value)) (w' : World), (∀ j u, R j u w → R j u w') → G vs' w' → (∀ d, o.dst = some d → chain.contains i = false → R i v w') →
     ((chain.contains i = false ∧ vs' = vs) ∨ (∃ p, chain[p]? = some i ∧ vs' = vs.set p (some v))) →
     wpAnyIn (fen n.r) 0 P .any ops Q fuel (listed.setIfInBounds i true) (Act.put a o.dst v) w' := by
    intro v vs' w' hle hG hRi hvs
    have hc' := count_set (l := listed) hils hun hc
    have hset : ∀ j, (listed.setIfInBounds i true).getD j false = true ↔ j = i ∨ listed.getD j false = true := by
     intro j
     by_cases hj : j = i
     ·subst hj; simp [getD_set_eq hils]
     ·rw [getD_set_ne false (Ne.symm hj)]; simp [hj]
    have hother : ∀ j k, j ≠ i → (ops[j]?).bind (·.dst) = some k → (Act.put a o.dst v).tmps.getD k undef = a.tmps.getD k undef := by
     intro j k hji hjk
     refine act_put_other (fun hd => ?_)
     have hjlt : j < ops.size := by
      rcases Nat.lt_or_ge j ops.size with h | h
      ·exact h
      ·simp [Array.getElem?_eq_none h] at hjk
     exact hji (ok.own k j hd hjlt hjk).symm
    have hself : ∀ d, (ops[i]?).bind (·.dst) = some d → (Act.put a o.dst v).tmps.getD d undef = v := by
     intro d hd
     rw [ho] at hd
     simp only [Option.bind_some] at hd
     rw [hd]
     exact act_put_self (by rw [H.kn.size]; exact ok.lt d hd)
    refine ih _ _ vs' w' hc' ⟨by simpa using H.size, H.kn.put_clear (fun k hk => clearB_look hclear (mem_dsts ho hk)) v, fun j d hjc hj hjd => ?_, fun p c hpc => ?_, fun p c d hpc hp hcd => ?_, ?_, fun j oj hoj hj e he hb => ?_, hG, fun d u hd hc => ?_⟩
    ·by_cases hji : j = i
     ·subst hji
      rw [hself d hjd]
      rw [ho] at hjd
      exact hRi d hjd hjc
     ·rw [hother j d hji hjd]
      exact hle _ _ (H.plain j d hjc (((hset j).1 hj).resolve_left hji) hjd)
    ·rw [hset]
     rcases hvs with ⟨hci, rfl⟩ | ⟨q, hq, rfl⟩
     ·have : c ≠ i := by
       rintro rfl
       have := List.mem_of_getElem? hpc
       simp [this] at hci
      exact ⟨fun h => (H.link p c hpc).1 (h.resolve_left this), fun h => .inr ((H.link p c hpc).2 h)⟩
     ·have hpl : q < vs.length := by rw [H.len]; exact (List.getElem?_eq_some_iff.1 hq).1
      by_cases hpq : p = q
      ·subst hpq
       rw [hq] at hpc
       simp only [Option.some.injEq] at hpc
       subst hpc
       exact ⟨fun _ => ⟨v, by rw [List.getElem?_set_self hpl]⟩, fun _ => .inl rfl⟩
      ·have hci : c ≠ i := by
        rintro rfl
        exact hpq ((List.getElem?_inj (List.getElem?_eq_some_iff.1 hpc).1 hnd).1 (hpc.trans hq.symm))
       rw [List.getElem?_set_ne (Ne.symm hpq)]
       exact ⟨fun h => (H.link p c hpc).1 (h.resolve_left hci), fun h => .inr ((H.link p c hpc).2 h)⟩
    ·rcases hvs with ⟨hci, rfl⟩ | ⟨q, hq, rfl⟩
     ·have hne : c ≠ i := by
       rintro rfl
       have := List.mem_of_getElem? hpc
       simp [this] at hci
      rw [hother c d hne hcd]
      exact H.vals p c d hpc (((hset c).1 hp).resolve_left hne) hcd
     ·have hpl : q < vs.length := by rw [H.len]; exact (List.getElem?_eq_some_iff.1 hq).1
      by_cases hpq : p = q
      ·subst hpq
       rw [hq] at hpc
       simp only [Option.some.injEq] at hpc
       subst hpc
       rw [hself d hcd, List.getElem?_set_self hpl]
      ·have hne : c ≠ i := by
        rintro rfl
        exact hpq ((List.getElem?_inj (List.getElem?_eq_some_iff.1 hpc).1 hnd).1 (hpc.trans hq.symm))
       rw [hother c d hne hcd, List.getElem?_set_ne (Ne.symm hpq)]
       exact H.vals p c d hpc (((hset c).1 hp).resolve_left hne) hcd
    ·rcases hvs with ⟨hci, rfl⟩ | ⟨q, hq, rfl⟩
     ·exact H.len
     ·rw [List.length_set]; exact H.len
    ·rw [hset]
     by_cases hji : j = i
     ·subst hji
      rw [ho] at hoj
      simp only [Option.some.injEq] at hoj
      subst hoj
      exact .inr (haf e he hb)
     ·exact .inr (H.closed j oj hoj (((hset j).1 hj).resolve_left hji) e he hb)
    ·have hne : o.dst ≠ some d := fun e => by
      have := hc i (by rw [ho]; exact e)
      rw [(hset i).2 (.inl rfl)] at this
      cases this
     rw [act_put_other hne]
     refine H.old d u hd fun c hcd => ?_
     cases hl : listed.getD c false with
     | false => rfl
     | true => have := hc c hcd; rw [(hset c).2 (.inr hl)] at this; cases this
   rcases hs2 with ⟨hci, β, hg, hgc, hs1, hs2⟩ | ⟨p, hp, hgn, hs2⟩
   ·have hwant : Region.wanted o (yielded ops a.tmps) = β := by
     have known : ∀ g c d b, o.guard = some (g, b) → (∀ v w, R g v w → (d = true → v = .bool c) ∧ (d = false → v = undef)) → yielded ops a.tmps g = if d then some c else none := by
      intro g c dd b hgb hv
      obtain ⟨⟨e, he, h1, h2⟩, d, hd⟩ := ok.guard g b hgb
      have hv := hv (a.tmps.getD d undef) w (H.plain g d (hgc g b hgb) (h1 ▸ haf e he h2) hd)
      have hdlt : d < a.tmps.size := by
       obtain ⟨og, hog, hgd⟩ := Option.bind_eq_some_iff.1 hd
       rw [H.kn.size]
       exact (opsB_spec hB hog).lt d hgd
      unfold yielded
      rw [hd]
      simp only [Array.getD_eq_getD_getElem?, Array.getElem?_eq_getElem hdlt, Option.getD_some] at hv
      cases dd with
      | true => simp [hdlt, hv.1 rfl]
      | false => simp [hdlt, hv.2 rfl, undef]
     cases hg with
     | none h => unfold Region.wanted; rw [h]
     | @yes g c d h hv => have := known _ _ _ _ h hv; unfold Region.wanted; rw [h]; simp only [this]; cases d <;> simp
     | @no g c d h hv => have := known _ _ _ _ h hv; unfold Region.wanted; rw [h]; simp only [this]; cases d <;> cases c <;> simp
    cases hβ : β with
    | false =>
     rw [hβ] at hwant
     simp only [hwant, Bool.false_eq_true, if_false]
     refine ⟨fun f _ => fen_fn _ f, ?_⟩
     exact step undef vs w (fun _ _ h => h) H.now (fun _ _ _ => hs1 hβ w) (.inl ⟨hci, rfl⟩)
    | true =>
     rw [hβ] at hwant
     simp only [hwant, if_true]
     refine Oper.wpIn_mono ?_ (hs2 hβ a w vs ctx)
     rintro a' w' ⟨v, rfl, hle, hG, hRi⟩
     exact step v vs w' (fun j u hj => hR j u _ _ hj hle) hG (fun _ _ _ => hRi) (.inl ⟨hci, rfl⟩)
   ·have hwant : Region.wanted o (yielded ops a.tmps) = true := by unfold Region.wanted; rw [hgn]
    have hnone : vs[p]? = some none := by
     have hp' : p < vs.length := by rw [H.len]; exact (List.getElem?_eq_some_iff.1 hp).1
     rw [List.getElem?_eq_getElem hp']
     cases hx : vs[p] with
     | none => rfl
     | some v =>
      have := (H.link p i hp).2 ⟨v, by rw [List.getElem?_eq_getElem hp', hx]⟩
      rw [hun'] at this; cases this
    simp only [hwant, if_true]
    refine Oper.wpIn_mono ?_ (hs2 a w vs ctx hnone)
    rintro a' w' ⟨v, rfl, hle, hG⟩
    have hcc : chain.contains i = true := by
     have := List.mem_of_getElem? hp
     simpa using this
    exact step v (vs.set p (some v)) w' (fun j u hj => hR j u _ _ hj hle) hG (fun _ _ h => by rw [hcc] at h; cases h) (.inr ⟨p, hp, rfl⟩)
 intro a0 w0 hk0 hke h0
 have nothing' : ∀ i, (Array.replicate ops.size false).getD i false = false := fun i => by
  by_cases h : i < ops.size <;> simp [Array.getD, h]
 refine main _ _ _ (List.replicate chain.length none) _ (by simp) ⟨by simp, hk0, fun i d _ hi => ?_, fun p c hpc => ?_, fun p c d _ hp => ?_, by simp, fun i o _ hi => ?_, h0, fun d v hd _ => hke.knows d v hd⟩
 ·rw [nothing'] at hi; cases hi
 ·rw [nothing']
  refine ⟨fun h => (by cases h), fun ⟨v, hv⟩ => ?_⟩
  have hp := (List.getElem?_eq_some_iff.1 hpc).1
  simp [hp] at hv
 ·rw [nothing'] at hp; cases hp
 ·rw [nothing'] at hi; cases hi
/-- The law: of what is known of the frame 'K0' is what the region does not write. -/
theorem WC.genH {id : Nat} {dr : Bool} {Q : Exit → Act → World → Prop} {n : Fr} {K : Known} {w : World} (chain : List Nat) (R : Nat → Value → World → Prop) (Le : World → World → Prop) (G : List (Option Value) → World → Prop) (K0 : Known)
  (hs : subK K0 K) (hclear : clearB ops K0 = true) (hm : P.follows .mixedOrders = true) (hB : opsB ops n.n = true) (hnd : chain.Nodup) (hin : (chain.all fun c => Nat.blt c ops.size) = true)
  (hR : ∀ i v w w', R i v w → Le w w' → R i v w') (h0 : G (List.replicate chain.length none) (bif dr then w.drew else w))
  (h : SoundFromH P ops Q chain R Le G n K0 K 0 ops.toList)
  (hQ : ∀ (a : Act) (w : World) (vs : List (Option Value)), Kn n K0 a → vs.length = chain.length → (∀ p, p < chain.length → ∃ v, vs[p]? = some (some v)) → G vs w → (∀ i d, (ops[i]?).bind (·.dst) = some d → chain.contains i = false → R i (a.tmps.getD d undef) w) → (∀ (p c d : Nat), chain[p]? = some c → (ops[c]?).bind (·.dst) = some d → vs[p]? = some (some (a.tmps.getD d undef))) → Q .normal a w) :
  WC P n K w (.region id ops dr) Q := by
 intro a ha
 have main := wp_any_genH (Ke := K) chain R Le G hB hnd hin hclear hR h hQ a
 cases dr with
 | true => exact wpIn_region_any hm (main _ (ha.sub hs) ha h0)
 | false => exact any_start hB (main _ (ha.sub hs) ha h0)
end
section
variable {P : Program} {ops : Array Oper} {S : Nat → Prop}
/-- That slot 'd' is not written yet. -/
def earlyB (ops : Array Oper) (i d : Nat) : Bool := (List.range ops.size).all fun c => !((ops[c]?).bind (·.dst) == some d) || (ancL ops c).contains i
theorem earlyB_of {ops : Array Oper} {i d : Nat} (h : earlyB ops i d = true) : ∀ c, (ops[c]?).bind (·.dst) = some d → (ancL ops c).contains i = true := fun c hc => by
 have hlt : c < ops.size := by
  rcases Nat.lt_or_ge c ops.size with h | h
  ·exact h
  ·simp [Array.getElem?_eq_none h] at hc
 have := List.all_eq_true.1 h c (List.mem_range.2 hlt)
 simpa [hc] using this
structure CtxA3 (ops : Array Oper) (l : List (Bool × SpS S)) (chain : List Nat) (first : Nat) (n : Fr) (K Ke : Known) (w0 : World) (i : Nat) (o : Oper) (a : Act) (w : World) : Prop extends CtxA ops l chain first n K w0 i o a w where
 old : ∀ d v, look Ke d = some v → earlyB ops i d = true → a.tmps.getD d undef = v
def Tail3 (P : Program) (ops : Array Oper) (Q : Exit → Act → World → Prop) (l : List (Bool × SpS S)) (n : Fr) (K Ke : Known) (w0 : World) (p q N : Nat) (GA : Option Addr → Nat → World → Prop) : Nat → List Oper → Prop
 | _, [] => True
 | i, o :: r => (([p, q].contains i = false ∧ ∃ β, GuardIs (optS l) o β ∧ (∀ g b, o.guard = some (g, b) → [p, q].contains g = false) ∧ (β = false → ∀ w, optS l i undef w) ∧
   (β = true → ∀ a w, CtxA3 ops l [p, q] p n K Ke w0 i o a w → o.wp P a w (fun a' w' => ∃ v, a' = Act.put a o.dst v ∧ Below w.heap.size w w' ∧ optS l i v w') Q)) ∨
  (i = p ∧ o.guard = none ∧ ∀ a w, CtxB ops l [p, q] n K w0 o a w → o.wp P a w (fun a' w' => ∃ ra rc, a' = Act.put a o.dst (.slice ra N rc) ∧ GA ra rc w' ∧ Chg S w w') Q) ∨
  (i = q ∧ o.guard = none ∧ ∃ d, depB ops o p d = true ∧ o.op = .assign (.tmp d))) ∧ Tail3 P ops Q l n K Ke w0 p q N GA (i + 1) r
def G3 (S : Nat → Prop) (w0 : World) (N : Nat) (GA : Option Addr → Nat → World → Prop) : List (Option Value) → World → Prop
 | [none, none], w => Below w0.heap.size w0 w
 | [some v, none], w => ∃ ra rc, v = .slice ra N rc ∧ GA ra rc w ∧ Chg S w0 w
 | [some v, some u], w => ∃ ra rc, v = .slice ra N rc ∧ u = .slice ra N rc ∧ GA ra rc w ∧ Chg S w0 w
 | _, _ => False
theorem G3.chg {w0 w : World} {N : Nat} {GA : Option Addr → Nat → World → Prop} : ∀ {vs : List (Option Value)}, G3 S w0 N GA vs w → Chg S w0 w
 | [none, none], h => .ofBelow h
 | [some _, none], h => by obtain ⟨_, _, _, _, h⟩ := h; exact h
 | [some _, some _], h => by obtain ⟨_, _, _, _, _, h⟩ := h; exact h
 | [none, some _], h => h.elim
 | [], h => h.elim
 | [x], h => by cases x <;> exact h.elim
 | _ :: _ :: _ :: _, h => by simp [G3] at h
theorem Tail3.gen {Q : Exit → Act → World → Prop} {l : List (Bool × SpS S)} {n : Fr} {K Ke : Known} {w0 : World} {p q N : Nat} {GA : Option Addr → Nat → World → Prop} (hpq : p ≠ q) (hGA : ∀ ra rc w w', Below w.heap.size w w' → GA ra rc w → GA ra rc w') : ∀ {lo : List Oper} {i : Nat}, Tail3 P ops Q l n K Ke w0 p q N GA i lo →
  SoundFromH P ops Q [p, q] (optS l) (Chg S) (G3 S w0 N GA) n K Ke i lo
 | [], _, _ => trivial
 | o :: r, i, ⟨h, hr⟩ => by
  refine ⟨?_, hr.gen hpq hGA⟩
  rcases h with ⟨hi, β, h1, h2, h3, h4⟩ | ⟨rfl, hg, h4⟩ | ⟨rfl, hg, d, hd, ho⟩
  ·refine .inl ⟨hi, β, h1, h2, h3, fun hβ a w vs C => ?_⟩
   refine Oper.wpIn_mono ?_ (wpIn_of (h4 hβ a w ⟨⟨C.now.chg, C.kn, C.dep, fun he => ?_⟩, fun d v hd hb => C.old d v hd (earlyB_of hb)⟩) (by rintro a' w' ⟨v, rfl, _⟩; exact put_defers _ _ _))
   ·rintro a' w' ⟨v, rfl, hb, hR⟩
    refine ⟨v, rfl, .ofBelow hb, ?_, hR⟩
    match vs, C.len, C.now with
    | [none, none], _, h => exact bstep h hb
    | [some _, none], _, ⟨ra, rc, e, h, hc⟩ => exact ⟨ra, rc, e, hGA _ _ _ _ hb h, hc.trans (.ofBelow hb)⟩
    | [some _, some _], _, ⟨ra, rc, e, e2, h, hc⟩ => exact ⟨ra, rc, e, e2, hGA _ _ _ _ hb h, hc.trans (.ofBelow hb)⟩
    | [none, some _], _, h => exact h.elim
   ·have := C.mostT 0 p rfl he
    match vs, C.len, C.now, this with
    | [none, none], _, h, _ => exact h
    | [none, some _], _, h, _ => exact h.elim
  ·refine .inr ⟨0, rfl, hg, fun a w vs C hn => ?_⟩
   match vs, C.len, C.now, hn, C with
   | [none, none], _, h, _, C =>
    refine Oper.wpIn_mono ?_ (wpIn_of (h4 a w ⟨h, C.kn, C.dep⟩) (by rintro a' w' ⟨_, _, rfl, _⟩; exact put_defers _ _ _))
    rintro a' w' ⟨ra, rc, rfl, hG, hc⟩
    exact ⟨_, rfl, hc, ra, rc, rfl, hG, (Chg.ofBelow h).trans hc⟩
   | [none, some _], _, h, _, _ => exact h.elim
  ·refine .inr ⟨1, rfl, hg, fun a w vs C hn => ?_⟩
   have hl := C.link 0 p d rfl hd
   match vs, C.len, C.now, hn, hl, C with
   | [some v, none], _, ⟨ra, rc, e, h, hc⟩, _, hl, C =>
    have hv : v = a.tmps.getD d undef := by simpa using hl
    refine Oper.wpIn_mono ?_ (wpIn_of (K := fun a' w' => a' = Act.put a o.dst (.slice ra N rc) ∧ w' = w) (wp_assign ho (show a.tmps.getD d undef = .slice ra N rc from (hv ▸ e)) ⟨rfl, rfl⟩) (by rintro a' w' ⟨rfl, _⟩; exact put_defers _ _ _))
    rintro a' w' ⟨rfl, rfl⟩
    exact ⟨_, rfl, .refl _ _, ra, rc, e, rfl, h, hc⟩
theorem WC.tail3 {id : Nat} {dr : Bool} {Q : Exit → Act → World → Prop} {n : Fr} {K : Known} {w : World} (l : List (Bool × SpS S)) (K0 : Known) (p q N dp dq : Nat) (GA : Option Addr → Nat → World → Prop) (hpq : p ≠ q) (hGA : ∀ ra rc w w', Below w.heap.size w w' → GA ra rc w → GA ra rc w')
  (hs : subK K0 K) (hclear : clearB ops K0 = true) (hm : P.follows .mixedOrders = true) (hB : opsB ops n.n = true) (hin : ([p, q].all fun c => Nat.blt c ops.size) = true) (hdp : (ops[p]?).bind (·.dst) = some dp) (hdq : (ops[q]?).bind (·.dst) = some dq)
  (h : Tail3 P ops Q l n K0 K w p q N GA 0 ops.toList)
  (hQ : ∀ (a : Act) (w' : World) (ra : Option Addr) (rc : Nat), Kn n K0 a → a.tmps.getD dp undef = .slice ra N rc → a.tmps.getD dq undef = .slice ra N rc → GA ra rc w' → Chg S w w' → (∀ i d, (ops[i]?).bind (·.dst) = some d → [p, q].contains i = false → optS l i (a.tmps.getD d undef) w') → Q .normal a w') :
  WC P n K w (.region id ops dr) Q := by
 refine WC.genH [p, q] (optS l) (Chg S) (G3 S w N GA) K0 hs hclear hm hB (by simpa using hpq) hin (optSKeep l) ?_ (h.gen hpq hGA) (fun a w' vs hk hlen hall hG hu hl => ?_)
 ·cases dr with
  | true => exact (Below.refl _ _).drew
  | false => exact Below.refl _ _
 ·obtain ⟨v, hv⟩ := hall 0 (by simp)
  obtain ⟨u, hu1⟩ := hall 1 (by simp)
  have hx := hl 0 p dp rfl hdp
  have hx2 := hl 1 q dq rfl hdq
  match vs, hlen, hv, hu1, hx, hx2, hG with
  | [some y, some z], _, _, _, hx, hx2, ⟨ra, rc, e, e2, hG, hc⟩ =>
   have hy : y = a.tmps.getD dp undef := by simpa using hx
   have hz : z = a.tmps.getD dq undef := by simpa using hx2
   exact hQ a w' ra rc hk (hy ▸ e) (hz ▸ e2) hG hc hu
end
end Go.Proofs.Ytbohlpfndiiimaa

/- Regions in whatever order, in which operations that change the memory may be guarded: one behind the other, each with what it yields. -/
namespace Go.Proofs.Ytbohlpfndiiimaa
open Go.RowKit Go
set_option linter.unusedVariables false
set_option linter.unusedSimpArgs false
section
variable {P : Program} {ops : Array Oper}
structure CtxQ (ops : Array Oper) (chain : List Nat) (R : Nat → Value → World → Prop) (G : List (Option Value) → World → Prop) (n : Fr) (K Ke : Known) (i : Nat) (o : Oper) (a : Act) (w : World) (vs : List (Option Value)) : Prop extends CtxH ops chain R G n K Ke i o a w vs where
 anc : ∀ (p c : Nat), chain[p]? = some c → o.after.any (fun e => Region.binds .any e && (ancL ops e.on).contains c) = true → ∃ v, vs[p]? = some (some v)
def SoundQ (P : Program) (ops : Array Oper) (Q : Exit → Act → World → Prop) (chain : List Nat) (R : Nat → Value → World → Prop) (Le : World → World → Prop) (G : List (Option Value) → World → Prop) (n : Fr) (K Ke : Known) (i : Nat) (o : Oper) : Prop :=
 (chain.contains i = false ∧ ∃ β, GuardIs R o β ∧ (∀ g b, o.guard = some (g, b) → chain.contains g = false) ∧ (β = false → ∀ w, R i undef w) ∧
  (β = true → ∀ (a : Act) (w : World) (vs : List (Option Value)), CtxQ ops chain R G n K Ke i o a w vs →
   o.wpIn (fen n.r) 0 P a w (fun a' w' => ∃ v, a' = Act.put a o.dst v ∧ Le w w' ∧ G vs w' ∧ R i v w') Q)) ∨
 (∃ p, chain[p]? = some i ∧ ∃ β, GuardIs R o β ∧ (∀ g b, o.guard = some (g, b) → chain.contains g = false) ∧
  (β = false → ∀ (a : Act) (w : World) (vs : List (Option Value)), CtxQ ops chain R G n K Ke i o a w vs → vs[p]? = some none → G (vs.set p (some undef)) w) ∧
  (β = true → ∀ (a : Act) (w : World) (vs : List (Option Value)), CtxQ ops chain R G n K Ke i o a w vs → vs[p]? = some none →
   o.wpIn (fen n.r) 0 P a w (fun a' w' => ∃ v, a' = Act.put a o.dst v ∧ Le w w' ∧ G (vs.set p (some v)) w') Q))
def SoundFromQ (P : Program) (ops : Array Oper) (Q : Exit → Act → World → Prop) (chain : List Nat) (R : Nat → Value → World → Prop) (Le : World → World → Prop) (G : List (Option Value) → World → Prop) (n : Fr) (K Ke : Known) : Nat → List Oper → Prop
 | _, [] => True
 | k, o :: r => SoundQ P ops Q chain R Le G n K Ke k o ∧ SoundFromQ P ops Q chain R Le G n K Ke (k + 1) r
theorem SoundFromQ.at_ {Q : Exit → Act → World → Prop} {chain : List Nat} {R : Nat → Value → World → Prop} {Le : World → World → Prop} {G : List (Option Value) → World → Prop} {n : Fr} {K Ke : Known} : ∀ {l : List Oper} {k : Nat}, SoundFromQ P ops Q chain R Le G n K Ke k l → ∀ i o, l[i]? = some o → SoundQ P ops Q chain R Le G n K Ke (k + i) o
 | [], _, _, i, o, h => by simp at h
 | x :: r, k, h, 0, o, ho => by simp at ho; subst ho; exact h.1
 | x :: r, k, h, i + 1, o, ho => by
  have := h.2.at_ i o (by simpa using ho)
  rwa [show k + 1 + i = k + (i + 1) by omega] at this
theorem wp_any_genQ {Q : Exit → Act → World → Prop} {n : Fr} {K Ke : Known} (chain : List Nat) (R : Nat → Value → World → Prop) (Le : World → World → Prop) (G : List (Option Value) → World → Prop)
  (hB : opsB ops n.n = true) (hnd : chain.Nodup) (hin : (chain.all fun c => Nat.blt c ops.size) = true) (hclear : clearB ops K = true)
  (hR : ∀ i v w w', R i v w → Le w w' → R i v w')
  (h : SoundFromQ P ops Q chain R Le G n K Ke 0 ops.toList)
  (hQ : ∀ (a : Act) (w : World) (vs : List (Option Value)), Kn n K a → vs.length = chain.length → (∀ p, p < chain.length → ∃ v, vs[p]? = some (some v)) → G vs w → (∀ i d, (ops[i]?).bind (·.dst) = some d → chain.contains i = false → R i (a.tmps.getD d undef) w) → (∀ (p c d : Nat), chain[p]? = some c → (ops[c]?).bind (·.dst) = some d → vs[p]? = some (some (a.tmps.getD d undef))) → Q .normal a w) :
  ∀ (a0 : Act) (w0 : World), Kn n K a0 → Kn n Ke a0 → G (List.replicate chain.length none) w0 → wpAnyIn (fen n.r) 0 P .any ops Q ops.size (Array.replicate ops.size false) a0 w0 := by
 have main : ∀ (fuel : Nat) (listed : Array Bool) (a : Act) (vs : List (Option Value)) (w : World), listed.toList.count false ≤ fuel → AtH ops chain R G n K Ke listed a vs w →
   wpAnyIn (fen n.r) 0 P .any ops Q fuel listed a w := by
  intro fuel
  have done : ∀ (listed : Array Bool) (a : Act) (vs : List (Option Value)) (w : World), Region.ready .any ops listed = [] → AtH ops chain R G n K Ke listed a vs w → Q .normal a w := by
   intro listed a vs w hr H
   have all : ∀ i, i < ops.size → listed.getD i false = true := fun i hi => by
    have := ready_nil hB H.size hr i hi
    have hs := H.size
    simpa [Array.getD, show i < listed.size by omega] using this
   have hin' : ∀ p c, chain[p]? = some c → c < ops.size := fun p c hc => by
    have := List.all_eq_true.1 hin _ (List.mem_of_getElem? hc)
    simpa [Nat.blt_eq] using this
   have lt_of : ∀ i d, (ops[i]?).bind (·.dst) = some d → i < ops.size := fun i d hd => by
    rcases Nat.lt_or_ge i ops.size with h | h
    ·exact h
    ·simp [Array.getElem?_eq_none h] at hd
   exact hQ a w vs H.kn H.len (fun p hp => (H.link p chain[p] (by simp [hp])).1 (all _ (hin' p _ (by simp [hp])))) H.now (fun i d hd hc => H.plain i d hc (all i (lt_of i d hd)) hd) (fun p c d hc hd => H.vals p c d hc (all c (hin' p c hc)) hd)
  induction fuel with
  | zero =>
   intro listed a vs w hc H
   have hr : Region.ready .any ops listed = [] := by
    cases hr : Region.ready .any ops listed with
    | nil => rfl
    | cons i r =>
     have := (mem_ready (md := .any) (ops := ops) (j := i) (listed := listed)).1 (by rw [hr]; simp)
     rw [count_zero hc i] at this
     simp at this
   exact ⟨hr, done listed a vs w hr H⟩
  | succ fuel ih =>
   intro listed a vs w hc H
   refine ⟨fun hr => done listed a vs w hr H, fun i hi => ?_⟩
   obtain ⟨hun, o, ho, haf⟩ := mem_ready.1 hi
   have hilt : i < ops.size := by
    rcases Nat.lt_or_ge i ops.size with h | h
    ·exact h
    ·simp [Array.getElem?_eq_none h] at ho
   have hils : i < listed.size := by have := H.size; omega
   have hun' := getD_false_of hun
   have ok := opsB_spec hB ho
   have hs2 := h.at_ i o (by simpa using ho)
   rw [Nat.zero_add] at hs2
   have after_of : ∀ j d, depB ops o j d = true → listed.getD j false = true ∧ (ops[j]?).bind (·.dst) = some d := by
    intro j d hj
    simp only [depB, Bool.and_eq_true, Array.any_eq_true, beq_iff_eq] at hj
    obtain ⟨⟨k, hk, h1, h2⟩, h3⟩ := hj
    exact ⟨h1 ▸ haf _ (Array.getElem_mem hk) h2, h3⟩
   have ctx : CtxH ops chain R G n K Ke i o a w vs := by
    have opt : ∀ p c, chain[p]? = some c → listed.getD c false = false → vs[p]? = some none := fun p c hc hl => by
     have hp : p < vs.length := by rw [H.len]; exact (List.getElem?_eq_some_iff.1 hc).1
     rw [List.getElem?_eq_getElem hp]
     cases hx : vs[p] with
     | none => rfl
     | some v =>
      have := (H.link p c hc).2 ⟨v, by rw [List.getElem?_eq_getElem hp, hx]⟩
      rw [hl] at this; cases this
    refine ⟨H.now, H.kn, fun j d hj hc => H.plain j d hc (after_of j d hj).1 (after_of j d hj).2, H.len, fun p c d hc hj => H.vals p c d hc (after_of c d hj).1 (after_of c d hj).2, fun p c hc ha => ?_, fun p c hc ha => opt p c hc ?_, fun p c hc ha => opt p c hc ?_, fun d v hd hc => H.old d v hd fun c hcd => ?_⟩
    ·simp only [Array.any_eq_true, Bool.and_eq_true, beq_iff_eq] at ha
     obtain ⟨k, hk, h1, h2⟩ := ha
     exact (H.link p c hc).1 (h1 ▸ haf _ (Array.getElem_mem hk) h2)
    ·cases hl : listed.getD c false with
     | false => rfl
     | true =>
      exfalso
      unfold afterB at ha
      split at ha
      ·rename_i oc hoc
       simp only [Array.any_eq_true, Bool.and_eq_true, beq_iff_eq] at ha
       obtain ⟨k, hk, h1, h2⟩ := ha
       have := H.closed c oc hoc hl _ (Array.getElem_mem hk) h2
       rw [h1, hun'] at this
       cases this
      ·cases ha
    ·cases hl : listed.getD c false with
     | false => rfl
     | true =>
      exfalso
      have := anc_listed H.closed hl i (by simpa using ha)
      rw [hun'] at this
      cases this
    ·cases hl : listed.getD c false with
     | false => rfl
     | true =>
      exfalso
      have := anc_listed H.closed hl i (by simpa using hc c hcd)
      rw [hun'] at this
      cases this
   have ctxQ : CtxQ ops chain R G n K Ke i o a w vs := ⟨ctx, fun p c hc ha => by
    simp only [Array.any_eq_true, Bool.and_eq_true] at ha
    obtain ⟨k, hk, h1, h2⟩ := ha
    exact (H.link p c hc).1 (anc_listed H.closed (haf _ (Array.getElem_mem hk) h1) c (by simpa using h2))⟩
   unfold wpOpIn
   simp only [ho]
   -- what is behind a step
   have step : ∀ (v : Value) (vs' : List (Option Value)) (w' : World), (∀ j u, R j u w → R j u w') → G vs' w' → (∀ d, o.dst = some d → chain.contains i = false → R i v w') →
     ((chain.contains i = false ∧ vs' = vs) ∨ (∃ p, chain[p]? = some i ∧ vs' = vs.set p (some v))) →
     wpAnyIn (fen n.r) 0 P .any ops Q fuel (listed.setIfInBounds i true) (Act.put a o.dst v) w' := by
    intro v vs' w' hle hG hRi hvs
    have hc' := count_set (l := listed) hils hun hc
    have hset : ∀ j, (listed.setIfInBounds i true).getD j false = true ↔ j = i ∨ listed.getD j false = true := by
     intro j
     by_cases hj : j = i
     ·subst hj; simp [getD_set_eq hils]
     ·rw [getD_set_ne false (Ne.symm hj)]; simp [hj]
    have hother : ∀ j k, j ≠ i → (ops[j]?).bind (·.dst) = some k → (Act.put a o.dst v).tmps.getD k undef = a.tmps.getD k undef := by
     intro j k hji hjk
     refine act_put_other (fun hd => ?_)
     have hjlt : j < ops.size := by
      rcases Nat.lt_or_ge j ops.size with h | h
      ·exact h
      ·simp [Array.getElem?_eq_none h] at hjk
     exact hji (ok.own k j hd hjlt hjk).symm
    have hself : ∀ d, (ops[i]?).bind (·.dst) = some d → (Act.put a o.dst v).tmps.getD d undef = v := by
     intro d hd
     rw [ho] at hd
     simp only [Option.bind_some] at hd
     rw [hd]
     exact act_put_self (by rw [H.kn.size]; exact ok.lt d hd)
    refine ih _ _ vs' w' hc' ⟨by simpa using H.size, H.kn.put_clear (fun k hk => clearB_look hclear (mem_dsts ho hk)) v, fun j d hjc hj hjd => ?_, fun p c hpc => ?_, fun p c d hpc hp hcd => ?_, ?_, fun j oj hoj hj e he hb => ?_, hG, fun d u hd hc => ?_⟩
    ·by_cases hji : j = i
     ·subst hji
      rw [hself d hjd]
      rw [ho] at hjd
      exact hRi d hjd hjc
     ·rw [hother j d hji hjd]
      exact hle _ _ (H.plain j d hjc (((hset j).1 hj).resolve_left hji) hjd)
    ·rw [hset]
     rcases hvs with ⟨hci, rfl⟩ | ⟨q, hq, rfl⟩
     ·have : c ≠ i := by
       rintro rfl
       have := List.mem_of_getElem? hpc
       simp [this] at hci
      exact ⟨fun h => (H.link p c hpc).1 (h.resolve_left this), fun h => .inr ((H.link p c hpc).2 h)⟩
     ·have hpl : q < vs.length := by rw [H.len]; exact (List.getElem?_eq_some_iff.1 hq).1
      by_cases hpq : p = q
      ·subst hpq
       rw [hq] at hpc
       simp only [Option.some.injEq] at hpc
       subst hpc
       exact ⟨fun _ => ⟨v, by rw [List.getElem?_set_self hpl]⟩, fun _ => .inl rfl⟩
      ·have hci : c ≠ i := by
        rintro rfl
        exact hpq ((List.getElem?_inj (List.getElem?_eq_some_iff.1 hpc).1 hnd).1 (hpc.trans hq.symm))
       rw [List.getElem?_set_ne (Ne.symm hpq)]
       exact ⟨fun h => (H.link p c hpc).1 (h.resolve_left hci), fun h => .inr ((H.link p c hpc).2 h)⟩
    ·rcases hvs with ⟨hci, rfl⟩ | ⟨q, hq, rfl⟩
     ·have hne : c ≠ i := by
       rintro rfl
       have := List.mem_of_getElem? hpc
       simp [this] at hci
      rw [hother c d hne hcd]
      exact H.vals p c d hpc (((hset c).1 hp).resolve_left hne) hcd
     ·have hpl : q < vs.length := by rw [H.len]; exact (List.getElem?_eq_some_iff.1 hq).1
      by_cases hpq : p = q
      ·subst hpq
       rw [hq] at hpc
       simp only [Option.some.injEq] at hpc
       subst hpc
       rw [hself d hcd, List.getElem?_set_self hpl]
      ·have hne : c ≠ i := by
        rintro rfl
        exact hpq ((List.getElem?_inj (List.getElem?_eq_some_iff.1 hpc).1 hnd).1 (hpc.trans hq.symm))
       rw [hother c d hne hcd, List.getElem?_set_ne (Ne.symm hpq)]
       exact H.vals p c d hpc (((hset c).1 hp).resolve_left hne) hcd
    ·rcases hvs with ⟨hci, rfl⟩ | ⟨q, hq, rfl⟩
     ·exact H.len
     ·rw [List.length_set]; exact H.len
    ·rw [hset]
     by_cases hji : j = i
     ·subst hji
      rw [ho] at hoj
      simp only [Option.some.injEq] at hoj
      subst hoj
      exact .inr (haf e he hb)
     ·exact .inr (H.closed j oj hoj (((hset j).1 hj).resolve_left hji) e he hb)
    ·have hne : o.dst ≠ some d := fun e => by
      have := hc i (by rw [ho]; exact e)
      rw [(hset i).2 (.inl rfl)] at this
      cases this
     rw [act_put_other hne]
     refine H.old d u hd fun c hcd => ?_
     cases hl : listed.getD c false with
     | false => rfl
     | true => have := hc c hcd; rw [(hset c).2 (.inr hl)] at this; cases this
   have known : ∀ {β : Bool}, GuardIs R o β → (∀ g b, o.guard = some (g, b) → chain.contains g = false) → Region.wanted o (yielded ops a.tmps) = β := by
    intro β hg hgc
    have known : ∀ g c d b, o.guard = some (g, b) → (∀ v w, R g v w → (d = true → v = .bool c) ∧ (d = false → v = undef)) → yielded ops a.tmps g = if d then some c else none := by
     intro g c dd b hgb hv
     obtain ⟨⟨e, he, h1, h2⟩, d, hd⟩ := ok.guard g b hgb
     have hv := hv (a.tmps.getD d undef) w (H.plain g d (hgc g b hgb) (h1 ▸ haf e he h2) hd)
     have hdlt : d < a.tmps.size := by
      obtain ⟨og, hog, hgd⟩ := Option.bind_eq_some_iff.1 hd
      rw [H.kn.size]
      exact (opsB_spec hB hog).lt d hgd
     unfold yielded
     rw [hd]
     simp only [Array.getD_eq_getD_getElem?, Array.getElem?_eq_getElem hdlt, Option.getD_some] at hv
     cases dd with
     | true => simp [hdlt, hv.1 rfl]
     | false => simp [hdlt, hv.2 rfl, undef]
    cases hg with
    | none h => unfold Region.wanted; rw [h]
    | @yes g c d h hv => have := known _ _ _ _ h hv; unfold Region.wanted; rw [h]; simp only [this]; cases d <;> simp
    | @no g c d h hv => have := known _ _ _ _ h hv; unfold Region.wanted; rw [h]; simp only [this]; cases d <;> cases c <;> simp
   rcases hs2 with ⟨hci, β, hg, hgc, hs1, hs2⟩ | ⟨p, hp, β, hg, hgc, hs1, hs2⟩
   ·have hwant := known hg hgc
    cases hβ : β with
    | false =>
     rw [hβ] at hwant
     simp only [hwant, Bool.false_eq_true, if_false]
     refine ⟨fun f _ => fen_fn _ f, ?_⟩
     exact step undef vs w (fun _ _ h => h) H.now (fun _ _ _ => hs1 hβ w) (.inl ⟨hci, rfl⟩)
    | true =>
     rw [hβ] at hwant
     simp only [hwant, if_true]
     refine Oper.wpIn_mono ?_ (hs2 hβ a w vs ctxQ)
     rintro a' w' ⟨v, rfl, hle, hG, hRi⟩
     exact step v vs w' (fun j u hj => hR j u _ _ hj hle) hG (fun _ _ _ => hRi) (.inl ⟨hci, rfl⟩)
   ·have hwant := known hg hgc
    have hnone : vs[p]? = some none := by
     have hp' : p < vs.length := by rw [H.len]; exact (List.getElem?_eq_some_iff.1 hp).1
     rw [List.getElem?_eq_getElem hp']
     cases hx : vs[p] with
     | none => rfl
     | some v =>
      have := (H.link p i hp).2 ⟨v, by rw [List.getElem?_eq_getElem hp', hx]⟩
      rw [hun'] at this; cases this
    have hcc : chain.contains i = true := by
     have := List.mem_of_getElem? hp
     simpa using this
    cases hβ : β with
    | false =>
     rw [hβ] at hwant
     simp only [hwant, Bool.false_eq_true, if_false]
     refine ⟨fun f _ => fen_fn _ f, ?_⟩
     exact step undef (vs.set p (some undef)) w (fun _ _ h => h) (hs1 hβ a w vs ctxQ hnone) (fun _ _ h => by rw [hcc] at h; cases h) (.inr ⟨p, hp, rfl⟩)
    | true =>
     rw [hβ] at hwant
     simp only [hwant, if_true]
     refine Oper.wpIn_mono ?_ (hs2 hβ a w vs ctxQ hnone)
     rintro a' w' ⟨v, rfl, hle, hG⟩
     exact step v (vs.set p (some v)) w' (fun j u hj => hR j u _ _ hj hle) hG (fun _ _ h => by rw [hcc] at h; cases h) (.inr ⟨p, hp, rfl⟩)
 intro a0 w0 hk0 hke h0
 have nothing' : ∀ i, (Array.replicate ops.size false).getD i false = false := fun i => by
  by_cases h : i < ops.size <;> simp [Array.getD, h]
 refine main _ _ _ (List.replicate chain.length none) _ (by simp) ⟨by simp, hk0, fun i d _ hi => ?_, fun p c hpc => ?_, fun p c d _ hp => ?_, by simp, fun i o _ hi => ?_, h0, fun d v hd _ => hke.knows d v hd⟩
 ·rw [nothing'] at hi; cases hi
 ·rw [nothing']
  refine ⟨fun h => (by cases h), fun ⟨v, hv⟩ => ?_⟩
  have hp := (List.getElem?_eq_some_iff.1 hpc).1
  simp [hp] at hv
 ·rw [nothing'] at hp; cases hp
 ·rw [nothing'] at hi; cases hi
theorem WC.genQ {id : Nat} {dr : Bool} {Q : Exit → Act → World → Prop} {n : Fr} {K : Known} {w : World} (chain : List Nat) (R : Nat → Value → World → Prop) (Le : World → World → Prop) (G : List (Option Value) → World → Prop) (K0 : Known)
  (hs : subK K0 K) (hclear : clearB ops K0 = true) (hm : P.follows .mixedOrders = true) (hB : opsB ops n.n = true) (hnd : chain.Nodup) (hin : (chain.all fun c => Nat.blt c ops.size) = true)
  (hR : ∀ i v w w', R i v w → Le w w' → R i v w') (h0 : G (List.replicate chain.length none) (bif dr then w.drew else w))
  (h : SoundFromQ P ops Q chain R Le G n K0 K 0 ops.toList)
  (hQ : ∀ (a : Act) (w : World) (vs : List (Option Value)), Kn n K0 a → vs.length = chain.length → (∀ p, p < chain.length → ∃ v, vs[p]? = some (some v)) → G vs w → (∀ i d, (ops[i]?).bind (·.dst) = some d → chain.contains i = false → R i (a.tmps.getD d undef) w) → (∀ (p c d : Nat), chain[p]? = some c → (ops[c]?).bind (·.dst) = some d → vs[p]? = some (some (a.tmps.getD d undef))) → Q .normal a w) :
  WC P n K w (.region id ops dr) Q := by
 intro a ha
 have main := wp_any_genQ (Ke := K) chain R Le G hB hnd hin hclear hR h hQ a
 cases dr with
 | true => exact wpIn_region_any hm (main _ (ha.sub hs) ha h0)
 | false => exact any_start hB (main _ (ha.sub hs) ha h0)
/-! ### Values that are told -/
/-- Which of the operations of the chain are done, and what they have yielded. -/
def Vals (vals : List Value) (m : Nat) : List (Option Value) := vals.map some ++ List.replicate (m - vals.length) none
variable {S : Nat → Prop}
def GH (S : Nat → Prop) (w0 : World) (m : Nat) (cv : List (Option (Bool × Value))) (GV : List Value → World → Prop) (vs : List (Option Value)) (w : World) : Prop :=
 ∃ vals, vals.length ≤ m ∧ vs = Vals vals m ∧ GV vals w ∧ Chg S w0 w ∧ ∀ (q : Nat) b x, cv[q]? = some (some (b, x)) → b = true → ∀ v, vals[q]? = some v → v = x
theorem vals_some {vals : List Value} {m q : Nat} {v : Value} (h : (Vals vals m)[q]? = some (some v)) : vals[q]? = some v := by
 unfold Vals at h
 rcases Nat.lt_or_ge q vals.length with hq | hq
 ·rw [List.getElem?_append_left (by simpa using hq), List.getElem?_map, List.getElem?_eq_getElem hq] at h
  rw [List.getElem?_eq_getElem hq]; simpa using h
 ·rw [List.getElem?_append_right (by simpa using hq), List.getElem?_replicate] at h
  split at h
  ·cases h
  ·cases h
theorem vals_none {vals : List Value} {m q : Nat} (h : (Vals vals m)[q]? = some none) : vals.length ≤ q := by
 unfold Vals at h
 rcases Nat.lt_or_ge q vals.length with hq | hq
 ·rw [List.getElem?_append_left (by simpa using hq), List.getElem?_map, List.getElem?_eq_getElem hq] at h
  cases h
 ·exact hq
theorem vals_set {vals : List Value} {m : Nat} {v : Value} (h : vals.length < m) : (Vals vals m).set vals.length (some v) = Vals (vals ++ [v]) m := by
 unfold Vals
 rw [List.set_append_right _ _ (by simp), List.map_append, List.length_append, List.append_assoc]
 congr 1
 obtain ⟨k, hk⟩ : ∃ k, m - vals.length = k + 1 := ⟨m - vals.length - 1, by omega⟩
 rw [hk, List.replicate_succ, List.length_map, Nat.sub_self, List.set_cons_zero, show m - (vals.length + [v].length) = k by simp; omega]
 rfl
/-- What an operation finds: 'l' says what the others yield, 'cv' what those of the chain do; 'early': where it must come ahead of an operation of the chain. -/
structure CtxV (ops : Array Oper) (S : Nat → Prop) (l : List (Bool × SpS S)) (chain : List Nat) (cv : List (Option (Bool × Value))) (GV : List Value → World → Prop) (n : Fr) (K Ke : Known) (w0 : World) (i : Nat) (o : Oper) (a : Act) (w : World) : Prop where
 chg : Chg S w0 w
 kn : Kn n K a
 dep : ∀ j d, depB ops o j d = true → chain.contains j = false → optS l j (a.tmps.getD d undef) w
 link : ∀ (q c d : Nat) (b : Bool) (x : Value), chain[q]? = some c → depB ops o c d = true → cv[q]? = some (some (b, x)) → b = true → a.tmps.getD d undef = x
 old : ∀ d v, look Ke d = some v → earlyB ops i d = true → a.tmps.getD d undef = v
 early : ∀ (q c : Nat), chain[q]? = some c → (ancL ops c).contains i = true → ∃ vals, vals.length ≤ q ∧ GV vals w ∧ ∀ (q' c' d : Nat), chain[q']? = some c' → depB ops o c' d = true → vals[q']? = some (a.tmps.getD d undef)
/-- .. and an operation of the chain: what was yielded before it. -/
structure CtxW (ops : Array Oper) (S : Nat → Prop) (l : List (Bool × SpS S)) (chain : List Nat) (cv : List (Option (Bool × Value))) (GV : List Value → World → Prop) (n : Fr) (K Ke : Known) (w0 : World) (i p : Nat) (o : Oper) (a : Act) (w : World) (vals : List Value) : Prop extends CtxV ops S l chain cv GV n K Ke w0 i o a w where
 len : vals.length = p
 now : GV vals w
 val : ∀ (q c d : Nat), chain[q]? = some c → depB ops o c d = true → vals[q]? = some (a.tmps.getD d undef)
/-- That the operation 'o' comes behind the one ahead of it in the chain. -/
def behind (ops : Array Oper) (chain : List Nat) (p : Nat) (o : Oper) : Bool := match p with | 0 => true | p + 1 => match chain[p]? with | some c => o.after.any (fun e => Region.binds .any e && (ancL ops e.on).contains c) | none => false
def SeqV (P : Program) (ops : Array Oper) (Q : Exit → Act → World → Prop) (l : List (Bool × SpS S)) (chain : List Nat) (cv : List (Option (Bool × Value))) (GV : List Value → World → Prop) (n : Fr) (K Ke : Known) (w0 : World) : Nat → List Oper → Prop
 | _, [] => True
 | i, o :: r => ((chain.contains i = false ∧ ∃ β, GuardIs (optS l) o β ∧ (∀ g b, o.guard = some (g, b) → chain.contains g = false) ∧ (β = false → ∀ w, optS l i undef w) ∧
   (β = true → ∀ a w, CtxV ops S l chain cv GV n K Ke w0 i o a w → o.wp P a w (fun a' w' => ∃ v, a' = Act.put a o.dst v ∧ Below w.heap.size w w' ∧ optS l i v w') Q)) ∨
  (∃ p, chain[p]? = some i ∧ behind ops chain p o = true ∧ ∃ β, GuardIs (optS l) o β ∧ (∀ g b, o.guard = some (g, b) → chain.contains g = false) ∧
   (β = false → ∀ w vals, vals.length = p → GV vals w → GV (vals ++ [undef]) w ∧ ∀ b x, cv[p]? = some (some (b, x)) → b = true → undef = x) ∧
   (β = true → ∀ a w vals, CtxW ops S l chain cv GV n K Ke w0 i p o a w vals → o.wp P a w (fun a' w' => ∃ v, a' = Act.put a o.dst v ∧ Chg S w w' ∧ GV (vals ++ [v]) w' ∧ ∀ b x, cv[p]? = some (some (b, x)) → b = true → v = x) Q))) ∧ SeqV P ops Q l chain cv GV n K Ke w0 (i + 1) r
theorem cv_snoc {cv : List (Option (Bool × Value))} {vals : List Value} {v : Value} (h : ∀ (q : Nat) b x, cv[q]? = some (some (b, x)) → b = true → ∀ v, vals[q]? = some v → v = x) (hv : ∀ b x, cv[vals.length]? = some (some (b, x)) → b = true → v = x) : ∀ (q : Nat) b x, cv[q]? = some (some (b, x)) → b = true → ∀ u, (vals ++ [v])[q]? = some u → u = x := by
 intro q b x hq hb u hu
 rcases Nat.lt_trichotomy q vals.length with c | c | c
 ·rw [List.getElem?_append_left c] at hu; exact h q b x hq hb u hu
 ·subst c
  rw [List.getElem?_append_right (Nat.le_refl _), Nat.sub_self] at hu
  have : v = u := by simpa using hu
  rw [← this]; exact hv b x hq hb
 ·rw [List.getElem?_append_right (by omega)] at hu
  obtain ⟨k, hk⟩ : ∃ k, q - vals.length = k + 1 := ⟨q - vals.length - 1, by omega⟩
  rw [hk] at hu; cases hu
theorem SeqV.gen {Q : Exit → Act → World → Prop} {l : List (Bool × SpS S)} {chain : List Nat} {cv : List (Option (Bool × Value))} {GV : List Value → World → Prop} {n : Fr} {K Ke : Known} {w0 : World} (hGV : ∀ vals w w', Below w.heap.size w w' → GV vals w → GV vals w') : ∀ {lo : List Oper} {i : Nat}, SeqV P ops Q l chain cv GV n K Ke w0 i lo →
  SoundFromQ P ops Q chain (optS l) (Chg S) (GH S w0 chain.length cv GV) n K Ke i lo
 | [], _, _ => trivial
 | o :: r, i, ⟨h, hr⟩ => by
  refine ⟨?_, hr.gen hGV⟩
  have ctx : ∀ {a w vs vals}, CtxQ ops chain (optS l) (GH S w0 chain.length cv GV) n K Ke i o a w vs → vs = Vals vals chain.length → Chg S w0 w → (∀ (q : Nat) b x, cv[q]? = some (some (b, x)) → b = true → ∀ v, vals[q]? = some v → v = x) → GV vals w → CtxV ops S l chain cv GV n K Ke w0 i o a w := fun {a w vs vals} C e hc hv hg =>
   ⟨hc, C.kn, C.dep, fun q c d b x h1 h2 h3 h4 => hv q b x h3 h4 _ (vals_some (e ▸ C.link q c d h1 h2)), fun d v hd hb => C.old d v hd (earlyB_of hb), fun q c h1 h2 => ⟨vals, vals_none (e ▸ C.mostT q c h1 h2), hg, fun q' c' d h3 h4 => vals_some (e ▸ C.link q' c' d h3 h4)⟩⟩
  rcases h with ⟨hi, β, h1, h2, h3, h4⟩ | ⟨p, hp, hbh, β, h1, h2, h3, h4⟩
  ·refine .inl ⟨hi, β, h1, h2, h3, fun hβ a w vs C => ?_⟩
   obtain ⟨vals, k1, k2, k3, k4, k5⟩ := C.now
   refine Oper.wpIn_mono ?_ (wpIn_of (h4 hβ a w (ctx C k2 k4 k5 k3)) (by rintro a' w' ⟨v, rfl, _⟩; exact put_defers _ _ _))
   rintro a' w' ⟨v, rfl, hb, hR⟩
   exact ⟨v, rfl, .ofBelow hb, ⟨vals, k1, k2, hGV _ _ _ hb k3, k4.trans (.ofBelow hb), k5⟩, hR⟩
  ·have hpl : p < chain.length := (List.getElem?_eq_some_iff.1 hp).1
   have len : ∀ {a w vs vals}, CtxQ ops chain (optS l) (GH S w0 chain.length cv GV) n K Ke i o a w vs → vs = Vals vals chain.length → vs[p]? = some none → vals.length = p := fun {a w vs vals} C e hn => by
    have h5 := vals_none (e ▸ hn)
    cases p with
    | zero => omega
    | succ p =>
     unfold behind at hbh
     obtain ⟨c, hc⟩ : ∃ c, chain[p]? = some c := ⟨chain[p], List.getElem?_eq_getElem (by omega)⟩
     simp only [hc] at hbh
     obtain ⟨v, hv⟩ := C.anc p c hc hbh
     have h6 := vals_some (e ▸ hv)
     have := (List.getElem?_eq_some_iff.1 h6).1
     omega
   refine .inr ⟨p, hp, β, h1, h2, fun hβ a w vs C hn => ?_, fun hβ a w vs C hn => ?_⟩
   ·obtain ⟨vals, k1, k2, k3, k4, k5⟩ := C.now
    have hl := len C k2 hn
    obtain ⟨z1, z2⟩ := h3 hβ w vals hl k3
    refine ⟨vals ++ [undef], by simp; omega, ?_, z1, k4, cv_snoc k5 (hl ▸ z2)⟩
    rw [k2, ← hl, vals_set (by omega)]
   ·obtain ⟨vals, k1, k2, k3, k4, k5⟩ := C.now
    have hl := len C k2 hn
    refine Oper.wpIn_mono ?_ (wpIn_of (h4 hβ a w vals ⟨ctx C k2 k4 k5 k3, hl, k3, fun q c d z1 z2 => vals_some (k2 ▸ C.link q c d z1 z2)⟩) (by rintro a' w' ⟨v, rfl, _⟩; exact put_defers _ _ _))
    rintro a' w' ⟨v, rfl, hc, z1, z2⟩
    refine ⟨v, rfl, hc, vals ++ [v], by simp; omega, ?_, z1, k4.trans hc, cv_snoc k5 (hl ▸ z2)⟩
    rw [k2, ← hl, vals_set (by omega)]
theorem cvIs {v X : Value} {β : Bool} (h : v = X) : ∀ b x, (some (some (β, X)) : Option (Option (Bool × Value))) = some (some (b, x)) → b = true → v = x := fun b x e _ => by cases e; exact h
theorem vlen0 {l : List Value} (h : l.length = 0) : l = [] := List.length_eq_zero_iff.1 h
theorem vlen1 {l : List Value} (h : l.length = 1) : ∃ a, l = [a] := by
 match l, h with
 | [a], _ => exact ⟨a, rfl⟩
theorem WC.seqV {id : Nat} {dr : Bool} {Q : Exit → Act → World → Prop} {n : Fr} {K : Known} {w : World} (l : List (Bool × SpS S)) (K0 : Known) (chain : List Nat) (cv : List (Option (Bool × Value))) (GV : List Value → World → Prop) (hGV : ∀ vals w w', Below w.heap.size w w' → GV vals w → GV vals w') (hnd : chain.Nodup)
  (hs : subK K0 K) (hclear : clearB ops K0 = true) (hm : P.follows .mixedOrders = true) (hB : opsB ops n.n = true) (hin : (chain.all fun c => Nat.blt c ops.size) = true) (h0 : GV [] w)
  (h : SeqV P ops Q l chain cv GV n K0 K w 0 ops.toList)
  (hQ : ∀ (a : Act) (w' : World) (vals : List Value), Kn n K0 a → vals.length = chain.length → GV vals w' → Chg S w w' → (∀ i d, (ops[i]?).bind (·.dst) = some d → chain.contains i = false → optS l i (a.tmps.getD d undef) w') → (∀ (p c d : Nat), chain[p]? = some c → (ops[c]?).bind (·.dst) = some d → vals[p]? = some (a.tmps.getD d undef)) → (∀ (p c d : Nat) b x, chain[p]? = some c → (ops[c]?).bind (·.dst) = some d → cv[p]? = some (some (b, x)) → b = true → a.tmps.getD d undef = x) → Q .normal a w') :
  WC P n K w (.region id ops dr) Q := by
 refine WC.genQ chain (optS l) (Chg S) (GH S w chain.length cv GV) K0 hs hclear hm hB hnd hin (optSKeep l) ?_ (h.gen hGV) (fun a w' vs hk hlen hall hG hu hl => ?_)
 ·refine ⟨[], Nat.zero_le _, by simp [Vals], ?_, ?_, fun q b x _ _ v hv => (nomatch hv)⟩
  ·cases dr with
   | true => exact hGV _ _ _ (Below.refl _ _).drew h0
   | false => exact h0
  ·cases dr with
   | true => exact .ofBelow (Below.refl _ _).drew
   | false => exact .ofBelow (Below.refl _ _)
 ·obtain ⟨vals, k1, k2, k3, k4, k5⟩ := hG
  have hlv : vals.length = chain.length := by
   rcases Nat.lt_or_ge vals.length chain.length with c | c
   ·obtain ⟨v, hv⟩ := hall vals.length c
    have h6 := (List.getElem?_eq_some_iff.1 (vals_some (k2 ▸ hv))).1
    omega
   ·omega
  have hv : ∀ (p c d : Nat), chain[p]? = some c → (ops[c]?).bind (·.dst) = some d → vals[p]? = some (a.tmps.getD d undef) := fun p c d z1 z2 => vals_some (k2 ▸ hl p c d z1 z2)
  exact hQ a w' vals hk hlv k3 k4 hu hv (fun p c d b x z1 z2 z3 z4 => k5 p b x z3 z4 _ (hv p c d z1 z2))
end
end Go.Proofs.Ytbohlpfndiiimaa

/- Are terms, clauses small? The program. -/
namespace Go.Proofs.Ytbohlpfndiiimaa
open Go.RowKit Go
set_option linter.unusedVariables false
set_option linter.unusedSimpArgs false
mutual
def T.dn (most : Int) : T → Nat → Bool
 | .mk f l, d => decide (d ≤ 30) && (if f < 0 then decide (-most ≤ f) && l.isEmpty else true) && T.dnL most l (d + 1)
def T.dnL (most : Int) : List T → Nat → Bool
 | [], _ => true
 | a :: r, d => a.dn most d && T.dnL most r d
end
/-- Are so many parts, and a term's, no more than there may be, from a depth on? -/
def smB (most : Int) (m d : Nat) (t : T) : Bool := decide (m + t.size ≤ 300) && t.dn most d
def smallB (most : Int) (t : T) : Bool := smB most 0 1 t
theorem dnL_all {most : Int} : ∀ {l : List T} {d : Nat}, T.dnL most l d = true ↔ ∀ k, k < l.length → (tget l k).dn most d = true
 | [], d => by simp [T.dnL]
 | a :: r, d => by
  rw [T.dnL, Bool.and_eq_true, dnL_all]
  constructor
  ·rintro ⟨h1, h2⟩ k hk
   cases k with
   | zero => exact h1
   | succ k => exact h2 k (by simpa using hk)
  ·intro h
   exact ⟨h 0 (by simp), fun k hk => h (k + 1) (by simpa using hk)⟩
theorem sizeL_take {l : List T} {k : Nat} (h : k < l.length) : T.sizeL (l.take (k + 1)) = T.sizeL (l.take k) + (tget l k).size := by
 have aux : ∀ a b : List T, T.sizeL (a ++ b) = T.sizeL a + T.sizeL b := fun a b => by
  induction a with
  | nil => simp [T.sizeL]
  | cons x r ih => simp only [List.cons_append, T.sizeL, ih]; omega
 rw [List.take_succ_eq_append_getElem h, aux, tget_lt h]; simp [T.sizeL]
theorem sizeL_take_le {l : List T} {k : Nat} : T.sizeL (l.take k) ≤ T.sizeL l := by
 have aux : ∀ a b : List T, T.sizeL (a ++ b) = T.sizeL a + T.sizeL b := fun a b => by
  induction a with
  | nil => simp [T.sizeL]
  | cons x r ih => simp only [List.cons_append, T.sizeL, ih]; omega
 have e := congrArg T.sizeL (List.take_append_drop k l)
 rw [aux] at e; omega
theorem smB_iff {most : Int} {m d : Nat} {t : T} : smB most m d t = true ↔ m + t.size ≤ 300 ∧ t.dn most d = true := by unfold smB; rw [Bool.and_eq_true, decide_eq_true_eq]
theorem dn_iff {most : Int} {d : Nat} {f : Int} {l : List T} : (T.mk f l).dn most d = true ↔ d ≤ 30 ∧ (f < 0 → -most ≤ f ∧ l = []) ∧ T.dnL most l (d + 1) = true := by
 rw [T.dn, Bool.and_eq_true, Bool.and_eq_true, decide_eq_true_eq, and_assoc]
 by_cases hf : f < 0
 ·rw [if_pos hf, Bool.and_eq_true, decide_eq_true_eq, List.isEmpty_iff]
  exact ⟨fun h => ⟨h.1, fun _ => h.2.1, h.2.2⟩, fun h => ⟨h.1, h.2.1 hf, h.2.2⟩⟩
 ·rw [if_neg hf]
  exact ⟨fun h => ⟨h.1, fun q => absurd q hf, h.2.2⟩, fun h => ⟨h.1, rfl, h.2.2⟩⟩
theorem size_mk {f : Int} {l : List T} : (T.mk f l).size = 1 + T.sizeL l := by rw [T.size]
theorem smB_head {most : Int} {m d : Nat} {f : Int} {l : List T} (h : (300 < m + 1 ∨ 30 < d) ∨ f < 0 ∧ (f < -most ∨ 0 < l.length)) : smB most m d (.mk f l) = false := by
 rw [Bool.eq_false_iff]; intro e
 rw [smB_iff, size_mk, dn_iff] at e
 obtain ⟨e1, e2, e3, _⟩ := e
 rcases h with (h | h) | ⟨h1, h2⟩
 ·omega
 ·omega
 ·obtain ⟨e4, rfl⟩ := e3 h1
  simp only [List.length_nil] at h2; omega
theorem smB_kid {most : Int} {m d k : Nat} {f : Int} {l : List T} (hk : k < l.length) (h : smB most (m + 1 + T.sizeL (l.take k)) (d + 1) (tget l k) = false) : smB most m d (.mk f l) = false := by
 rw [Bool.eq_false_iff] at h ⊢; intro e; apply h
 rw [smB_iff, size_mk, dn_iff] at e
 rw [smB_iff]
 have e1 := e.1
 have z1 := sizeL_take hk
 have z2 := sizeL_take_le (l := l) (k := k + 1)
 exact ⟨by omega, dnL_all.1 e.2.2.2 k hk⟩
theorem smB_yes {most : Int} {m d : Nat} {f : Int} {l : List T} (h0 : ¬ ((300 < m + 1 ∨ 30 < d) ∨ f < 0 ∧ (f < -most ∨ 0 < l.length))) (hn : m + 1 + T.sizeL l ≤ 300) (h : ∀ k, k < l.length → smB most (m + 1 + T.sizeL (l.take k)) (d + 1) (tget l k) = true) : smB most m d (.mk f l) = true := by
 rw [smB_iff, size_mk, dn_iff]
 exact ⟨by omega, by omega, fun hf => ⟨by omega, List.eq_nil_of_length_eq_zero (by omega)⟩, dnL_all.2 (fun k hk => (smB_iff.1 (h k hk)).2)⟩
set_option maxRecDepth 100000 in
theorem small1_any (most : Int) (hmost : 0 ≤ most ∧ most ≤ 1099511627776) (w0 : World) (gn gm gf : Nat) (hgn : w0.heap.size ≤ gn) (hmn : gm ≠ gn) (hfn : gf ≠ gn) : ∀ (t : T) (m d : Nat) (w : World) (pb po : Nat) (a : Option Addr) (c : Nat), m ≤ 1000 → d ≤ 31 → Below w0.heap.size w0 w → w0.cell? ⟨pb, po, none⟩ = some (.int .i64 t.f) → w0.cell? ⟨pb, po + 1, none⟩ = some (.slice a t.args.length c) → IsT w0 t (.agg #[.int .i64 t.f, .slice a t.args.length c]) →
  Blk w gn 3 #[.int .i64 (m : Int)] → Blk w gm 3 #[.int .i64 most] → Blk w gf 107 #[.func (.func 65) #[] #[.pointer (some ⟨gn, 0, none⟩), .pointer (some ⟨gm, 0, none⟩), .pointer (some ⟨gf, 0, none⟩)]] → Calls Try.prog 65 #[.pointer (some ⟨pb, po, none⟩), .int .i64 (d : Int), .pointer (some ⟨gn, 0, none⟩), .pointer (some ⟨gm, 0, none⟩), .pointer (some ⟨gf, 0, none⟩)] w (Ret fun v' w' => (v' = .bool (smB most m d t) ∧ ∃ m' : Nat, Blk w' gn 3 #[.int .i64 (m' : Int)] ∧ (smB most m d t = true → m' = m + t.size)) ∧ Chg (fun b => b = gn) w w') := by
 refine T.ind (fun f l ih => ?_)
 intro m d w pb po a c hm hd hw hc0 hc1 hT hN hM hF
 have hl0 : IsTs w0 l a 0 := (isT_row hT).2.2.2
 have hI : I64 f := hT.form.1
 unfold I64 at hI
 have hlen : l.length ≤ 9223372036854775807 := by have z := isT_row hT; have z2 := z.2.1; have z3 := z.2.2.1; unfold maxLen at z3; have z1 : l.length ≤ c := z2; omega
 have hc0' : w0.cell? ⟨pb, po, none⟩ = some (.int .i64 f) := hc0
 have hc1' : w0.cell? ⟨pb, po + 1, none⟩ = some (.slice a l.length c) := hc1
 refine Calls.walk (l := [.pointer (some ⟨pb, po, none⟩), .int .i64 (((d : Nat) : Int)), .pointer (some ⟨gn, 0, none⟩), .pointer (some ⟨gm, 0, none⟩), .pointer (some ⟨gf, 0, none⟩)]) Try.func65 rfl (by kernel_rfl) ?_
 refine WC.sub (K' := [(0, .pointer (some ⟨pb, po, none⟩)), (1, .int .i64 (((d : Nat) : Int))), (2, .pointer (some ⟨gn, 0, none⟩)), (3, .pointer (some ⟨gm, 0, none⟩)), (4, .pointer (some ⟨gf, 0, none⟩))]) ⟨rfl, rfl, rfl, rfl, rfl, trivial⟩ ?_
 refine WC.seq (WC.region (WL.asg rfl rfl rfl rfl rfl (WL.nil (WE.next (WC.seq (WC.seq (WC.region ?_)))))))
 refine WL.val _ rfl rfl rfl (fun za zC zh zk => ld_3 rfl (zh.ev rfl) ((hN.cell 0).trans rfl) zk) ?_
 refine WL.val (.int .i64 ((((m + 1) : Nat) : Int))) rfl rfl rfl (fun za zC zh zk => addb_3 rfl (zh.ev rfl) (zh.ev rfl) (wrap_eq (by omega) (by omega) (by omega)) zk) ?_
 refine WL.step (post := fun _ w' => Upd gn w w' ∧ Blk w' gn 3 #[.int .i64 ((((m + 1) : Nat) : Int))]) rfl rfl rfl (fun za zC zh zk => st_3 rfl (zh.ev rfl) (zh.ev rfl) hN (by first | decide | simp) (fun v => zk v _ ⟨Upd.at_ _ _ _ _, hN.set_ 0 _⟩)) ?_
 rintro v4 w1 ⟨hu2, hB3⟩
 have hb5 := upd_below hw hu2 (by omega)
 have hB6 := upd_blk hM hu2 (by omega)
 have hB7 := upd_blk hF hu2 (by omega)
 refine WL.nil (WE.next (WC.seq ?_))
 refine WC.opt [(true, .val (.int .i64 ((((m + 1) : Nat) : Int)))), (true, .val (.bool ((decide ((300 : Int) < ((((m + 1) : Nat) : Int) : Int)))))), (true, .val (.bool ((decide ((300 : Int) < ((((m + 1) : Nat) : Int) : Int)))))), ((true && !(decide ((300 : Int) < ((((m + 1) : Nat) : Int) : Int)))), .val (.int .i64 (((d : Nat) : Int)))), ((true && !(decide ((300 : Int) < ((((m + 1) : Nat) : Int) : Int)))), .val (.bool ((decide ((30 : Int) < (((d : Nat) : Int) : Int)))))), (true, .val (.bool (((decide ((300 : Int) < ((((m + 1) : Nat) : Int) : Int))) || (decide ((30 : Int) < (((d : Nat) : Int) : Int))))))), (true, .val (.bool (((decide ((300 : Int) < ((((m + 1) : Nat) : Int) : Int))) || (decide ((30 : Int) < (((d : Nat) : Int) : Int))))))), ((true && !((decide ((300 : Int) < ((((m + 1) : Nat) : Int) : Int))) || (decide ((30 : Int) < (((d : Nat) : Int) : Int))))), .val (.pointer (some ⟨pb, po, none⟩))), ((true && !((decide ((300 : Int) < ((((m + 1) : Nat) : Int) : Int))) || (decide ((30 : Int) < (((d : Nat) : Int) : Int))))), .val (.pointer (some ⟨pb, po, none⟩))), ((true && !((decide ((300 : Int) < ((((m + 1) : Nat) : Int) : Int))) || (decide ((30 : Int) < (((d : Nat) : Int) : Int))))), .val (.pointer (some ⟨pb, po, none⟩))), ((true && !((decide ((300 : Int) < ((((m + 1) : Nat) : Int) : Int))) || (decide ((30 : Int) < (((d : Nat) : Int) : Int))))), .val (.int .i64 f)), ((true && !((decide ((300 : Int) < ((((m + 1) : Nat) : Int) : Int))) || (decide ((30 : Int) < (((d : Nat) : Int) : Int))))), .val (.bool ((decide ((f : Int) < (0 : Int)))))), ((true && !((decide ((300 : Int) < ((((m + 1) : Nat) : Int) : Int))) || (decide ((30 : Int) < (((d : Nat) : Int) : Int))))), .val (.bool ((decide ((f : Int) < (0 : Int)))))), (((true && !((decide ((300 : Int) < ((((m + 1) : Nat) : Int) : Int))) || (decide ((30 : Int) < (((d : Nat) : Int) : Int))))) && (decide ((f : Int) < (0 : Int)))), .val (.pointer (some ⟨pb, po, none⟩))), (((true && !((decide ((300 : Int) < ((((m + 1) : Nat) : Int) : Int))) || (decide ((30 : Int) < (((d : Nat) : Int) : Int))))) && (decide ((f : Int) < (0 : Int)))), .val (.pointer (some ⟨pb, po, none⟩))), (((true && !((decide ((300 : Int) < ((((m + 1) : Nat) : Int) : Int))) || (decide ((30 : Int) < (((d : Nat) : Int) : Int))))) && (decide ((f : Int) < (0 : Int)))), .val (.pointer (some ⟨pb, po, none⟩))), (((true && !((decide ((300 : Int) < ((((m + 1) : Nat) : Int) : Int))) || (decide ((30 : Int) < (((d : Nat) : Int) : Int))))) && (decide ((f : Int) < (0 : Int)))), .val (.int .i64 f)), (((true && !((decide ((300 : Int) < ((((m + 1) : Nat) : Int) : Int))) || (decide ((30 : Int) < (((d : Nat) : Int) : Int))))) && (decide ((f : Int) < (0 : Int)))), .val (.int .i64 most)), (((true && !((decide ((300 : Int) < ((((m + 1) : Nat) : Int) : Int))) || (decide ((30 : Int) < (((d : Nat) : Int) : Int))))) && (decide ((f : Int) < (0 : Int)))), .val (.int .i64 ((-most)))), (((true && !((decide ((300 : Int) < ((((m + 1) : Nat) : Int) : Int))) || (decide ((30 : Int) < (((d : Nat) : Int) : Int))))) && (decide ((f : Int) < (0 : Int)))), .val (.bool ((decide ((f : Int) < ((-most) : Int)))))), (((true && !((decide ((300 : Int) < ((((m + 1) : Nat) : Int) : Int))) || (decide ((30 : Int) < (((d : Nat) : Int) : Int))))) && (decide ((f : Int) < (0 : Int)))), .val (.bool ((decide ((f : Int) < ((-most) : Int)))))), ((((true && !((decide ((300 : Int) < ((((m + 1) : Nat) : Int) : Int))) || (decide ((30 : Int) < (((d : Nat) : Int) : Int))))) && (decide ((f : Int) < (0 : Int)))) && !(decide ((f : Int) < ((-most) : Int)))), .val (.pointer (some ⟨pb, po, none⟩))), ((((true && !((decide ((300 : Int) < ((((m + 1) : Nat) : Int) : Int))) || (decide ((30 : Int) < (((d : Nat) : Int) : Int))))) && (decide ((f : Int) < (0 : Int)))) && !(decide ((f : Int) < ((-most) : Int)))), .val (.pointer (some ⟨pb, po, none⟩))), ((((true && !((decide ((300 : Int) < ((((m + 1) : Nat) : Int) : Int))) || (decide ((30 : Int) < (((d : Nat) : Int) : Int))))) && (decide ((f : Int) < (0 : Int)))) && !(decide ((f : Int) < ((-most) : Int)))), .val (.pointer (some ⟨pb, po + 1, none⟩))), ((((true && !((decide ((300 : Int) < ((((m + 1) : Nat) : Int) : Int))) || (decide ((30 : Int) < (((d : Nat) : Int) : Int))))) && (decide ((f : Int) < (0 : Int)))) && !(decide ((f : Int) < ((-most) : Int)))), .val (.slice a l.length c)), ((((true && !((decide ((300 : Int) < ((((m + 1) : Nat) : Int) : Int))) || (decide ((30 : Int) < (((d : Nat) : Int) : Int))))) && (decide ((f : Int) < (0 : Int)))) && !(decide ((f : Int) < ((-most) : Int)))), .val (.int .i64 (((l.length : Nat) : Int)))), ((((true && !((decide ((300 : Int) < ((((m + 1) : Nat) : Int) : Int))) || (decide ((30 : Int) < (((d : Nat) : Int) : Int))))) && (decide ((f : Int) < (0 : Int)))) && !(decide ((f : Int) < ((-most) : Int)))), .val (.bool ((decide ((0 : Int) < (((l.length : Nat) : Int) : Int)))))), (((true && !((decide ((300 : Int) < ((((m + 1) : Nat) : Int) : Int))) || (decide ((30 : Int) < (((d : Nat) : Int) : Int))))) && (decide ((f : Int) < (0 : Int)))), .val (.bool (((decide ((f : Int) < ((-most) : Int))) || (decide ((0 : Int) < (((l.length : Nat) : Int) : Int))))))), ((true && !((decide ((300 : Int) < ((((m + 1) : Nat) : Int) : Int))) || (decide ((30 : Int) < (((d : Nat) : Int) : Int))))), .val (.bool (((decide ((f : Int) < (0 : Int))) && ((decide ((f : Int) < ((-most) : Int))) || (decide ((0 : Int) < (((l.length : Nat) : Int) : Int)))))))), (true, .val (.bool ((((decide ((300 : Int) < ((((m + 1) : Nat) : Int) : Int))) || (decide ((30 : Int) < (((d : Nat) : Int) : Int)))) || ((decide ((f : Int) < (0 : Int))) && ((decide ((f : Int) < ((-most) : Int))) || (decide ((0 : Int) < (((l.length : Nat) : Int) : Int)))))))))] [(0, .pointer (some ⟨pb, po, none⟩)), (1, .int .i64 (((d : Nat) : Int))), (2, .pointer (some ⟨gn, 0, none⟩)), (3, .pointer (some ⟨gm, 0, none⟩)), (4, .pointer (some ⟨gf, 0, none⟩)), (7, .bool false)] ⟨rfl, rfl, rfl, rfl, rfl, rfl, trivial⟩ (by kernel_rfl) (by kernel_rfl) (by kernel_rfl) ?_ ?_
 ·refine ⟨⟨true, .none rfl, fun h w => optUndef h, fun zβ za zw zc => ?_⟩, ?_⟩
  ·exact ld_3 rfl (zc.kn.ev rfl) (bkeeps zc.below _ _ ((hB3.cell 0).trans rfl)) ⟨_, rfl, Below.refl _ _, optDef zβ rfl⟩
  refine ⟨⟨true, .none rfl, fun h w => optUndef h, fun zβ za zw zc => ?_⟩, ?_⟩
  ·exact gtr_3 rfl ((evt za 11).trans (optVal (zc.dep 0 11 (by kernel_rfl)) rfl rfl)) (zc.kn.ev rfl) ⟨_, rfl, Below.refl _ _, optDef zβ rfl⟩
  refine ⟨⟨true, .none rfl, fun h w => optUndef h, fun zβ za zw zc => ?_⟩, ?_⟩
  ·exact wp_move rfl ((evt za 12).trans (optVal (zc.dep 1 12 (by kernel_rfl)) rfl rfl)) ⟨_, rfl, Below.refl _ _, optDef zβ rfl⟩
  refine ⟨⟨_, .no (d := true) rfl (fun v w h => h), fun h w => optUndef h, fun zβ za zw zc => ?_⟩, ?_⟩
  ·exact wp_move rfl (zc.kn.ev rfl) ⟨_, rfl, Below.refl _ _, optDef zβ rfl⟩
  refine ⟨⟨_, .no (d := true) rfl (fun v w h => h), fun h w => optUndef h, fun zβ za zw zc => ?_⟩, ?_⟩
  ·exact gtr_3 rfl ((evt za 14).trans (optVal (zc.dep 3 14 (by kernel_rfl)) rfl zβ)) (zc.kn.ev rfl) ⟨_, rfl, Below.refl _ _, optDef zβ rfl⟩
  refine ⟨⟨true, .none rfl, fun h w => optUndef h, fun zβ za zw zc => ?_⟩, ?_⟩
  ·exact wp_or rfl ((evt za 13).trans (optVal (zc.dep 2 13 (by kernel_rfl)) rfl rfl)) (fun hp => ((evt za 15).trans (optVal (zc.dep 4 15 (by kernel_rfl)) rfl (bMkN zβ hp)))) ⟨_, rfl, Below.refl _ _, optDef zβ rfl⟩
  refine ⟨⟨true, .none rfl, fun h w => optUndef h, fun zβ za zw zc => ?_⟩, ?_⟩
  ·exact wp_move rfl ((evt za 16).trans (optVal (zc.dep 5 16 (by kernel_rfl)) rfl rfl)) ⟨_, rfl, Below.refl _ _, optDef zβ rfl⟩
  refine ⟨⟨_, .no (d := true) rfl (fun v w h => h), fun h w => optUndef h, fun zβ za zw zc => ?_⟩, ?_⟩
  ·exact wp_move rfl (zc.kn.ev rfl) ⟨_, rfl, Below.refl _ _, optDef zβ rfl⟩
  refine ⟨⟨_, .no (d := true) rfl (fun v w h => h), fun h w => optUndef h, fun zβ za zw zc => ?_⟩, ?_⟩
  ·exact nilCheck_ rfl ((evt za 18).trans (optVal (zc.dep 7 18 (by kernel_rfl)) rfl zβ)) ⟨_, rfl, Below.refl _ _, optDef zβ rfl⟩
  refine ⟨⟨_, .no (d := true) rfl (fun v w h => h), fun h w => optUndef h, fun zβ za zw zc => ?_⟩, ?_⟩
  ·exact fld_35_0 rfl ((evt za 19).trans (optVal (zc.dep 8 19 (by kernel_rfl)) rfl zβ)) ⟨_, rfl, Below.refl _ _, optDef zβ rfl⟩
  refine ⟨⟨_, .no (d := true) rfl (fun v w h => h), fun h w => optUndef h, fun zβ za zw zc => ?_⟩, ?_⟩
  ·exact ld_3 rfl ((evt za 20).trans (optVal (zc.dep 9 20 (by kernel_rfl)) rfl zβ)) (bkeeps (bstep hb5 zc.below) _ _ hc0') ⟨_, rfl, Below.refl _ _, optDef zβ rfl⟩
  refine ⟨⟨_, .no (d := true) rfl (fun v w h => h), fun h w => optUndef h, fun zβ za zw zc => ?_⟩, ?_⟩
  ·exact lss_3 rfl ((evt za 21).trans (optVal (zc.dep 10 21 (by kernel_rfl)) rfl zβ)) (zc.kn.ev rfl) ⟨_, rfl, Below.refl _ _, optDef zβ rfl⟩
  refine ⟨⟨_, .no (d := true) rfl (fun v w h => h), fun h w => optUndef h, fun zβ za zw zc => ?_⟩, ?_⟩
  ·exact wp_move rfl ((evt za 22).trans (optVal (zc.dep 11 22 (by kernel_rfl)) rfl zβ)) ⟨_, rfl, Below.refl _ _, optDef zβ rfl⟩
  refine ⟨⟨_, .yes (d := (true && !((decide ((300 : Int) < ((((m + 1) : Nat) : Int) : Int))) || (decide ((30 : Int) < (((d : Nat) : Int) : Int)))))) rfl (fun v w h => h), fun h w => optUndef h, fun zβ za zw zc => ?_⟩, ?_⟩
  ·exact wp_move rfl (zc.kn.ev rfl) ⟨_, rfl, Below.refl _ _, optDef zβ rfl⟩
  refine ⟨⟨_, .yes (d := (true && !((decide ((300 : Int) < ((((m + 1) : Nat) : Int) : Int))) || (decide ((30 : Int) < (((d : Nat) : Int) : Int)))))) rfl (fun v w h => h), fun h w => optUndef h, fun zβ za zw zc => ?_⟩, ?_⟩
  ·exact nilCheck_ rfl ((evt za 24).trans (optVal (zc.dep 13 24 (by kernel_rfl)) rfl zβ)) ⟨_, rfl, Below.refl _ _, optDef zβ rfl⟩
  refine ⟨⟨_, .yes (d := (true && !((decide ((300 : Int) < ((((m + 1) : Nat) : Int) : Int))) || (decide ((30 : Int) < (((d : Nat) : Int) : Int)))))) rfl (fun v w h => h), fun h w => optUndef h, fun zβ za zw zc => ?_⟩, ?_⟩
  ·exact fld_35_0 rfl ((evt za 25).trans (optVal (zc.dep 14 25 (by kernel_rfl)) rfl zβ)) ⟨_, rfl, Below.refl _ _, optDef zβ rfl⟩
  refine ⟨⟨_, .yes (d := (true && !((decide ((300 : Int) < ((((m + 1) : Nat) : Int) : Int))) || (decide ((30 : Int) < (((d : Nat) : Int) : Int)))))) rfl (fun v w h => h), fun h w => optUndef h, fun zβ za zw zc => ?_⟩, ?_⟩
  ·exact ld_3 rfl ((evt za 26).trans (optVal (zc.dep 15 26 (by kernel_rfl)) rfl zβ)) (bkeeps (bstep hb5 zc.below) _ _ hc0') ⟨_, rfl, Below.refl _ _, optDef zβ rfl⟩
  refine ⟨⟨_, .yes (d := (true && !((decide ((300 : Int) < ((((m + 1) : Nat) : Int) : Int))) || (decide ((30 : Int) < (((d : Nat) : Int) : Int)))))) rfl (fun v w h => h), fun h w => optUndef h, fun zβ za zw zc => ?_⟩, ?_⟩
  ·exact ld_3 rfl (zc.kn.ev rfl) (bkeeps zc.below _ _ ((hB6.cell 0).trans rfl)) ⟨_, rfl, Below.refl _ _, optDef zβ rfl⟩
  refine ⟨⟨_, .yes (d := (true && !((decide ((300 : Int) < ((((m + 1) : Nat) : Int) : Int))) || (decide ((30 : Int) < (((d : Nat) : Int) : Int)))))) rfl (fun v w h => h), fun h w => optUndef h, fun zβ za zw zc => ?_⟩, ?_⟩
  ·exact negb_3 rfl ((evt za 28).trans (optVal (zc.dep 17 28 (by kernel_rfl)) rfl zβ)) (wrap_eq (by omega) (by omega) (by omega)) ⟨_, rfl, Below.refl _ _, optDef zβ rfl⟩
  refine ⟨⟨_, .yes (d := (true && !((decide ((300 : Int) < ((((m + 1) : Nat) : Int) : Int))) || (decide ((30 : Int) < (((d : Nat) : Int) : Int)))))) rfl (fun v w h => h), fun h w => optUndef h, fun zβ za zw zc => ?_⟩, ?_⟩
  ·exact lss_3 rfl ((evt za 27).trans (optVal (zc.dep 16 27 (by kernel_rfl)) rfl zβ)) ((evt za 29).trans (optVal (zc.dep 18 29 (by kernel_rfl)) rfl zβ)) ⟨_, rfl, Below.refl _ _, optDef zβ rfl⟩
  refine ⟨⟨_, .yes (d := (true && !((decide ((300 : Int) < ((((m + 1) : Nat) : Int) : Int))) || (decide ((30 : Int) < (((d : Nat) : Int) : Int)))))) rfl (fun v w h => h), fun h w => optUndef h, fun zβ za zw zc => ?_⟩, ?_⟩
  ·exact wp_move rfl ((evt za 30).trans (optVal (zc.dep 19 30 (by kernel_rfl)) rfl zβ)) ⟨_, rfl, Below.refl _ _, optDef zβ rfl⟩
  refine ⟨⟨_, .no (d := ((true && !((decide ((300 : Int) < ((((m + 1) : Nat) : Int) : Int))) || (decide ((30 : Int) < (((d : Nat) : Int) : Int))))) && (decide ((f : Int) < (0 : Int))))) rfl (fun v w h => h), fun h w => optUndef h, fun zβ za zw zc => ?_⟩, ?_⟩
  ·exact wp_move rfl (zc.kn.ev rfl) ⟨_, rfl, Below.refl _ _, optDef zβ rfl⟩
  refine ⟨⟨_, .no (d := ((true && !((decide ((300 : Int) < ((((m + 1) : Nat) : Int) : Int))) || (decide ((30 : Int) < (((d : Nat) : Int) : Int))))) && (decide ((f : Int) < (0 : Int))))) rfl (fun v w h => h), fun h w => optUndef h, fun zβ za zw zc => ?_⟩, ?_⟩
  ·exact nilCheck_ rfl ((evt za 32).trans (optVal (zc.dep 21 32 (by kernel_rfl)) rfl zβ)) ⟨_, rfl, Below.refl _ _, optDef zβ rfl⟩
  refine ⟨⟨_, .no (d := ((true && !((decide ((300 : Int) < ((((m + 1) : Nat) : Int) : Int))) || (decide ((30 : Int) < (((d : Nat) : Int) : Int))))) && (decide ((f : Int) < (0 : Int))))) rfl (fun v w h => h), fun h w => optUndef h, fun zβ za zw zc => ?_⟩, ?_⟩
  ·exact fld_35_1 rfl ((evt za 33).trans (optVal (zc.dep 22 33 (by kernel_rfl)) rfl zβ)) ⟨_, rfl, Below.refl _ _, optDef zβ rfl⟩
  refine ⟨⟨_, .no (d := ((true && !((decide ((300 : Int) < ((((m + 1) : Nat) : Int) : Int))) || (decide ((30 : Int) < (((d : Nat) : Int) : Int))))) && (decide ((f : Int) < (0 : Int))))) rfl (fun v w h => h), fun h w => optUndef h, fun zβ za zw zc => ?_⟩, ?_⟩
  ·exact ld_25 rfl ((evt za 34).trans (optVal (zc.dep 23 34 (by kernel_rfl)) rfl zβ)) (bkeeps (bstep hb5 zc.below) _ _ hc1') ⟨_, rfl, Below.refl _ _, optDef zβ rfl⟩
  refine ⟨⟨_, .no (d := ((true && !((decide ((300 : Int) < ((((m + 1) : Nat) : Int) : Int))) || (decide ((30 : Int) < (((d : Nat) : Int) : Int))))) && (decide ((f : Int) < (0 : Int))))) rfl (fun v w h => h), fun h w => optUndef h, fun zβ za zw zc => ?_⟩, ?_⟩
  ·exact len_25 rfl ((evt za 35).trans (optVal (zc.dep 24 35 (by kernel_rfl)) rfl zβ)) ⟨_, rfl, Below.refl _ _, optDef zβ rfl⟩
  refine ⟨⟨_, .no (d := ((true && !((decide ((300 : Int) < ((((m + 1) : Nat) : Int) : Int))) || (decide ((30 : Int) < (((d : Nat) : Int) : Int))))) && (decide ((f : Int) < (0 : Int))))) rfl (fun v w h => h), fun h w => optUndef h, fun zβ za zw zc => ?_⟩, ?_⟩
  ·exact gtr_3 rfl ((evt za 36).trans (optVal (zc.dep 25 36 (by kernel_rfl)) rfl zβ)) (zc.kn.ev rfl) ⟨_, rfl, Below.refl _ _, optDef zβ rfl⟩
  refine ⟨⟨_, .yes (d := (true && !((decide ((300 : Int) < ((((m + 1) : Nat) : Int) : Int))) || (decide ((30 : Int) < (((d : Nat) : Int) : Int)))))) rfl (fun v w h => h), fun h w => optUndef h, fun zβ za zw zc => ?_⟩, ?_⟩
  ·exact wp_or rfl ((evt za 31).trans (optVal (zc.dep 20 31 (by kernel_rfl)) rfl zβ)) (fun hp => ((evt za 37).trans (optVal (zc.dep 26 37 (by kernel_rfl)) rfl (bMkN zβ hp)))) ⟨_, rfl, Below.refl _ _, optDef zβ rfl⟩
  refine ⟨⟨_, .no (d := true) rfl (fun v w h => h), fun h w => optUndef h, fun zβ za zw zc => ?_⟩, ?_⟩
  ·exact wp_and rfl ((evt za 23).trans (optVal (zc.dep 12 23 (by kernel_rfl)) rfl zβ)) (fun hp => ((evt za 38).trans (optVal (zc.dep 27 38 (by kernel_rfl)) rfl (bMk zβ hp)))) ⟨_, rfl, Below.refl _ _, optDef zβ rfl⟩
  refine ⟨⟨true, .none rfl, fun h w => optUndef h, fun zβ za zw zc => ?_⟩, ?_⟩
  ·exact wp_or rfl ((evt za 17).trans (optVal (zc.dep 6 17 (by kernel_rfl)) rfl rfl)) (fun hp => ((evt za 39).trans (optVal (zc.dep 28 39 (by kernel_rfl)) rfl (bMkN zβ hp)))) ⟨_, rfl, Below.refl _ _, optDef zβ rfl⟩
  exact trivial
 ·intro za w8 zh hb9 zu
  have zh := zh.cons (d := 40) (v := .bool ((((decide ((300 : Int) < ((((m + 1) : Nat) : Int) : Int))) || (decide ((30 : Int) < (((d : Nat) : Int) : Int)))) || ((decide ((f : Int) < (0 : Int))) && ((decide ((f : Int) < ((-most) : Int))) || (decide ((0 : Int) < (((l.length : Nat) : Int) : Int)))))))) (optVal (zu 29 40 (by kernel_rfl)) rfl rfl)
  clear zu
  refine WE.go zh ?_
  refine WE.next ?_
  refine WC.cond rfl (fun h10 => ?_) (fun h10 => ?_)
  ·have h10 : (((300 : Int) < ((((m + 1) : Nat) : Int) : Int)) ∨ ((30 : Int) < (((d : Nat) : Int) : Int))) ∨ (((f : Int) < (0 : Int)) ∧ (((f : Int) < ((-most) : Int)) ∨ ((0 : Int) < (((l.length : Nat) : Int) : Int)))) := by simpa using h10
   refine WC.seq (WC.region (WL.asg rfl rfl rfl rfl rfl (WL.nil (WE.next (WC.ret (WE.thenRet (WE.ret1 rfl rfl ?_)))))))
   have hB11 := hB3.below hb9
   have hs12 : Chg ((fun b => b = gn)) w w8 := (Chg.trans2 (Chg.trans2 (Chg.refl ((fun b => b = gn)) _) (Chg.ofUpd (S := fun k => k = gn) hu2 rfl) (fun i h1 h2 => by first | exact h2 | exact .inl ⟨h2, h1⟩ | exact .inl h2 | exact .inr h2 | exact .inr (.inl h2) | exact .inr (.inr h2) | ((try dsimp only at *); omega))) (Chg.ofBelow (S := fun k => k < 0) hb9) (fun i h1 h2 => by first | exact h2 | exact .inl ⟨h2, h1⟩ | exact .inl h2 | exact .inr h2 | exact .inr (.inl h2) | exact .inr (.inr h2) | ((try dsimp only at *); omega)))
   have hno : smB most m d (.mk f l) = false := smB_head (by omega)
   exact ⟨_, rfl, ⟨by rw [hno], _, hB11, fun h => by rw [hno] at h; cases h⟩, hs12⟩
  ·have h10 : ¬ ((((300 : Int) < ((((m + 1) : Nat) : Int) : Int)) ∨ ((30 : Int) < (((d : Nat) : Int) : Int))) ∨ (((f : Int) < (0 : Int)) ∧ (((f : Int) < ((-most) : Int)) ∨ ((0 : Int) < (((l.length : Nat) : Int) : Int))))) := by simpa using h10
   have hd30 : d ≤ 30 := by omega
   have hm3 : m + 1 ≤ 300 := by omega
   refine WC.skip (WE.next (WC.seq (WC.seq (WC.region (WL.mv rfl rfl rfl rfl rfl ?_)))))
   refine WL.val _ rfl rfl rfl (fun za zC zh zk => nilCheck_ rfl (zh.ev rfl) zk) ?_
   refine WL.val _ rfl rfl rfl (fun za zC zh zk => fld_35_1 rfl (zh.ev rfl) zk) ?_
   have hb13 : Below w0.heap.size w0 w8 := (bstep hb5 hb9)
   refine WL.val _ rfl rfl rfl (fun za zC zh zk => ld_25 rfl (zh.ev rfl) (bkeeps hb13 _ _ hc1') zk) ?_
   refine WL.val (.int .i64 (((l.length : Nat) : Int))) rfl rfl rfl (fun za zC zh zk => len_25 rfl (zh.ev rfl) zk) ?_
   refine WL.mv rfl rfl rfl rfl rfl (WL.nil (WE.next (WC.block ?_)))
   have hs14 : Chg ((fun b => b = gn)) w w8 := (Chg.trans2 (Chg.trans2 (Chg.refl ((fun b => b = gn)) _) (Chg.ofUpd (S := fun k => k = gn) hu2 rfl) (fun i h1 h2 => by first | exact h2 | exact .inl ⟨h2, h1⟩ | exact .inl h2 | exact .inr h2 | exact .inr (.inl h2) | exact .inr (.inr h2) | ((try dsimp only at *); omega))) (Chg.ofBelow (S := fun k => k < 0) hb9) (fun i h1 h2 => by first | exact h2 | exact .inl ⟨h2, h1⟩ | exact .inl h2 | exact .inr h2 | exact .inr (.inl h2) | exact .inr (.inr h2) | ((try dsimp only at *); omega)))
   refine WC.loop (X := Nat) (fun i => l.length - i) (fun i => [(0, .pointer (some ⟨pb, po, none⟩)), (1, .int .i64 (((d : Nat) : Int))), (2, .pointer (some ⟨gn, 0, none⟩)), (3, .pointer (some ⟨gm, 0, none⟩)), (4, .pointer (some ⟨gf, 0, none⟩)), (40, .bool ((((decide ((300 : Int) < ((((m + 1) : Nat) : Int) : Int))) || (decide ((30 : Int) < (((d : Nat) : Int) : Int)))) || ((decide ((f : Int) < (0 : Int))) && ((decide ((f : Int) < ((-most) : Int))) || (decide ((0 : Int) < (((l.length : Nat) : Int) : Int)))))))), (45, .int .i64 (((l.length : Nat) : Int))), (46, .int .i64 (((i : Nat) : Int)))]) (fun i w15 => i ≤ l.length ∧ m + 1 + T.sizeL (l.take i) ≤ 300 ∧ (∀ k, k < i → smB most (m + 1 + T.sizeL (l.take k)) (d + 1) (tget l k) = true) ∧ Chg (fun b => b = gn) w w15 ∧ Below w0.heap.size w0 w15 ∧ Blk w15 gm 3 #[.int .i64 most] ∧ Blk w15 gf 107 #[.func (.func 65) #[] #[.pointer (some ⟨gn, 0, none⟩), .pointer (some ⟨gm, 0, none⟩), .pointer (some ⟨gf, 0, none⟩)]] ∧ Blk w15 gn 3 #[.int .i64 ((((m + 1 + T.sizeL (l.take i)) : Nat) : Int))]) 0 ⟨rfl, rfl, rfl, rfl, rfl, rfl, rfl, rfl, trivial⟩ ?_ ?_
   ·have hB16 := hB6.below hb9
    have hB17 := hB7.below hb9
    have hB18 := hB3.below hb9
    exact ⟨Nat.zero_le _, by simp [T.sizeL]; omega, fun k h => absurd h (Nat.not_lt_zero k), hs14, hb13, hB16, hB17, (by simpa [T.sizeL] using hB18)⟩
   ·rintro i w15 ⟨hi, hs, hall, hcg, hb19, hB20, hB21, hB22⟩
    refine WC.seq (WC.region ?_)
    refine WL.val (.bool ((decide ((((i : Nat) : Int) : Int) < (((l.length : Nat) : Int) : Int))))) rfl rfl rfl (fun za zC zh zk => lss_3 rfl (zh.ev rfl) (zh.ev rfl) zk) ?_
    refine WL.nil (WE.next (WC.seq ?_))
    refine WC.cond rfl (fun h23 => ?_) (fun h23 => ?_)
    ·have h23 : (((i : Nat) : Int) : Int) < (((l.length : Nat) : Int) : Int) := by simpa using h23
     refine WC.skip (WE.next (WC.seq (WC.block (WC.seq (WC.region (WL.mv rfl rfl rfl rfl rfl (WL.asg rfl rfl rfl rfl rfl (WL.nil (WE.next (WC.seq ?_))))))))))
     obtain ⟨b24, o25, A26, C27, ha28, hc29⟩ := IsTs.open hl0
     refine WC.seqV (S := ((fun b => b = gn))) [(true, .val (.func (.func 65) #[] #[.pointer (some ⟨gn, 0, none⟩), .pointer (some ⟨gm, 0, none⟩), .pointer (some ⟨gf, 0, none⟩)])), (true, .val (.pointer (some ⟨pb, po, none⟩))), (true, .val (.pointer (some ⟨pb, po, none⟩))), (true, .val (.pointer (some ⟨pb, po + 1, none⟩))), (true, .val (.slice a l.length c)), (true, .val (.int .i64 (((i : Nat) : Int)))), (true, .val (.pointer (some ⟨b24, o25 + i * 2, none⟩))), (true, .val (.int .i64 (((d : Nat) : Int)))), (true, .val (.int .i64 ((((d + 1) : Nat) : Int)))), (true, .val undef), (true, .val (.bool ((!(smB most (m + 1 + T.sizeL (l.take i)) (d + 1) (tget l i))))))] [(0, .pointer (some ⟨pb, po, none⟩)), (1, .int .i64 (((d : Nat) : Int))), (2, .pointer (some ⟨gn, 0, none⟩)), (3, .pointer (some ⟨gm, 0, none⟩)), (4, .pointer (some ⟨gf, 0, none⟩)), (8, .int .i64 (((i : Nat) : Int))), (40, .bool ((((decide ((300 : Int) < ((((m + 1) : Nat) : Int) : Int))) || (decide ((30 : Int) < (((d : Nat) : Int) : Int)))) || ((decide ((f : Int) < (0 : Int))) && ((decide ((f : Int) < ((-most) : Int))) || (decide ((0 : Int) < (((l.length : Nat) : Int) : Int)))))))), (45, .int .i64 (((l.length : Nat) : Int))), (46, .int .i64 (((i : Nat) : Int))), (47, .bool ((decide ((((i : Nat) : Int) : Int) < (((l.length : Nat) : Int) : Int)))))] [9] [some (true, .bool ((smB most (m + 1 + T.sizeL (l.take i)) (d + 1) (tget l i))))] (fun vs wz => match vs with | [] => Blk wz gn 3 #[.int .i64 ((((m + 1 + T.sizeL (l.take i)) : Nat) : Int))] | _ => ∃ m2 : Nat, Blk wz gn 3 #[.int .i64 (m2 : Int)] ∧ ((smB most (m + 1 + T.sizeL (l.take i)) (d + 1) (tget l i)) = true → m2 = m + 1 + T.sizeL (l.take i) + (tget l i).size)) ((fun vs w w' hb h => by
      match vs, h with
      | [], h => exact Blk.below h hb
      | _ :: _, ⟨m2, h1, h2⟩ => exact ⟨m2, h1.below hb, h2⟩)) (by decide) ⟨rfl, rfl, rfl, rfl, rfl, rfl, rfl, rfl, rfl, rfl, trivial⟩ (by kernel_rfl) (by kernel_rfl) (by kernel_rfl) (by kernel_rfl) hB22 ?_ ?_
     ·refine ⟨.inl ⟨rfl, true, .none rfl, (fun gg b h => by cases h), fun h w => optUndef h, fun zβ za zw zc => ?_⟩, ?_⟩
      ·exact ld_107 rfl (zc.kn.ev rfl) (chg_cell zc.chg (by (try dsimp only at *); omega) ((hB21.cell 0).trans rfl)) ⟨_, rfl, Below.refl _ _, optDef zβ rfl⟩
      refine ⟨.inl ⟨rfl, true, .none rfl, (fun gg b h => by cases h), fun h w => optUndef h, fun zβ za zw zc => ?_⟩, ?_⟩
      ·exact wp_move rfl (zc.kn.ev rfl) ⟨_, rfl, Below.refl _ _, optDef zβ rfl⟩
      refine ⟨.inl ⟨rfl, true, .none rfl, (fun gg b h => by cases h), fun h w => optUndef h, fun zβ za zw zc => ?_⟩, ?_⟩
      ·exact nilCheck_ rfl ((evt za 50).trans (optSVal (zc.dep 1 50 (by kernel_rfl) (by decide)) rfl rfl)) ⟨_, rfl, Below.refl _ _, optDef zβ rfl⟩
      refine ⟨.inl ⟨rfl, true, .none rfl, (fun gg b h => by cases h), fun h w => optUndef h, fun zβ za zw zc => ?_⟩, ?_⟩
      ·exact fld_35_1 rfl ((evt za 51).trans (optSVal (zc.dep 2 51 (by kernel_rfl) (by decide)) rfl rfl)) ⟨_, rfl, Below.refl _ _, optDef zβ rfl⟩
      refine ⟨.inl ⟨rfl, true, .none rfl, (fun gg b h => by cases h), fun h w => optUndef h, fun zβ za zw zc => ?_⟩, ?_⟩
      ·exact ld_25 rfl ((evt za 52).trans (optSVal (zc.dep 3 52 (by kernel_rfl) (by decide)) rfl rfl)) (chg_old hb19 zc.chg (fun b hb => by (try dsimp only at *); omega) hc1') ⟨_, rfl, Below.refl _ _, optDef zβ rfl⟩
      refine ⟨.inl ⟨rfl, true, .none rfl, (fun gg b h => by cases h), fun h w => optUndef h, fun zβ za zw zc => ?_⟩, ?_⟩
      ·exact wp_move rfl (zc.kn.ev rfl) ⟨_, rfl, Below.refl _ _, optDef zβ rfl⟩
      refine ⟨.inl ⟨rfl, true, .none rfl, (fun gg b h => by cases h), fun h w => optUndef h, fun zβ za zw zc => ?_⟩, ?_⟩
      ·exact ix_25 (k := i) rfl ((evt za 53).trans (optSVal (zc.dep 4 53 (by kernel_rfl) (by decide)) rfl rfl)) (ha28 i (by first | omega | (simp; omega))) ((evt za 54).trans (optSVal (zc.dep 5 54 (by kernel_rfl) (by decide)) rfl rfl)) (by first | omega | (simp; omega)) ⟨_, rfl, Below.refl _ _, optDef zβ rfl⟩
      refine ⟨.inl ⟨rfl, true, .none rfl, (fun gg b h => by cases h), fun h w => optUndef h, fun zβ za zw zc => ?_⟩, ?_⟩
      ·exact wp_move rfl (zc.kn.ev rfl) ⟨_, rfl, Below.refl _ _, optDef zβ rfl⟩
      refine ⟨.inl ⟨rfl, true, .none rfl, (fun gg b h => by cases h), fun h w => optUndef h, fun zβ za zw zc => ?_⟩, ?_⟩
      ·exact addb_3 rfl ((evt za 56).trans (optSVal (zc.dep 7 56 (by kernel_rfl) (by decide)) rfl rfl)) (zc.kn.ev rfl) (wrap_eq (by omega) (by omega) (by omega)) ⟨_, rfl, Below.refl _ _, optDef zβ rfl⟩
      refine ⟨.inr ⟨0, rfl, by kernel_rfl, true, .none rfl, (fun gg b h => by cases h), (fun h => (nomatch h)), fun zβ za zw zvals zc => ?_⟩, ?_⟩
      ·obtain rfl := vlen0 zc.len
       have zn := zc.now
       have hw9 := chg_below hb19 zc.chg (fun b hb e => by (try dsimp only at *); omega)
       exact wp_callv (by kernel_rfl) rfl ((evt za 49).trans (optSVal (zc.dep 0 49 (by kernel_rfl) (by decide)) rfl rfl)) (hv2 ((evt za 55).trans (optSVal (zc.dep 6 55 (by kernel_rfl) (by decide)) rfl rfl)) ((evt za 57).trans (optSVal (zc.dep 8 57 (by kernel_rfl) (by decide)) rfl rfl))) (ih (tget l i) (tget_mem (by omega)) (m + 1 + T.sizeL (l.take i)) (d + 1) _ _ _ _ _ (by omega) (by omega) hw9 (hc29 i (by omega)).1 (hc29 i (by omega)).2.1 (hc29 i (by omega)).2.2 zn (chg_blk hB20 zc.chg hmn) (chg_blk hB21 zc.chg hfn)) (fun v w' h => ⟨v, rfl, h.2, h.1.2, cvIs h.1.1⟩)
      refine ⟨.inl ⟨rfl, true, .none rfl, (fun gg b h => by cases h), fun h w => optUndef h, fun zβ za zw zc => ?_⟩, ?_⟩
      ·exact wp_not rfl ((evt za 58).trans (zc.link 0 9 58 _ _ rfl (by kernel_rfl) rfl rfl)) ⟨_, rfl, Below.refl _ _, optDef zβ rfl⟩
      exact trivial
     ·intro za w30 zvals zh zl hG31 hc32 zu zw zk
      obtain ⟨z0, rfl⟩ := vlen1 zl
      have zh := zh.cons (d := 59) (v := .bool ((!(smB most (m + 1 + T.sizeL (l.take i)) (d + 1) (tget l i))))) (optSVal (zu 10 59 (by kernel_rfl) (by decide)) rfl rfl)
      obtain ⟨m2, hN2, hmm⟩ := hG31
      have hw33 := chg_below hb19 hc32 (fun b hb e => by (try dsimp only at *); omega)
      have hM2 := chg_blk hB20 hc32 hmn
      have hF2 := chg_blk hB21 hc32 hfn
      clear zu zw zk
      refine WE.go zh ?_
      refine WE.next ?_
      refine WC.cond rfl (fun h34 => ?_) (fun h34 => ?_)
      ·have h34 : ¬ ((smB most (m + 1 + T.sizeL (l.take i)) (d + 1) (tget l i)) = true) := by simpa using h34
       refine WC.seq (WC.region (WL.asg rfl rfl rfl rfl rfl (WL.nil (WE.next (WC.ret (WE.blockRet (WE.thenRet (WE.thenRet (WE.blockRet (WE.thenRet (WE.ret1 rfl rfl ?_)))))))))))
       have hno : smB most m d (.mk f l) = false := smB_kid (k := i) (by omega) (by simpa using h34)
       exact ⟨_, rfl, ⟨by rw [hno], _, hN2, fun h => by rw [hno] at h; cases h⟩, hcg.trans hc32⟩
      ·have h34 : ¬ (¬ ((smB most (m + 1 + T.sizeL (l.take i)) (d + 1) (tget l i)) = true)) := by simpa using h34
       refine WC.skip (WE.blockNormal (WE.next (WC.region ?_)))
       refine WL.val (.int .i64 ((((i + 1) : Nat) : Int))) rfl rfl rfl (fun za zC zh zk => addb_3 rfl (zh.ev rfl) (zh.ev rfl) (wrap_eq (by omega) (by omega) (by omega)) zk) ?_
       refine WL.mv rfl rfl rfl rfl rfl (WL.nil ?_)
       have hsm : smB most (m + 1 + T.sizeL (l.take i)) (d + 1) (tget l i) = true := by simpa using h34
       have hm4 := hmm hsm
       have hst := sizeL_take (show i < l.length by omega)
       have hsz3 : m + 1 + T.sizeL (l.take (i + 1)) ≤ 300 := by have z := (smB_iff.1 hsm).1; omega
       refine WE.round (i + 1) ⟨rfl, rfl, rfl, rfl, rfl, rfl, rfl, rfl, trivial⟩ ?_ ?_
       ·exact ⟨by omega, hsz3, fun k hk => by
          by_cases e : k = i
          ·rw [e]; exact hsm
          ·exact hall k (by omega), hcg.trans hc32, hw33, hM2, hF2, (by rw [show m + 1 + T.sizeL (l.take (i + 1)) = m2 by omega]; exact hN2)⟩
       ·omega
    ·have h23 : ¬ ((((i : Nat) : Int) : Int) < (((l.length : Nat) : Int) : Int)) := by simpa using h23
     refine WC.exit (WE.thenExit (WE.thenExit (WE.blockIs rfl (WE.next (WC.seq (WC.region (WL.asg rfl rfl rfl rfl rfl (WL.nil (WE.next (WC.ret (WE.ret1 rfl rfl ?_)))))))))))
     have hil : i = l.length := by omega
     rw [hil, List.take_length] at hs
     have hyes : smB most m d (.mk f l) = true := smB_yes (by omega) hs (fun k hk => hall k (by omega))
     exact ⟨_, rfl, ⟨by rw [hyes], _, hB22, fun _ => by rw [hil, List.take_length, T.size]; omega⟩, hcg.trans (Chg.refl _ _)⟩
end Go.Proofs.Ytbohlpfndiiimaa

/- Terms whose variables have no arguments. -/
namespace Go.Proofs.Ytbohlpfndiiimaa
open Go.RowKit Go
set_option linter.unusedVariables false
set_option linter.unusedSimpArgs false
end Go.Proofs.Ytbohlpfndiiimaa

/- Small terms: plain. -/
namespace Go.Proofs.Ytbohlpfndiiimaa
open Go.RowKit Go
set_option linter.unusedVariables false
set_option linter.unusedSimpArgs false
mutual
def T.dep : T → Nat
  | .mk _ l => T.depL l + 1
def T.depL : List T → Nat
  | [] => 0
  | t :: r => max t.dep (T.depL r)
end
mutual
def T.low (m : Int) : T → Bool
  | .mk f l => if f < 0 then decide (-m ≤ f) && decide (l.length = 0) else T.lowL m l
def T.lowL (m : Int) : List T → Bool
  | [] => true
  | t :: r => t.low m && T.lowL m r
end
def T.small (m : Int) (t : T) : Bool := decide (t.size ≤ 300) && decide (t.dep ≤ 30) && t.low m
theorem depL_snoc : ∀ (l : List T) (t : T), T.depL (l ++ [t]) = max (T.depL l) t.dep
  | [], t => by simp [T.depL]
  | x :: l, t => by rw [List.cons_append, T.depL, T.depL, depL_snoc l t, Nat.max_assoc]
theorem depL_take {l : List T} {k : Nat} (h : k < l.length) : T.depL (l.take (k + 1)) = max (T.depL (l.take k)) (tget l k).dep := by
  rw [List.take_succ_eq_append_getElem h, depL_snoc, tget_lt h]
theorem sizeL_snoc : ∀ (l : List T) (t : T), T.sizeL (l ++ [t]) = T.sizeL l + t.size
  | [], t => by simp [T.sizeL]
  | x :: l, t => by rw [List.cons_append, T.sizeL, T.sizeL, sizeL_snoc l t, Nat.add_assoc]
theorem sizeL_take1 {l : List T} {k : Nat} (h : k < l.length) : T.sizeL (l.take (k + 1)) = T.sizeL (l.take k) + (tget l k).size := by
  rw [List.take_succ_eq_append_getElem h, sizeL_snoc, tget_lt h]
mutual
theorem T.dep_le : ∀ t : T, t.dep ≤ t.size
  | .mk f l => by rw [T.dep, T.size]; have := T.depL_le l; omega
theorem T.depL_le : ∀ l : List T, T.depL l ≤ T.sizeL l
  | [] => Nat.le_refl _
  | t :: r => by rw [T.depL, T.sizeL]; have := T.dep_le t; have := T.depL_le r; omega
end
theorem depL_take_le {l : List T} {k : Nat} : T.depL (l.take k) ≤ T.sizeL l := by
  have h1 := T.depL_le (l.take k)
  have h2 : T.sizeL (l.take k) ≤ T.sizeL l := T.sizeL_take_le l k
  omega
theorem lowL_mem {m : Int} : ∀ {l : List T}, T.lowL m l = true ↔ ∀ t ∈ l, t.low m = true
  | [] => by simp [T.lowL]
  | t :: r => by rw [T.lowL, Bool.and_eq_true, lowL_mem (l := r)]; simp
theorem low_yes {m f : Int} {l : List T} (hf : ¬ f < 0) (h : ∀ i, i < l.length → (tget l i).low m = true) : (T.mk f l).low m = true := by
  rw [T.low, if_neg hf]
  refine lowL_mem.2 fun t ht => ?_
  obtain ⟨i, hi, rfl⟩ := List.getElem_of_mem ht
  have := h i hi
  rwa [tget_lt hi] at this
theorem low_no {m f : Int} {l : List T} {k : Nat} (hf : ¬ f < 0) (hk : k < l.length) (h : ¬ (tget l k).low m = true) : (T.mk f l).low m = false := by
  rw [T.low, if_neg hf, Bool.eq_false_iff]
  intro e
  exact h (lowL_mem.1 e _ (tget_mem hk))
/-- A row of variables of those that were there, or of terms. -/
def VarsIn (l0 : List Int) (q : Int → Prop) (l : List Int) : Prop := ∀ x ∈ l, x ∈ l0 ∨ q x
end Go.Proofs.Ytbohlpfndiiimaa

namespace Go.Proofs.Ytbohlpfndiiimaa
open Go.RowKit Go
set_option linter.unusedVariables false
set_option linter.unusedSimpArgs false
set_option maxRecDepth 100000 in
theorem tsmall_any (t : T) (most : Int) (hmost : 0 ≤ most ∧ most ≤ 1099511627776) (w : World) (v : Value) (hv : IsT w t v) : Calls Try.prog 52 #[v, .int .i64 most] w (Ret fun v' w' => v' = .bool (smallB most t) ∧ Below w.heap.size w w') := by
 have hvt := hv
 obtain ⟨_, a, c, rfl, _, _, _⟩ := hv.form
 refine Calls.walk (l := [.agg #[.int .i64 t.f, .slice a t.args.length c], .int .i64 most]) Try.func52 rfl (by kernel_rfl) ?_
 refine WC.sub (K' := [(0, .agg #[.int .i64 t.f, .slice a t.args.length c]), (1, .int .i64 most)]) ⟨rfl, rfl, trivial⟩ ?_
 refine WC.seq (WC.region ?_)
 refine WL.step (post := NewBlk w 35 #[.int .i64 t.f, .slice a t.args.length c]) rfl rfl rfl (fun za zC zh zk => box_35 rfl (zh.ev rfl) (zk _ _ (newBlk _ _ _))) ?_
 rintro _ w1 ⟨g2, rfl, hg3, hB4, hb5, hz6⟩
 have hl7 : w.heap.size ≤ g2 := by omega
 refine WL.step (post := NewBlk w1 3 #[.int .i64 most]) rfl rfl rfl (fun za zC zh zk => box_3 rfl (zh.ev rfl) (zk _ _ (newBlk _ _ _))) ?_
 rintro _ w8 ⟨g9, rfl, hg10, hB11, hb12, hz13⟩
 have hl14 : g2 < g9 := by have z1 := hB4.lt; omega
 have hl15 : w.heap.size ≤ g9 := by have z2 := (hb5).size; omega
 refine WL.asg rfl rfl rfl rfl rfl (WL.nil (WE.next (WC.seq ?_)))
 have hB16 := hB4.below hb12
 refine WC.region ?_
 refine WL.step (post := NewBlk w8 3 #[.int .i64 0]) rfl rfl rfl (fun za zC zh zk => alloc_3 rfl (zk _ _ (newBlk _ _ _))) ?_
 rintro _ w17 ⟨g18, rfl, hg19, hB20, hb21, hz22⟩
 have hl23 : g2 < g18 := by have z1 := hB16.lt; omega
 have hl24 : g9 < g18 := by have z1 := hB11.lt; omega
 have hb25 : Below w.heap.size w w8 := (bstep hb5 hb12)
 have hl26 : w.heap.size ≤ g18 := by have z2 := (hb25).size; omega
 have hl27 : w8.heap.size ≤ g18 := by omega
 refine WL.step (post := fun _ w' => Upd g18 w17 w' ∧ Blk w' g18 3 #[.int .i64 0]) rfl rfl rfl (fun za zC zh zk => st_3 rfl (zh.ev rfl) (zh.ev rfl) hB20 (by first | decide | simp) (fun v => zk v _ ⟨Upd.at_ _ _ _ _, hB20.set_ 0 _⟩)) ?_
 rintro v31 w28 ⟨hu29, hB30⟩
 have hb32 : Below w.heap.size w w17 := (bstep hb25 hb21)
 have hb33 := upd_below hb32 hu29 (by omega)
 have hb34 := upd_below hb21 hu29 (by omega)
 have hB35 := hB16.below hb21
 have hB36 := upd_blk hB35 hu29 (by omega)
 have hB37 := hB11.below hb21
 have hB38 := upd_blk hB37 hu29 (by omega)
 refine WL.nil (WE.next (WC.seq (WC.region ?_)))
 refine WL.step (post := NewBlk w28 107 #[.nilFunc]) rfl rfl rfl (fun za zC zh zk => alloc_107 rfl (zk _ _ (newBlk _ _ _))) ?_
 rintro _ w39 ⟨g40, rfl, hg41, hB42, hb43, hz44⟩
 have hl45 : g2 < g40 := by have z1 := hB36.lt; omega
 have hl46 : g9 < g40 := by have z1 := hB38.lt; omega
 have hl47 : g18 < g40 := by have z1 := hB30.lt; omega
 have hl48 : w.heap.size ≤ g40 := by have z2 := (hb33).size; omega
 have hl49 : w8.heap.size ≤ g40 := by have z2 := (hb34).size; omega
 refine WL.nil (WE.next (WC.seq (WC.region ?_)))
 refine WL.val (.func (Fn.func 65) #[] #[.pointer (some ⟨g18, 0, none⟩), .pointer (some ⟨g9, 0, none⟩), .pointer (some ⟨g40, 0, none⟩)]) rfl rfl rfl (fun za zC zh zk => mkfn rfl (hv0) (hv3 (zh.ev rfl) (zh.ev rfl) (zh.ev rfl)) zk) ?_
 refine WL.step (post := fun _ w' => Upd g40 w39 w' ∧ Blk w' g40 107 #[.func (Fn.func 65) #[] #[.pointer (some ⟨g18, 0, none⟩), .pointer (some ⟨g9, 0, none⟩), .pointer (some ⟨g40, 0, none⟩)]]) rfl rfl rfl (fun za zC zh zk => st_107 rfl (zh.ev rfl) (zh.ev rfl) hB42 (by first | decide | simp) (fun v => zk v _ ⟨Upd.at_ _ _ _ _, hB42.set_ 0 _⟩)) ?_
 rintro v53 w50 ⟨hu51, hB52⟩
 have hb54 : Below w.heap.size w w39 := (bstep hb33 hb43)
 have hb55 : Below w8.heap.size w8 w39 := (bstep hb34 hb43)
 have hb56 := upd_below hb54 hu51 (by omega)
 have hb57 := upd_below hb55 hu51 (by omega)
 have hB58 := hB36.below hb43
 have hB59 := upd_blk hB58 hu51 (by omega)
 have hB60 := hB38.below hb43
 have hB61 := upd_blk hB60 hu51 (by omega)
 have hB62 := hB30.below hb43
 have hB63 := upd_blk hB62 hu51 (by omega)
 refine WL.nil (WE.next (WC.seq (WC.region ?_)))
 refine WL.val _ rfl rfl rfl (fun za zC zh zk => ld_107 rfl (zh.ev rfl) ((hB52.cell 0).trans rfl) zk) ?_
 refine WL.call rfl rfl rfl (fun za zh zC => wp_callv (by kernel_rfl) rfl (zh.ev rfl) (hv2 (zh.ev rfl) (zh.ev rfl))) (small1_any most hmost w8 g18 g9 g40 (by omega) (by omega) (by omega) t 0 1 _ g2 0 _ _ (by omega) (by omega) hb57 ((hB16.cell 0).trans rfl) ((hB16.cell 1).trans rfl) (hvt.below hb25) hB63 hB61 hB52) ?_
 rintro _ w65 ⟨⟨rfl, m2, hN2, hm2⟩, hcs⟩
 have hb66 := chg_below hb56 hcs (fun b hb => (by (try dsimp only at *); omega))
 refine WL.asg rfl rfl rfl rfl rfl (WL.nil (WE.next (WC.ret (WE.ret1 rfl rfl ?_))))
 exact ⟨_, rfl, rfl, hb66⟩
mutual
theorem dn_low (m : Int) : ∀ (t : T) (d : Nat), t.dn m d = true ↔ d + t.dep ≤ 31 ∧ t.low m = true
 | .mk f l, d => by
  rw [dn_iff, T.dep, T.low, dnL_low m l (d + 1)]
  by_cases hf : f < 0
  ·rw [if_pos hf, Bool.and_eq_true, decide_eq_true_eq, decide_eq_true_eq]
   constructor
   ·rintro ⟨h1, h2, _⟩
    obtain ⟨h3, rfl⟩ := h2 hf
    exact ⟨by rw [T.depL]; omega, h3, rfl⟩
   ·rintro ⟨h1, h2, h3⟩
    obtain rfl := List.eq_nil_of_length_eq_zero h3
    exact ⟨by omega, fun _ => ⟨h2, rfl⟩, .inl rfl, rfl⟩
  ·rw [if_neg hf]
   constructor
   ·rintro ⟨h1, _, h3, h4⟩
    refine ⟨?_, h4⟩
    rcases h3 with rfl | h3
    ·rw [T.depL]; omega
    ·omega
   ·rintro ⟨h1, h2⟩
    exact ⟨by omega, fun q => absurd q hf, .inr (by omega), h2⟩
theorem dnL_low (m : Int) : ∀ (l : List T) (d : Nat), T.dnL m l d = true ↔ (l = [] ∨ d + T.depL l ≤ 31) ∧ T.lowL m l = true
 | [], d => by rw [T.dnL, T.lowL]; simp
 | t :: r, d => by
  rw [T.dnL, Bool.and_eq_true, dn_low m t d, dnL_low m r d, T.depL, T.lowL, Bool.and_eq_true]
  constructor
  ·rintro ⟨⟨h1, h2⟩, h3, h4⟩
   refine ⟨.inr ?_, h2, h4⟩
   rcases h3 with rfl | h3
   ·rw [T.depL]; omega
   ·omega
  ·rintro ⟨h1, h2, h3⟩
   rcases h1 with h1 | h1
   ·cases h1
   ·exact ⟨⟨by omega, h2⟩, .inr (by omega), h3⟩
end
/-- Both say the same of small terms. -/
theorem smallB_small (m : Int) (t : T) : smallB m t = t.small m := by
 rw [Bool.eq_iff_iff]
 unfold smallB T.small
 rw [smB_iff, dn_low, Bool.and_eq_true, Bool.and_eq_true, decide_eq_true_eq, decide_eq_true_eq]
 constructor
 ·rintro ⟨h1, h2, h3⟩; exact ⟨⟨by omega, by omega⟩, h3⟩
 ·rintro ⟨⟨h1, h2⟩, h3⟩; exact ⟨by omega, by omega, h3⟩
end Go.Proofs.Ytbohlpfndiiimaa
