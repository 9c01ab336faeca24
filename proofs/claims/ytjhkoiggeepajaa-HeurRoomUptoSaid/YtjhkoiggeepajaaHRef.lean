/- The document's room: made, one added, one dropped, the next one. -/
import Derived.Test.YtjhkoiggeepajaaHWeighs
import Derived.Test.YtjhkoiggeepajaaRefR
import Derived.Test.YtjhkoiggeepajaaBox2
namespace Go.Proofs.Ytjhkoiggeepajaa
open Go.RowKit Go
set_option linter.unusedVariables false
set_option linter.unusedSimpArgs false

set_option maxRecDepth 100000 in
theorem rnew_any (q : List Qu) (w : World) (a : Option Addr) (c : Nat) (hq : IsQs w q a) (hz : q.length ≤ 1048576) : Calls Try.prog 14 #[.slice a q.length c] w (Ret fun v' w' => (qsOk q = false ∧ v' = .tuple #[.pointer none, .int .i64 2] ∧ Below w.heap.size w w') ∨ (qsOk q = true ∧ (∃ z, v' = .tuple #[.pointer (some ⟨z, 0, none⟩), .int .i64 0] ∧ RefIs w' z (fun b => w.heap.size ≤ b) q a c [] 0 0) ∧ Below w.heap.size w w')) := by
  refine Calls.walk (l := [.slice a q.length c]) Try.func14 rfl (by kernel_rfl) ?_
  refine WC.sub (K' := [(0, .slice a q.length c)]) ⟨rfl, trivial⟩ ?_
  refine WC.seq ?_
  refine WC.region ?_
  refine WL.val (.pointer none) rfl rfl rfl (fun za zC zh zk => wp_assign rfl (zh.ev rfl) zk) ?_
  refine WL.val (.int .i64 0) rfl rfl rfl (fun za zC zh zk => wp_assign rfl (zh.ev rfl) zk) ?_
  refine WL.nil (WE.sub (K' := [(0, .slice a q.length c), (2, .pointer none), (3, .int .i64 0)]) ⟨rfl, rfl, rfl, trivial⟩ ?_)
  refine WE.next ?_
  refine WC.seq ?_
  refine WC.seq ?_
  refine WC.opt [(true, .val (.slice a q.length c)), (true, .val (.int .i64 (((q.length : Nat) : Int)))), (true, .val (.bool ((decide ((((q.length : Nat) : Int) : Int) < (1 : Int)))))), (true, .val (.bool ((decide ((((q.length : Nat) : Int) : Int) < (1 : Int)))))), ((true && !(decide ((((q.length : Nat) : Int) : Int) < (1 : Int)))), .val (.slice a q.length c)), ((true && !(decide ((((q.length : Nat) : Int) : Int) < (1 : Int)))), .val (.int .i64 (((q.length : Nat) : Int)))), ((true && !(decide ((((q.length : Nat) : Int) : Int) < (1 : Int)))), .val (.bool ((decide ((8 : Int) < (((q.length : Nat) : Int) : Int)))))), (true, .val (.bool (((decide ((((q.length : Nat) : Int) : Int) < (1 : Int))) || (decide ((8 : Int) < (((q.length : Nat) : Int) : Int)))))))] [(0, .slice a q.length c), (2, .pointer none), (3, .int .i64 0)] ⟨rfl, rfl, rfl, trivial⟩ (by kernel_rfl) (by kernel_rfl) (by kernel_rfl) ?_ ?_
  · refine ⟨⟨true, .none rfl, fun h w => optUndef h, fun zβ za zw zc => ?_⟩, ?_⟩
    · exact wp_move rfl (zc.kn.ev rfl) ⟨_, rfl, Below.refl _ _, optDef zβ rfl⟩
    refine ⟨⟨true, .none rfl, fun h w => optUndef h, fun zβ za zw zc => ?_⟩, ?_⟩
    · exact len_30 rfl ((show za.eval (.tmp 5) = za.tmps.getD 5 undef from rfl).trans (optVal (zc.dep 0 5 (by kernel_rfl)) rfl rfl)) ⟨_, rfl, Below.refl _ _, optDef zβ rfl⟩
    refine ⟨⟨true, .none rfl, fun h w => optUndef h, fun zβ za zw zc => ?_⟩, ?_⟩
    · exact lss_3 rfl ((show za.eval (.tmp 6) = za.tmps.getD 6 undef from rfl).trans (optVal (zc.dep 1 6 (by kernel_rfl)) rfl rfl)) (zc.kn.ev rfl) ⟨_, rfl, Below.refl _ _, optDef zβ rfl⟩
    refine ⟨⟨true, .none rfl, fun h w => optUndef h, fun zβ za zw zc => ?_⟩, ?_⟩
    · exact wp_move rfl ((show za.eval (.tmp 7) = za.tmps.getD 7 undef from rfl).trans (optVal (zc.dep 2 7 (by kernel_rfl)) rfl rfl)) ⟨_, rfl, Below.refl _ _, optDef zβ rfl⟩
    refine ⟨⟨(true && !(decide ((((q.length : Nat) : Int) : Int) < (1 : Int)))), .no (c := (decide ((((q.length : Nat) : Int) : Int) < (1 : Int)))) (d := true) rfl (fun v w h => h), fun h w => optUndef h, fun zβ za zw zc => ?_⟩, ?_⟩
    · exact wp_move rfl (zc.kn.ev rfl) ⟨_, rfl, Below.refl _ _, optDef zβ rfl⟩
    refine ⟨⟨(true && !(decide ((((q.length : Nat) : Int) : Int) < (1 : Int)))), .no (c := (decide ((((q.length : Nat) : Int) : Int) < (1 : Int)))) (d := true) rfl (fun v w h => h), fun h w => optUndef h, fun zβ za zw zc => ?_⟩, ?_⟩
    · exact len_30 rfl ((show za.eval (.tmp 9) = za.tmps.getD 9 undef from rfl).trans (optVal (zc.dep 4 9 (by kernel_rfl)) rfl zβ)) ⟨_, rfl, Below.refl _ _, optDef zβ rfl⟩
    refine ⟨⟨(true && !(decide ((((q.length : Nat) : Int) : Int) < (1 : Int)))), .no (c := (decide ((((q.length : Nat) : Int) : Int) < (1 : Int)))) (d := true) rfl (fun v w h => h), fun h w => optUndef h, fun zβ za zw zc => ?_⟩, ?_⟩
    · exact gtr_3 rfl ((show za.eval (.tmp 10) = za.tmps.getD 10 undef from rfl).trans (optVal (zc.dep 5 10 (by kernel_rfl)) rfl zβ)) (zc.kn.ev rfl) ⟨_, rfl, Below.refl _ _, optDef zβ rfl⟩
    refine ⟨⟨true, .none rfl, fun h w => optUndef h, fun zβ za zw zc => ?_⟩, ?_⟩
    · exact wp_or rfl ((show za.eval (.tmp 8) = za.tmps.getD 8 undef from rfl).trans (optVal (zc.dep 3 8 (by kernel_rfl)) rfl rfl)) (fun hp => ((show za.eval (.tmp 11) = za.tmps.getD 11 undef from rfl).trans (optVal (zc.dep 6 11 (by kernel_rfl)) rfl (bMkN zβ hp)))) ⟨_, rfl, Below.refl _ _, optDef zβ rfl⟩
    exact trivial
  · intro za w1 zh hb2 zu
    have zh := zh.cons (d := 12) (v := .bool (((decide ((((q.length : Nat) : Int) : Int) < (1 : Int))) || (decide ((8 : Int) < (((q.length : Nat) : Int) : Int)))))) (optVal (zu 7 12 (by kernel_rfl)) rfl rfl)
    clear zu
    refine (show WE _ [(0, .slice a q.length c), (2, .pointer none), (3, .int .i64 0), (12, .bool (((decide ((((q.length : Nat) : Int) : Int) < (1 : Int))) || (decide ((8 : Int) < (((q.length : Nat) : Int) : Int))))))] w1 _ .normal from ?_) za (zh.sub ⟨rfl, rfl, rfl, rfl, trivial⟩)
    refine WE.next ?_
    refine WC.cond rfl (fun h3 => ?_) (fun h3 => ?_)
    · have h3 : ((((q.length : Nat) : Int) : Int) < (1 : Int)) ∨ ((8 : Int) < (((q.length : Nat) : Int) : Int)) := by simpa using h3
      have hbad : qsOk q = false := by unfold qsOk; rw [Bool.and_eq_false_iff, Bool.and_eq_false_iff, decide_eq_false_iff_not, decide_eq_false_iff_not]; omega
      refine WC.seq ?_
      refine WC.region ?_
      refine WL.val (.pointer none) rfl rfl rfl (fun za zC zh zk => wp_assign rfl (zh.ev rfl) zk) ?_
      refine WL.val (.int .i64 2) rfl rfl rfl (fun za zC zh zk => wp_assign rfl (zh.ev rfl) zk) ?_
      refine WL.nil (WE.sub (K' := [(0, .slice a q.length c), (2, .pointer none), (3, .int .i64 2), (12, .bool (((decide ((((q.length : Nat) : Int) : Int) < (1 : Int))) || (decide ((8 : Int) < (((q.length : Nat) : Int) : Int))))))]) ⟨rfl, rfl, rfl, rfl, trivial⟩ ?_)
      refine WE.next ?_
      refine WC.ret ?_
      refine WE.thenRet ?_
      refine WE.ret2 rfl rfl rfl ?_
      exact ⟨_, rfl, .inl ⟨hbad, rfl, hb2⟩⟩
    · have h3 : ¬ (((((q.length : Nat) : Int) : Int) < (1 : Int)) ∨ ((8 : Int) < (((q.length : Nat) : Int) : Int))) := by simpa using h3
      have hq1 : 1 ≤ q.length := by omega
      have hq8 : q.length ≤ 8 := by omega
      refine WC.skip ?_
      refine WE.next ?_
      refine WC.seq ?_
      refine WC.seq ?_
      refine WC.region ?_
      refine WL.val (.int .i64 0) rfl rfl rfl (fun za zC zh zk => wp_assign rfl (zh.ev rfl) zk) ?_
      refine WL.nil (WE.sub (K' := [(0, .slice a q.length c), (2, .pointer none), (3, .int .i64 0), (4, .int .i64 0), (12, .bool (((decide ((((q.length : Nat) : Int) : Int) < (1 : Int))) || (decide ((8 : Int) < (((q.length : Nat) : Int) : Int))))))]) ⟨rfl, rfl, rfl, rfl, rfl, trivial⟩ ?_)
      refine WE.next ?_
      refine WC.block ?_
      refine WC.loop (X := Nat) (fun y => q.length - y) (fun y => [(0, .slice a q.length c), (4, .int .i64 (((y : Nat) : Int))), (12, .bool (((decide ((((q.length : Nat) : Int) : Int) < (1 : Int))) || (decide ((8 : Int) < (((q.length : Nat) : Int) : Int))))))]) (fun y w4 => y ≤ q.length ∧ (∀ k, k < y → quOk (qget q k) = true) ∧ Below w.heap.size w w4) 0 ⟨rfl, rfl, rfl, trivial⟩ ?_ ?_
      · exact ⟨Nat.zero_le _, fun k hk => by omega, hb2⟩
      · rintro y w4 ⟨hk, hgs, hb5⟩
        refine WC.seq ?_
        refine WC.seq ?_
        refine WC.region ?_
        refine WL.val (.int .i64 (((y : Nat) : Int))) rfl rfl rfl (fun za zC zh zk => wp_move rfl (zh.ev rfl) zk) ?_
        refine WL.val (.slice a q.length c) rfl rfl rfl (fun za zC zh zk => wp_move rfl (zh.ev rfl) zk) ?_
        refine WL.val (.int .i64 (((q.length : Nat) : Int))) rfl rfl rfl (fun za zC zh zk => len_30 rfl (zh.ev rfl) zk) ?_
        refine WL.val (.bool ((decide ((((y : Nat) : Int) : Int) < (((q.length : Nat) : Int) : Int))))) rfl rfl rfl (fun za zC zh zk => lss_3 rfl (zh.ev rfl) (zh.ev rfl) zk) ?_
        refine WL.nil (WE.sub (K' := [(0, .slice a q.length c), (4, .int .i64 (((y : Nat) : Int))), (12, .bool (((decide ((((q.length : Nat) : Int) : Int) < (1 : Int))) || (decide ((8 : Int) < (((q.length : Nat) : Int) : Int)))))), (16, .bool ((decide ((((y : Nat) : Int) : Int) < (((q.length : Nat) : Int) : Int)))))]) ⟨rfl, rfl, rfl, rfl, trivial⟩ ?_)
        refine WE.next ?_
        refine WC.cond rfl (fun h6 => ?_) (fun h6 => ?_)
        · have h6 : (((y : Nat) : Int) : Int) < (((q.length : Nat) : Int) : Int) := by simpa using h6
          refine WC.skip ?_
          refine WE.next ?_
          refine WC.seq ?_
          refine WC.block ?_
          refine WC.seq ?_
          obtain ⟨b7, o8, ha9, hc10⟩ := hq
          refine WC.opt [(true, .val (.slice a q.length c)), (true, .val (.int .i64 (((y : Nat) : Int)))), (true, .val (.pointer (some ⟨b7, o8 + y * 2, none⟩))), (true, .val (.pointer (some ⟨b7, o8 + y * 2, none⟩))), (true, .val (.int .i64 ((qget q y).by_))), (true, .val (.bool ((decide (((qget q y).by_ : Int) < (0 : Int)))))), (true, .val (.bool ((decide (((qget q y).by_ : Int) < (0 : Int)))))), ((true && !(decide (((qget q y).by_ : Int) < (0 : Int)))), .val (.slice a q.length c)), ((true && !(decide (((qget q y).by_ : Int) < (0 : Int)))), .val (.int .i64 (((y : Nat) : Int)))), ((true && !(decide (((qget q y).by_ : Int) < (0 : Int)))), .val (.pointer (some ⟨b7, o8 + y * 2, none⟩))), ((true && !(decide (((qget q y).by_ : Int) < (0 : Int)))), .val (.pointer (some ⟨b7, o8 + y * 2, none⟩))), ((true && !(decide (((qget q y).by_ : Int) < (0 : Int)))), .val (.int .i64 ((qget q y).by_))), ((true && !(decide (((qget q y).by_ : Int) < (0 : Int)))), .val (.bool ((decide ((4 : Int) < ((qget q y).by_ : Int)))))), (true, .val (.bool (((decide (((qget q y).by_ : Int) < (0 : Int))) || (decide ((4 : Int) < ((qget q y).by_ : Int))))))), (true, .val (.bool (((decide (((qget q y).by_ : Int) < (0 : Int))) || (decide ((4 : Int) < ((qget q y).by_ : Int))))))), ((true && !((decide (((qget q y).by_ : Int) < (0 : Int))) || (decide ((4 : Int) < ((qget q y).by_ : Int))))), .val (.slice a q.length c)), ((true && !((decide (((qget q y).by_ : Int) < (0 : Int))) || (decide ((4 : Int) < ((qget q y).by_ : Int))))), .val (.int .i64 (((y : Nat) : Int)))), ((true && !((decide (((qget q y).by_ : Int) < (0 : Int))) || (decide ((4 : Int) < ((qget q y).by_ : Int))))), .val (.pointer (some ⟨b7, o8 + y * 2, none⟩))), ((true && !((decide (((qget q y).by_ : Int) < (0 : Int))) || (decide ((4 : Int) < ((qget q y).by_ : Int))))), .val (.pointer (some ⟨b7, o8 + y * 2 + 1, none⟩))), ((true && !((decide (((qget q y).by_ : Int) < (0 : Int))) || (decide ((4 : Int) < ((qget q y).by_ : Int))))), .val (.int .i64 ((qget q y).take))), ((true && !((decide (((qget q y).by_ : Int) < (0 : Int))) || (decide ((4 : Int) < ((qget q y).by_ : Int))))), .val (.bool ((decide (((qget q y).take : Int) < (1 : Int)))))), (true, .val (.bool ((((decide (((qget q y).by_ : Int) < (0 : Int))) || (decide ((4 : Int) < ((qget q y).by_ : Int)))) || (decide (((qget q y).take : Int) < (1 : Int))))))), (true, .val (.bool ((((decide (((qget q y).by_ : Int) < (0 : Int))) || (decide ((4 : Int) < ((qget q y).by_ : Int)))) || (decide (((qget q y).take : Int) < (1 : Int))))))), ((true && !(((decide (((qget q y).by_ : Int) < (0 : Int))) || (decide ((4 : Int) < ((qget q y).by_ : Int)))) || (decide (((qget q y).take : Int) < (1 : Int))))), .val (.slice a q.length c)), ((true && !(((decide (((qget q y).by_ : Int) < (0 : Int))) || (decide ((4 : Int) < ((qget q y).by_ : Int)))) || (decide (((qget q y).take : Int) < (1 : Int))))), .val (.int .i64 (((y : Nat) : Int)))), ((true && !(((decide (((qget q y).by_ : Int) < (0 : Int))) || (decide ((4 : Int) < ((qget q y).by_ : Int)))) || (decide (((qget q y).take : Int) < (1 : Int))))), .val (.pointer (some ⟨b7, o8 + y * 2, none⟩))), ((true && !(((decide (((qget q y).by_ : Int) < (0 : Int))) || (decide ((4 : Int) < ((qget q y).by_ : Int)))) || (decide (((qget q y).take : Int) < (1 : Int))))), .val (.pointer (some ⟨b7, o8 + y * 2 + 1, none⟩))), ((true && !(((decide (((qget q y).by_ : Int) < (0 : Int))) || (decide ((4 : Int) < ((qget q y).by_ : Int)))) || (decide (((qget q y).take : Int) < (1 : Int))))), .val (.int .i64 ((qget q y).take))), ((true && !(((decide (((qget q y).by_ : Int) < (0 : Int))) || (decide ((4 : Int) < ((qget q y).by_ : Int)))) || (decide (((qget q y).take : Int) < (1 : Int))))), .val (.bool ((decide ((1000 : Int) < ((qget q y).take : Int)))))), (true, .val (.bool (((((decide (((qget q y).by_ : Int) < (0 : Int))) || (decide ((4 : Int) < ((qget q y).by_ : Int)))) || (decide (((qget q y).take : Int) < (1 : Int)))) || (decide ((1000 : Int) < ((qget q y).take : Int)))))))] [(0, .slice a q.length c), (4, .int .i64 (((y : Nat) : Int))), (12, .bool (((decide ((((q.length : Nat) : Int) : Int) < (1 : Int))) || (decide ((8 : Int) < (((q.length : Nat) : Int) : Int)))))), (16, .bool ((decide ((((y : Nat) : Int) : Int) < (((q.length : Nat) : Int) : Int)))))] ⟨rfl, rfl, rfl, rfl, trivial⟩ (by kernel_rfl) (by kernel_rfl) (by kernel_rfl) ?_ ?_
          · refine ⟨⟨true, .none rfl, fun h w => optUndef h, fun zβ za zw zc => ?_⟩, ?_⟩
            · exact wp_move rfl (zc.kn.ev rfl) ⟨_, rfl, Below.refl _ _, optDef zβ rfl⟩
            refine ⟨⟨true, .none rfl, fun h w => optUndef h, fun zβ za zw zc => ?_⟩, ?_⟩
            · exact wp_move rfl (zc.kn.ev rfl) ⟨_, rfl, Below.refl _ _, optDef zβ rfl⟩
            refine ⟨⟨true, .none rfl, fun h w => optUndef h, fun zβ za zw zc => ?_⟩, ?_⟩
            · exact ix_30 (k := y) rfl ((show za.eval (.tmp 19) = za.tmps.getD 19 undef from rfl).trans (optVal (zc.dep 0 19 (by kernel_rfl)) rfl rfl)) (ha9 y (by first | omega | (simp; omega))) ((show za.eval (.tmp 20) = za.tmps.getD 20 undef from rfl).trans (optVal (zc.dep 1 20 (by kernel_rfl)) rfl rfl)) (by first | omega | (simp; omega)) ⟨_, rfl, Below.refl _ _, optDef zβ rfl⟩
            refine ⟨⟨true, .none rfl, fun h w => optUndef h, fun zβ za zw zc => ?_⟩, ?_⟩
            · exact fld_38_0 rfl ((show za.eval (.tmp 21) = za.tmps.getD 21 undef from rfl).trans (optVal (zc.dep 2 21 (by kernel_rfl)) rfl rfl)) ⟨_, rfl, Below.refl _ _, optDef zβ rfl⟩
            refine ⟨⟨true, .none rfl, fun h w => optUndef h, fun zβ za zw zc => ?_⟩, ?_⟩
            · exact ld_22 rfl ((show za.eval (.tmp 22) = za.tmps.getD 22 undef from rfl).trans (optVal (zc.dep 3 22 (by kernel_rfl)) rfl rfl)) (bkeeps (bstep hb5 zc.below) _ _ (hc10 y (by first | omega | (simp; omega))).1) ⟨_, rfl, Below.refl _ _, optDef zβ rfl⟩
            refine ⟨⟨true, .none rfl, fun h w => optUndef h, fun zβ za zw zc => ?_⟩, ?_⟩
            · exact lss_22 rfl ((show za.eval (.tmp 23) = za.tmps.getD 23 undef from rfl).trans (optVal (zc.dep 4 23 (by kernel_rfl)) rfl rfl)) (zc.kn.ev rfl) ⟨_, rfl, Below.refl _ _, optDef zβ rfl⟩
            refine ⟨⟨true, .none rfl, fun h w => optUndef h, fun zβ za zw zc => ?_⟩, ?_⟩
            · exact wp_move rfl ((show za.eval (.tmp 24) = za.tmps.getD 24 undef from rfl).trans (optVal (zc.dep 5 24 (by kernel_rfl)) rfl rfl)) ⟨_, rfl, Below.refl _ _, optDef zβ rfl⟩
            refine ⟨⟨(true && !(decide (((qget q y).by_ : Int) < (0 : Int)))), .no (c := (decide (((qget q y).by_ : Int) < (0 : Int)))) (d := true) rfl (fun v w h => h), fun h w => optUndef h, fun zβ za zw zc => ?_⟩, ?_⟩
            · exact wp_move rfl (zc.kn.ev rfl) ⟨_, rfl, Below.refl _ _, optDef zβ rfl⟩
            refine ⟨⟨(true && !(decide (((qget q y).by_ : Int) < (0 : Int)))), .no (c := (decide (((qget q y).by_ : Int) < (0 : Int)))) (d := true) rfl (fun v w h => h), fun h w => optUndef h, fun zβ za zw zc => ?_⟩, ?_⟩
            · exact wp_move rfl (zc.kn.ev rfl) ⟨_, rfl, Below.refl _ _, optDef zβ rfl⟩
            refine ⟨⟨(true && !(decide (((qget q y).by_ : Int) < (0 : Int)))), .no (c := (decide (((qget q y).by_ : Int) < (0 : Int)))) (d := true) rfl (fun v w h => h), fun h w => optUndef h, fun zβ za zw zc => ?_⟩, ?_⟩
            · exact ix_30 (k := y) rfl ((show za.eval (.tmp 26) = za.tmps.getD 26 undef from rfl).trans (optVal (zc.dep 7 26 (by kernel_rfl)) rfl zβ)) (ha9 y (by first | omega | (have zz := zβ; simp only [Bool.and_eq_true, Bool.or_eq_true, Bool.true_and, Bool.not_eq_true', Bool.or_eq_false_iff, Bool.and_eq_false_iff, beq_eq_false_iff_ne, ne_eq, beq_iff_eq, decide_eq_true_eq, decide_eq_false_iff_not, bne_iff_ne] at zz; omega))) ((show za.eval (.tmp 27) = za.tmps.getD 27 undef from rfl).trans (optVal (zc.dep 8 27 (by kernel_rfl)) rfl zβ)) (by first | omega | (have zz := zβ; simp only [Bool.and_eq_true, Bool.or_eq_true, Bool.true_and, Bool.not_eq_true', Bool.or_eq_false_iff, Bool.and_eq_false_iff, beq_eq_false_iff_ne, ne_eq, beq_iff_eq, decide_eq_true_eq, decide_eq_false_iff_not, bne_iff_ne] at zz; omega)) ⟨_, rfl, Below.refl _ _, optDef zβ rfl⟩
            refine ⟨⟨(true && !(decide (((qget q y).by_ : Int) < (0 : Int)))), .no (c := (decide (((qget q y).by_ : Int) < (0 : Int)))) (d := true) rfl (fun v w h => h), fun h w => optUndef h, fun zβ za zw zc => ?_⟩, ?_⟩
            · exact fld_38_0 rfl ((show za.eval (.tmp 28) = za.tmps.getD 28 undef from rfl).trans (optVal (zc.dep 9 28 (by kernel_rfl)) rfl zβ)) ⟨_, rfl, Below.refl _ _, optDef zβ rfl⟩
            refine ⟨⟨(true && !(decide (((qget q y).by_ : Int) < (0 : Int)))), .no (c := (decide (((qget q y).by_ : Int) < (0 : Int)))) (d := true) rfl (fun v w h => h), fun h w => optUndef h, fun zβ za zw zc => ?_⟩, ?_⟩
            · exact ld_22 rfl ((show za.eval (.tmp 29) = za.tmps.getD 29 undef from rfl).trans (optVal (zc.dep 10 29 (by kernel_rfl)) rfl zβ)) (bkeeps (bstep hb5 zc.below) _ _ (hc10 y (by first | omega | (have zz := zβ; simp only [Bool.and_eq_true, Bool.or_eq_true, Bool.true_and, Bool.not_eq_true', Bool.or_eq_false_iff, Bool.and_eq_false_iff, beq_eq_false_iff_ne, ne_eq, beq_iff_eq, decide_eq_true_eq, decide_eq_false_iff_not, bne_iff_ne] at zz; omega))).1) ⟨_, rfl, Below.refl _ _, optDef zβ rfl⟩
            refine ⟨⟨(true && !(decide (((qget q y).by_ : Int) < (0 : Int)))), .no (c := (decide (((qget q y).by_ : Int) < (0 : Int)))) (d := true) rfl (fun v w h => h), fun h w => optUndef h, fun zβ za zw zc => ?_⟩, ?_⟩
            · exact gtr_22 rfl ((show za.eval (.tmp 30) = za.tmps.getD 30 undef from rfl).trans (optVal (zc.dep 11 30 (by kernel_rfl)) rfl zβ)) (zc.kn.ev rfl) ⟨_, rfl, Below.refl _ _, optDef zβ rfl⟩
            refine ⟨⟨true, .none rfl, fun h w => optUndef h, fun zβ za zw zc => ?_⟩, ?_⟩
            · exact wp_or rfl ((show za.eval (.tmp 25) = za.tmps.getD 25 undef from rfl).trans (optVal (zc.dep 6 25 (by kernel_rfl)) rfl rfl)) (fun hp => ((show za.eval (.tmp 31) = za.tmps.getD 31 undef from rfl).trans (optVal (zc.dep 12 31 (by kernel_rfl)) rfl (bMkN zβ hp)))) ⟨_, rfl, Below.refl _ _, optDef zβ rfl⟩
            refine ⟨⟨true, .none rfl, fun h w => optUndef h, fun zβ za zw zc => ?_⟩, ?_⟩
            · exact wp_move rfl ((show za.eval (.tmp 32) = za.tmps.getD 32 undef from rfl).trans (optVal (zc.dep 13 32 (by kernel_rfl)) rfl rfl)) ⟨_, rfl, Below.refl _ _, optDef zβ rfl⟩
            refine ⟨⟨(true && !((decide (((qget q y).by_ : Int) < (0 : Int))) || (decide ((4 : Int) < ((qget q y).by_ : Int))))), .no (c := ((decide (((qget q y).by_ : Int) < (0 : Int))) || (decide ((4 : Int) < ((qget q y).by_ : Int))))) (d := true) rfl (fun v w h => h), fun h w => optUndef h, fun zβ za zw zc => ?_⟩, ?_⟩
            · exact wp_move rfl (zc.kn.ev rfl) ⟨_, rfl, Below.refl _ _, optDef zβ rfl⟩
            refine ⟨⟨(true && !((decide (((qget q y).by_ : Int) < (0 : Int))) || (decide ((4 : Int) < ((qget q y).by_ : Int))))), .no (c := ((decide (((qget q y).by_ : Int) < (0 : Int))) || (decide ((4 : Int) < ((qget q y).by_ : Int))))) (d := true) rfl (fun v w h => h), fun h w => optUndef h, fun zβ za zw zc => ?_⟩, ?_⟩
            · exact wp_move rfl (zc.kn.ev rfl) ⟨_, rfl, Below.refl _ _, optDef zβ rfl⟩
            refine ⟨⟨(true && !((decide (((qget q y).by_ : Int) < (0 : Int))) || (decide ((4 : Int) < ((qget q y).by_ : Int))))), .no (c := ((decide (((qget q y).by_ : Int) < (0 : Int))) || (decide ((4 : Int) < ((qget q y).by_ : Int))))) (d := true) rfl (fun v w h => h), fun h w => optUndef h, fun zβ za zw zc => ?_⟩, ?_⟩
            · exact ix_30 (k := y) rfl ((show za.eval (.tmp 34) = za.tmps.getD 34 undef from rfl).trans (optVal (zc.dep 15 34 (by kernel_rfl)) rfl zβ)) (ha9 y (by first | omega | (have zz := zβ; simp only [Bool.and_eq_true, Bool.or_eq_true, Bool.true_and, Bool.not_eq_true', Bool.or_eq_false_iff, Bool.and_eq_false_iff, beq_eq_false_iff_ne, ne_eq, beq_iff_eq, decide_eq_true_eq, decide_eq_false_iff_not, bne_iff_ne] at zz; omega))) ((show za.eval (.tmp 35) = za.tmps.getD 35 undef from rfl).trans (optVal (zc.dep 16 35 (by kernel_rfl)) rfl zβ)) (by first | omega | (have zz := zβ; simp only [Bool.and_eq_true, Bool.or_eq_true, Bool.true_and, Bool.not_eq_true', Bool.or_eq_false_iff, Bool.and_eq_false_iff, beq_eq_false_iff_ne, ne_eq, beq_iff_eq, decide_eq_true_eq, decide_eq_false_iff_not, bne_iff_ne] at zz; omega)) ⟨_, rfl, Below.refl _ _, optDef zβ rfl⟩
            refine ⟨⟨(true && !((decide (((qget q y).by_ : Int) < (0 : Int))) || (decide ((4 : Int) < ((qget q y).by_ : Int))))), .no (c := ((decide (((qget q y).by_ : Int) < (0 : Int))) || (decide ((4 : Int) < ((qget q y).by_ : Int))))) (d := true) rfl (fun v w h => h), fun h w => optUndef h, fun zβ za zw zc => ?_⟩, ?_⟩
            · exact fld_38_1 rfl ((show za.eval (.tmp 36) = za.tmps.getD 36 undef from rfl).trans (optVal (zc.dep 17 36 (by kernel_rfl)) rfl zβ)) ⟨_, rfl, Below.refl _ _, optDef zβ rfl⟩
            refine ⟨⟨(true && !((decide (((qget q y).by_ : Int) < (0 : Int))) || (decide ((4 : Int) < ((qget q y).by_ : Int))))), .no (c := ((decide (((qget q y).by_ : Int) < (0 : Int))) || (decide ((4 : Int) < ((qget q y).by_ : Int))))) (d := true) rfl (fun v w h => h), fun h w => optUndef h, fun zβ za zw zc => ?_⟩, ?_⟩
            · exact ld_3 rfl ((show za.eval (.tmp 37) = za.tmps.getD 37 undef from rfl).trans (optVal (zc.dep 18 37 (by kernel_rfl)) rfl zβ)) (bkeeps (bstep hb5 zc.below) _ _ (hc10 y (by first | omega | (have zz := zβ; simp only [Bool.and_eq_true, Bool.or_eq_true, Bool.true_and, Bool.not_eq_true', Bool.or_eq_false_iff, Bool.and_eq_false_iff, beq_eq_false_iff_ne, ne_eq, beq_iff_eq, decide_eq_true_eq, decide_eq_false_iff_not, bne_iff_ne] at zz; omega))).2) ⟨_, rfl, Below.refl _ _, optDef zβ rfl⟩
            refine ⟨⟨(true && !((decide (((qget q y).by_ : Int) < (0 : Int))) || (decide ((4 : Int) < ((qget q y).by_ : Int))))), .no (c := ((decide (((qget q y).by_ : Int) < (0 : Int))) || (decide ((4 : Int) < ((qget q y).by_ : Int))))) (d := true) rfl (fun v w h => h), fun h w => optUndef h, fun zβ za zw zc => ?_⟩, ?_⟩
            · exact lss_3 rfl ((show za.eval (.tmp 38) = za.tmps.getD 38 undef from rfl).trans (optVal (zc.dep 19 38 (by kernel_rfl)) rfl zβ)) (zc.kn.ev rfl) ⟨_, rfl, Below.refl _ _, optDef zβ rfl⟩
            refine ⟨⟨true, .none rfl, fun h w => optUndef h, fun zβ za zw zc => ?_⟩, ?_⟩
            · exact wp_or rfl ((show za.eval (.tmp 33) = za.tmps.getD 33 undef from rfl).trans (optVal (zc.dep 14 33 (by kernel_rfl)) rfl rfl)) (fun hp => ((show za.eval (.tmp 39) = za.tmps.getD 39 undef from rfl).trans (optVal (zc.dep 20 39 (by kernel_rfl)) rfl (bMkN zβ hp)))) ⟨_, rfl, Below.refl _ _, optDef zβ rfl⟩
            refine ⟨⟨true, .none rfl, fun h w => optUndef h, fun zβ za zw zc => ?_⟩, ?_⟩
            · exact wp_move rfl ((show za.eval (.tmp 40) = za.tmps.getD 40 undef from rfl).trans (optVal (zc.dep 21 40 (by kernel_rfl)) rfl rfl)) ⟨_, rfl, Below.refl _ _, optDef zβ rfl⟩
            refine ⟨⟨(true && !(((decide (((qget q y).by_ : Int) < (0 : Int))) || (decide ((4 : Int) < ((qget q y).by_ : Int)))) || (decide (((qget q y).take : Int) < (1 : Int))))), .no (c := (((decide (((qget q y).by_ : Int) < (0 : Int))) || (decide ((4 : Int) < ((qget q y).by_ : Int)))) || (decide (((qget q y).take : Int) < (1 : Int))))) (d := true) rfl (fun v w h => h), fun h w => optUndef h, fun zβ za zw zc => ?_⟩, ?_⟩
            · exact wp_move rfl (zc.kn.ev rfl) ⟨_, rfl, Below.refl _ _, optDef zβ rfl⟩
            refine ⟨⟨(true && !(((decide (((qget q y).by_ : Int) < (0 : Int))) || (decide ((4 : Int) < ((qget q y).by_ : Int)))) || (decide (((qget q y).take : Int) < (1 : Int))))), .no (c := (((decide (((qget q y).by_ : Int) < (0 : Int))) || (decide ((4 : Int) < ((qget q y).by_ : Int)))) || (decide (((qget q y).take : Int) < (1 : Int))))) (d := true) rfl (fun v w h => h), fun h w => optUndef h, fun zβ za zw zc => ?_⟩, ?_⟩
            · exact wp_move rfl (zc.kn.ev rfl) ⟨_, rfl, Below.refl _ _, optDef zβ rfl⟩
            refine ⟨⟨(true && !(((decide (((qget q y).by_ : Int) < (0 : Int))) || (decide ((4 : Int) < ((qget q y).by_ : Int)))) || (decide (((qget q y).take : Int) < (1 : Int))))), .no (c := (((decide (((qget q y).by_ : Int) < (0 : Int))) || (decide ((4 : Int) < ((qget q y).by_ : Int)))) || (decide (((qget q y).take : Int) < (1 : Int))))) (d := true) rfl (fun v w h => h), fun h w => optUndef h, fun zβ za zw zc => ?_⟩, ?_⟩
            · exact ix_30 (k := y) rfl ((show za.eval (.tmp 42) = za.tmps.getD 42 undef from rfl).trans (optVal (zc.dep 23 42 (by kernel_rfl)) rfl zβ)) (ha9 y (by first | omega | (have zz := zβ; simp only [Bool.and_eq_true, Bool.or_eq_true, Bool.true_and, Bool.not_eq_true', Bool.or_eq_false_iff, Bool.and_eq_false_iff, beq_eq_false_iff_ne, ne_eq, beq_iff_eq, decide_eq_true_eq, decide_eq_false_iff_not, bne_iff_ne] at zz; omega))) ((show za.eval (.tmp 43) = za.tmps.getD 43 undef from rfl).trans (optVal (zc.dep 24 43 (by kernel_rfl)) rfl zβ)) (by first | omega | (have zz := zβ; simp only [Bool.and_eq_true, Bool.or_eq_true, Bool.true_and, Bool.not_eq_true', Bool.or_eq_false_iff, Bool.and_eq_false_iff, beq_eq_false_iff_ne, ne_eq, beq_iff_eq, decide_eq_true_eq, decide_eq_false_iff_not, bne_iff_ne] at zz; omega)) ⟨_, rfl, Below.refl _ _, optDef zβ rfl⟩
            refine ⟨⟨(true && !(((decide (((qget q y).by_ : Int) < (0 : Int))) || (decide ((4 : Int) < ((qget q y).by_ : Int)))) || (decide (((qget q y).take : Int) < (1 : Int))))), .no (c := (((decide (((qget q y).by_ : Int) < (0 : Int))) || (decide ((4 : Int) < ((qget q y).by_ : Int)))) || (decide (((qget q y).take : Int) < (1 : Int))))) (d := true) rfl (fun v w h => h), fun h w => optUndef h, fun zβ za zw zc => ?_⟩, ?_⟩
            · exact fld_38_1 rfl ((show za.eval (.tmp 44) = za.tmps.getD 44 undef from rfl).trans (optVal (zc.dep 25 44 (by kernel_rfl)) rfl zβ)) ⟨_, rfl, Below.refl _ _, optDef zβ rfl⟩
            refine ⟨⟨(true && !(((decide (((qget q y).by_ : Int) < (0 : Int))) || (decide ((4 : Int) < ((qget q y).by_ : Int)))) || (decide (((qget q y).take : Int) < (1 : Int))))), .no (c := (((decide (((qget q y).by_ : Int) < (0 : Int))) || (decide ((4 : Int) < ((qget q y).by_ : Int)))) || (decide (((qget q y).take : Int) < (1 : Int))))) (d := true) rfl (fun v w h => h), fun h w => optUndef h, fun zβ za zw zc => ?_⟩, ?_⟩
            · exact ld_3 rfl ((show za.eval (.tmp 45) = za.tmps.getD 45 undef from rfl).trans (optVal (zc.dep 26 45 (by kernel_rfl)) rfl zβ)) (bkeeps (bstep hb5 zc.below) _ _ (hc10 y (by first | omega | (have zz := zβ; simp only [Bool.and_eq_true, Bool.or_eq_true, Bool.true_and, Bool.not_eq_true', Bool.or_eq_false_iff, Bool.and_eq_false_iff, beq_eq_false_iff_ne, ne_eq, beq_iff_eq, decide_eq_true_eq, decide_eq_false_iff_not, bne_iff_ne] at zz; omega))).2) ⟨_, rfl, Below.refl _ _, optDef zβ rfl⟩
            refine ⟨⟨(true && !(((decide (((qget q y).by_ : Int) < (0 : Int))) || (decide ((4 : Int) < ((qget q y).by_ : Int)))) || (decide (((qget q y).take : Int) < (1 : Int))))), .no (c := (((decide (((qget q y).by_ : Int) < (0 : Int))) || (decide ((4 : Int) < ((qget q y).by_ : Int)))) || (decide (((qget q y).take : Int) < (1 : Int))))) (d := true) rfl (fun v w h => h), fun h w => optUndef h, fun zβ za zw zc => ?_⟩, ?_⟩
            · exact gtr_3 rfl ((show za.eval (.tmp 46) = za.tmps.getD 46 undef from rfl).trans (optVal (zc.dep 27 46 (by kernel_rfl)) rfl zβ)) (zc.kn.ev rfl) ⟨_, rfl, Below.refl _ _, optDef zβ rfl⟩
            refine ⟨⟨true, .none rfl, fun h w => optUndef h, fun zβ za zw zc => ?_⟩, ?_⟩
            · exact wp_or rfl ((show za.eval (.tmp 41) = za.tmps.getD 41 undef from rfl).trans (optVal (zc.dep 22 41 (by kernel_rfl)) rfl rfl)) (fun hp => ((show za.eval (.tmp 47) = za.tmps.getD 47 undef from rfl).trans (optVal (zc.dep 28 47 (by kernel_rfl)) rfl (bMkN zβ hp)))) ⟨_, rfl, Below.refl _ _, optDef zβ rfl⟩
            exact trivial
          · intro za w11 zh hb12 zu
            have zh := zh.cons (d := 48) (v := .bool (((((decide (((qget q y).by_ : Int) < (0 : Int))) || (decide ((4 : Int) < ((qget q y).by_ : Int)))) || (decide (((qget q y).take : Int) < (1 : Int)))) || (decide ((1000 : Int) < ((qget q y).take : Int)))))) (optVal (zu 29 48 (by kernel_rfl)) rfl rfl)
            clear zu
            refine (show WE _ [(0, .slice a q.length c), (4, .int .i64 (((y : Nat) : Int))), (12, .bool (((decide ((((q.length : Nat) : Int) : Int) < (1 : Int))) || (decide ((8 : Int) < (((q.length : Nat) : Int) : Int)))))), (16, .bool ((decide ((((y : Nat) : Int) : Int) < (((q.length : Nat) : Int) : Int))))), (48, .bool (((((decide (((qget q y).by_ : Int) < (0 : Int))) || (decide ((4 : Int) < ((qget q y).by_ : Int)))) || (decide (((qget q y).take : Int) < (1 : Int)))) || (decide ((1000 : Int) < ((qget q y).take : Int))))))] w11 _ .normal from ?_) za (zh.sub ⟨rfl, rfl, rfl, rfl, rfl, trivial⟩)
            refine WE.next ?_
            refine WC.cond rfl (fun h13 => ?_) (fun h13 => ?_)
            · have h13 : (((((qget q y).by_ : Int) < (0 : Int)) ∨ ((4 : Int) < ((qget q y).by_ : Int))) ∨ (((qget q y).take : Int) < (1 : Int))) ∨ ((1000 : Int) < ((qget q y).take : Int)) := by simpa using h13
              have hbad : qsOk q = false := qsOk_bad (k := y) (by omega) (by unfold quOk; simp only [Bool.not_eq_false', Bool.or_eq_true, decide_eq_true_eq]; omega)
              refine WC.seq ?_
              refine WC.region ?_
              refine WL.val (.pointer none) rfl rfl rfl (fun za zC zh zk => wp_assign rfl (zh.ev rfl) zk) ?_
              refine WL.val (.int .i64 2) rfl rfl rfl (fun za zC zh zk => wp_assign rfl (zh.ev rfl) zk) ?_
              refine WL.nil (WE.sub (K' := [(0, .slice a q.length c), (2, .pointer none), (3, .int .i64 2), (4, .int .i64 (((y : Nat) : Int))), (12, .bool (((decide ((((q.length : Nat) : Int) : Int) < (1 : Int))) || (decide ((8 : Int) < (((q.length : Nat) : Int) : Int)))))), (16, .bool ((decide ((((y : Nat) : Int) : Int) < (((q.length : Nat) : Int) : Int))))), (48, .bool (((((decide (((qget q y).by_ : Int) < (0 : Int))) || (decide ((4 : Int) < ((qget q y).by_ : Int)))) || (decide (((qget q y).take : Int) < (1 : Int)))) || (decide ((1000 : Int) < ((qget q y).take : Int))))))]) ⟨rfl, rfl, rfl, rfl, rfl, rfl, rfl, trivial⟩ ?_)
              refine WE.next ?_
              refine WC.ret ?_
              refine WE.blockRet ?_
              refine WE.thenRet ?_
              refine WE.thenRet ?_
              refine WE.blockRet ?_
              refine WE.thenRet ?_
              refine WE.ret2 rfl rfl rfl ?_
              have hb14 : Below w.heap.size w w11 := (bstep hb5 hb12)
              exact ⟨_, rfl, .inl ⟨hbad, rfl, hb14⟩⟩
            · have h13 : ¬ ((((((qget q y).by_ : Int) < (0 : Int)) ∨ ((4 : Int) < ((qget q y).by_ : Int))) ∨ (((qget q y).take : Int) < (1 : Int))) ∨ ((1000 : Int) < ((qget q y).take : Int))) := by simpa using h13
              have hgood : quOk (qget q y) = true := by unfold quOk; simp only [Bool.not_eq_true', Bool.or_eq_false_iff, decide_eq_false_iff_not]; omega
              refine WC.skip ?_
              refine WE.blockNormal ?_
              refine WE.next ?_
              refine WC.region ?_
              refine WL.val (.int .i64 (((y : Nat) : Int))) rfl rfl rfl (fun za zC zh zk => wp_move rfl (zh.ev rfl) zk) ?_
              refine WL.val (.int .i64 ((((y + 1) : Nat) : Int))) rfl rfl rfl (fun za zC zh zk => addb_3 rfl (zh.ev rfl) (zh.ev rfl) (wrap_eq (by omega) (by omega) (by omega)) zk) ?_
              refine WL.val (.int .i64 ((((y + 1) : Nat) : Int))) rfl rfl rfl (fun za zC zh zk => wp_assign rfl (zh.ev rfl) zk) ?_
              refine WL.nil (WE.sub (K' := [(0, .slice a q.length c), (4, .int .i64 ((((y + 1) : Nat) : Int))), (12, .bool (((decide ((((q.length : Nat) : Int) : Int) < (1 : Int))) || (decide ((8 : Int) < (((q.length : Nat) : Int) : Int)))))), (16, .bool ((decide ((((y : Nat) : Int) : Int) < (((q.length : Nat) : Int) : Int))))), (48, .bool (((((decide (((qget q y).by_ : Int) < (0 : Int))) || (decide ((4 : Int) < ((qget q y).by_ : Int)))) || (decide (((qget q y).take : Int) < (1 : Int)))) || (decide ((1000 : Int) < ((qget q y).take : Int))))))]) ⟨rfl, rfl, rfl, rfl, rfl, trivial⟩ ?_)
              refine WE.round (y + 1) ⟨rfl, rfl, rfl, trivial⟩ ?_ ?_
              · have hb15 : Below w.heap.size w w11 := (bstep hb5 hb12)
                exact ⟨by omega, fun k hk2 => by
                    by_cases e : k = y
                    · rw [e]; exact hgood
                    · exact hgs k (by omega), hb15⟩
              · omega
        · have h6 : ¬ ((((y : Nat) : Int) : Int) < (((q.length : Nat) : Int) : Int)) := by simpa using h6
          refine WC.exit ?_
          refine WE.thenExit ?_
          refine WE.thenExit ?_
          refine WE.blockIs rfl ?_
          refine WE.next ?_
          refine WC.seq ?_
          refine WC.region ?_
          refine WL.val (.slice a q.length c) rfl rfl rfl (fun za zC zh zk => wp_move rfl (zh.ev rfl) zk) ?_
          refine WL.val (.agg #[.slice a q.length c, .slice none 0 0, .int .i64 0, .int .i64 0]) rfl rfl rfl (fun za zC zh zk => build_53_0 rfl (zh.ev rfl) zk) ?_
          refine WL.step (post := NewBlk w4 53 #[.slice a q.length c, .slice none 0 0, .int .i64 0, .int .i64 0]) rfl rfl rfl (fun za zC zh zk => box_53 rfl (zh.ev rfl) (zk _ _ (newBlk _ _ _))) ?_
          rintro _ w16 ⟨g17, rfl, hg18, hB19, hb20, hz21⟩
          have hl22 : w.heap.size ≤ g17 := by have z2 := (hb5).size; omega
          refine WL.val (.pointer (some ⟨g17, 0, none⟩)) rfl rfl rfl (fun za zC zh zk => wp_assign rfl (zh.ev rfl) zk) ?_
          refine WL.val (.int .i64 0) rfl rfl rfl (fun za zC zh zk => wp_assign rfl (zh.ev rfl) zk) ?_
          refine WL.nil (WE.sub (K' := [(0, .slice a q.length c), (2, .pointer (some ⟨g17, 0, none⟩)), (3, .int .i64 0), (4, .int .i64 (((y : Nat) : Int))), (12, .bool (((decide ((((q.length : Nat) : Int) : Int) < (1 : Int))) || (decide ((8 : Int) < (((q.length : Nat) : Int) : Int)))))), (16, .bool ((decide ((((y : Nat) : Int) : Int) < (((q.length : Nat) : Int) : Int)))))]) ⟨rfl, rfl, rfl, rfl, rfl, rfl, trivial⟩ ?_)
          refine WE.next ?_
          refine WC.ret ?_
          refine WE.ret2 rfl rfl rfl ?_
          have hb23 : Below w.heap.size w w16 := (bstep hb5 hb20)
          exact ⟨_, rfl, .inr ⟨qsOk_good hq1 hq8 (fun k hk2 => hgs k (by omega)), ⟨g17, rfl, ⟨⟨none, 0, hB19, own_nil⟩, by (try dsimp only); omega⟩⟩, hb23⟩⟩

set_option maxRecDepth 100000 in
theorem radd_any (n : Int) (l : List Li) (a : Option Addr) (c : Nat) (goal : Bool) (z : Nat) (Y : Nat → Prop) (q : List Qu) (qa : Option Addr) (qc : Nat) (L : List RI) (at_ dn : Nat) (w : World) (hR0 : RefIs w z Y q qa qc L at_ dn) (hL : L.length ≤ 1048576) : Calls Try.prog 15 #[.pointer (some ⟨z, 0, none⟩), .int .i64 n, .slice a l.length c, .bool goal] w (Ret fun v' w' => ((n < 0 ∨ ∃ k, k < L.length ∧ (rget L k).id = n) ∧ v' = .int .i64 2 ∧ Below w.heap.size w w') ∨ (0 ≤ n ∧ (∀ k, k < L.length → (rget L k).id ≠ n) ∧ v' = .int .i64 0 ∧ RefIs w' z (fun b => Y b ∨ w.heap.size ≤ b) q qa qc (L ++ [⟨n, l, a, c, goal⟩]) at_ dn ∧ Chg Y w w')) := by
  obtain ⟨la, lc, hB, hO⟩ := hR0.ex
  obtain ⟨rb, ro, hra, hrc⟩ := hO.rcells
  have hyz := hR0.yz
  have hzl := hR0.lt
  have hC0 := Chg.refl Y w
  refine Calls.walk (l := [.pointer (some ⟨z, 0, none⟩), .int .i64 n, .slice a l.length c, .bool goal]) Try.func15 rfl (by kernel_rfl) ?_
  refine WC.sub (K' := [(0, .pointer (some ⟨z, 0, none⟩)), (1, .int .i64 n), (2, .slice a l.length c), (3, .bool goal)]) ⟨rfl, rfl, rfl, rfl, trivial⟩ ?_
  refine WC.seq ?_
  refine WC.region ?_
  refine WL.val (.int .i64 0) rfl rfl rfl (fun za zC zh zk => wp_assign rfl (zh.ev rfl) zk) ?_
  refine WL.nil (WE.sub (K' := [(0, .pointer (some ⟨z, 0, none⟩)), (1, .int .i64 n), (2, .slice a l.length c), (3, .bool goal), (8, .int .i64 0)]) ⟨rfl, rfl, rfl, rfl, rfl, trivial⟩ ?_)
  refine WE.next ?_
  refine WC.seq ?_
  refine WC.seq ?_
  refine WC.region ?_
  refine WL.val (.int .i64 n) rfl rfl rfl (fun za zC zh zk => wp_move rfl (zh.ev rfl) zk) ?_
  refine WL.val (.bool ((decide ((n : Int) < (0 : Int))))) rfl rfl rfl (fun za zC zh zk => lss_3 rfl (zh.ev rfl) (zh.ev rfl) zk) ?_
  refine WL.nil (WE.sub (K' := [(0, .pointer (some ⟨z, 0, none⟩)), (1, .int .i64 n), (2, .slice a l.length c), (3, .bool goal), (8, .int .i64 0), (11, .bool ((decide ((n : Int) < (0 : Int)))))]) ⟨rfl, rfl, rfl, rfl, rfl, rfl, trivial⟩ ?_)
  refine WE.next ?_
  refine WC.cond rfl (fun h1 => ?_) (fun h1 => ?_)
  · have h1 : (n : Int) < (0 : Int) := by simpa using h1
    refine WC.seq ?_
    refine WC.region ?_
    refine WL.val (.int .i64 2) rfl rfl rfl (fun za zC zh zk => wp_assign rfl (zh.ev rfl) zk) ?_
    refine WL.nil (WE.sub (K' := [(0, .pointer (some ⟨z, 0, none⟩)), (1, .int .i64 n), (2, .slice a l.length c), (3, .bool goal), (8, .int .i64 2), (11, .bool ((decide ((n : Int) < (0 : Int)))))]) ⟨rfl, rfl, rfl, rfl, rfl, rfl, trivial⟩ ?_)
    refine WE.next ?_
    refine WC.ret ?_
    refine WE.thenRet ?_
    refine WE.ret1 rfl rfl ?_
    exact ⟨_, rfl, .inl ⟨.inl h1, rfl, (Below.refl _ _)⟩⟩
  · have h1 : ¬ ((n : Int) < (0 : Int)) := by simpa using h1
    refine WC.skip ?_
    refine WE.next ?_
    refine WC.seq ?_
    refine WC.seq ?_
    refine WC.region ?_
    refine WL.val (.int .i64 0) rfl rfl rfl (fun za zC zh zk => wp_assign rfl (zh.ev rfl) zk) ?_
    refine WL.nil (WE.sub (K' := [(0, .pointer (some ⟨z, 0, none⟩)), (1, .int .i64 n), (2, .slice a l.length c), (3, .bool goal), (8, .int .i64 0), (9, .int .i64 0), (11, .bool ((decide ((n : Int) < (0 : Int)))))]) ⟨rfl, rfl, rfl, rfl, rfl, rfl, rfl, trivial⟩ ?_)
    refine WE.next ?_
    refine WC.block ?_
    refine WC.loop (X := Nat) (fun y => L.length - y) (fun y => [(0, .pointer (some ⟨z, 0, none⟩)), (1, .int .i64 n), (2, .slice a l.length c), (3, .bool goal), (9, .int .i64 (((y : Nat) : Int))), (11, .bool ((decide ((n : Int) < (0 : Int)))))]) (fun y w2 => y ≤ L.length ∧ (∀ k, k < y → (rget L k).id ≠ n) ∧ Below w.heap.size w w2 ∧ Blk w2 z 53 #[.slice qa q.length qc, .slice la L.length lc, .int .i64 (((at_ : Nat) : Int)), .int .i64 (((dn : Nat) : Int))]) 0 ⟨rfl, rfl, rfl, rfl, rfl, rfl, trivial⟩ ?_ ?_
    · exact ⟨Nat.zero_le _, fun k hk => by omega, (Below.refl _ _), hB⟩
    · rintro y w2 ⟨hk, hgs, hb3, hB4⟩
      refine WC.seq ?_
      refine WC.seq ?_
      refine WC.region ?_
      refine WL.val (.int .i64 (((y : Nat) : Int))) rfl rfl rfl (fun za zC zh zk => wp_move rfl (zh.ev rfl) zk) ?_
      refine WL.val (.pointer (some ⟨z, 0, none⟩)) rfl rfl rfl (fun za zC zh zk => wp_move rfl (zh.ev rfl) zk) ?_
      refine WL.val (.pointer (some ⟨z, 0, none⟩)) rfl rfl rfl (fun za zC zh zk => nilCheck_ rfl (zh.ev rfl) zk) ?_
      refine WL.val (.pointer (some ⟨z, 1, none⟩)) rfl rfl rfl (fun za zC zh zk => fld_53_1 rfl (zh.ev rfl) zk) ?_
      refine WL.val (.slice la L.length lc) rfl rfl rfl (fun za zC zh zk => ld_51 rfl (zh.ev rfl) ((hB4.cell 1).trans rfl) zk) ?_
      refine WL.val (.int .i64 (((L.length : Nat) : Int))) rfl rfl rfl (fun za zC zh zk => len_51 rfl (zh.ev rfl) zk) ?_
      refine WL.val (.bool ((decide ((((y : Nat) : Int) : Int) < (((L.length : Nat) : Int) : Int))))) rfl rfl rfl (fun za zC zh zk => lss_3 rfl (zh.ev rfl) (zh.ev rfl) zk) ?_
      refine WL.nil (WE.sub (K' := [(0, .pointer (some ⟨z, 0, none⟩)), (1, .int .i64 n), (2, .slice a l.length c), (3, .bool goal), (9, .int .i64 (((y : Nat) : Int))), (11, .bool ((decide ((n : Int) < (0 : Int))))), (18, .bool ((decide ((((y : Nat) : Int) : Int) < (((L.length : Nat) : Int) : Int)))))]) ⟨rfl, rfl, rfl, rfl, rfl, rfl, rfl, trivial⟩ ?_)
      refine WE.next ?_
      refine WC.cond rfl (fun h5 => ?_) (fun h5 => ?_)
      · have h5 : (((y : Nat) : Int) : Int) < (((L.length : Nat) : Int) : Int) := by simpa using h5
        refine WC.skip ?_
        refine WE.next ?_
        refine WC.seq ?_
        refine WC.block ?_
        refine WC.seq ?_
        refine WC.region ?_
        refine WL.val (.pointer (some ⟨z, 0, none⟩)) rfl rfl rfl (fun za zC zh zk => wp_move rfl (zh.ev rfl) zk) ?_
        refine WL.val (.pointer (some ⟨z, 0, none⟩)) rfl rfl rfl (fun za zC zh zk => nilCheck_ rfl (zh.ev rfl) zk) ?_
        refine WL.val (.pointer (some ⟨z, 1, none⟩)) rfl rfl rfl (fun za zC zh zk => fld_53_1 rfl (zh.ev rfl) zk) ?_
        refine WL.val (.slice la L.length lc) rfl rfl rfl (fun za zC zh zk => ld_51 rfl (zh.ev rfl) ((hB4.cell 1).trans rfl) zk) ?_
        refine WL.val (.int .i64 (((y : Nat) : Int))) rfl rfl rfl (fun za zC zh zk => wp_move rfl (zh.ev rfl) zk) ?_
        refine WL.val (.pointer (some ⟨rb, ro + y * 3, none⟩)) rfl rfl rfl (fun za zC zh zk => ix_51 (k := y) rfl (zh.ev rfl) (hra y (by first | omega | (simp; omega))) (zh.ev rfl) (by first | omega | (simp; omega)) zk) ?_
        refine WL.val (.pointer (some ⟨rb, ro + y * 3, none⟩)) rfl rfl rfl (fun za zC zh zk => fld_86_0 rfl (zh.ev rfl) zk) ?_
        refine WL.val (.int .i64 ((rget L y).id)) rfl rfl rfl (fun za zC zh zk => ld_3 rfl (zh.ev rfl) (bkeeps hb3 _ _ (hrc y (by first | omega | (simp; omega))).1) zk) ?_
        refine WL.val (.int .i64 n) rfl rfl rfl (fun za zC zh zk => wp_move rfl (zh.ev rfl) zk) ?_
        refine WL.val (.bool ((((rget L y).id : Int) == (n : Int)))) rfl rfl rfl (fun za zC zh zk => eql_3 rfl (zh.ev rfl) (zh.ev rfl) zk) ?_
        refine WL.nil (WE.sub (K' := [(0, .pointer (some ⟨z, 0, none⟩)), (1, .int .i64 n), (2, .slice a l.length c), (3, .bool goal), (9, .int .i64 (((y : Nat) : Int))), (11, .bool ((decide ((n : Int) < (0 : Int))))), (18, .bool ((decide ((((y : Nat) : Int) : Int) < (((L.length : Nat) : Int) : Int))))), (30, .bool ((((rget L y).id : Int) == (n : Int))))]) ⟨rfl, rfl, rfl, rfl, rfl, rfl, rfl, rfl, trivial⟩ ?_)
        refine WE.next ?_
        refine WC.cond rfl (fun h6 => ?_) (fun h6 => ?_)
        · have h6 : ((rget L y).id : Int) = (n : Int) := by simpa using h6
          refine WC.seq ?_
          refine WC.region ?_
          refine WL.val (.int .i64 2) rfl rfl rfl (fun za zC zh zk => wp_assign rfl (zh.ev rfl) zk) ?_
          refine WL.nil (WE.sub (K' := [(0, .pointer (some ⟨z, 0, none⟩)), (1, .int .i64 n), (2, .slice a l.length c), (3, .bool goal), (8, .int .i64 2), (9, .int .i64 (((y : Nat) : Int))), (11, .bool ((decide ((n : Int) < (0 : Int))))), (18, .bool ((decide ((((y : Nat) : Int) : Int) < (((L.length : Nat) : Int) : Int))))), (30, .bool ((((rget L y).id : Int) == (n : Int))))]) ⟨rfl, rfl, rfl, rfl, rfl, rfl, rfl, rfl, rfl, trivial⟩ ?_)
          refine WE.next ?_
          refine WC.ret ?_
          refine WE.blockRet ?_
          refine WE.thenRet ?_
          refine WE.thenRet ?_
          refine WE.blockRet ?_
          refine WE.thenRet ?_
          refine WE.ret1 rfl rfl ?_
          exact ⟨_, rfl, .inl ⟨.inr ⟨y, by omega, by omega⟩, rfl, hb3⟩⟩
        · have h6 : ¬ (((rget L y).id : Int) = (n : Int)) := by simpa using h6
          refine WC.skip ?_
          refine WE.blockNormal ?_
          refine WE.next ?_
          refine WC.region ?_
          refine WL.val (.int .i64 (((y : Nat) : Int))) rfl rfl rfl (fun za zC zh zk => wp_move rfl (zh.ev rfl) zk) ?_
          refine WL.val (.int .i64 ((((y + 1) : Nat) : Int))) rfl rfl rfl (fun za zC zh zk => addb_3 rfl (zh.ev rfl) (zh.ev rfl) (wrap_eq (by omega) (by omega) (by omega)) zk) ?_
          refine WL.val (.int .i64 ((((y + 1) : Nat) : Int))) rfl rfl rfl (fun za zC zh zk => wp_assign rfl (zh.ev rfl) zk) ?_
          refine WL.nil (WE.sub (K' := [(0, .pointer (some ⟨z, 0, none⟩)), (1, .int .i64 n), (2, .slice a l.length c), (3, .bool goal), (9, .int .i64 ((((y + 1) : Nat) : Int))), (11, .bool ((decide ((n : Int) < (0 : Int))))), (18, .bool ((decide ((((y : Nat) : Int) : Int) < (((L.length : Nat) : Int) : Int))))), (30, .bool ((((rget L y).id : Int) == (n : Int))))]) ⟨rfl, rfl, rfl, rfl, rfl, rfl, rfl, rfl, trivial⟩ ?_)
          refine WE.round (y + 1) ⟨rfl, rfl, rfl, rfl, rfl, rfl, trivial⟩ ?_ ?_
          · exact ⟨by omega, fun k hk2 => by
                by_cases e : k = y
                · rw [e]; omega
                · exact hgs k (by omega), hb3, hB4⟩
          · omega
      · have h5 : ¬ ((((y : Nat) : Int) : Int) < (((L.length : Nat) : Int) : Int)) := by simpa using h5
        refine WC.exit ?_
        refine WE.thenExit ?_
        refine WE.thenExit ?_
        refine WE.blockIs rfl ?_
        refine WE.next ?_
        refine WC.seq ?_
        refine WC.region ?_
        refine WL.val (.pointer (some ⟨z, 0, none⟩)) rfl rfl rfl (fun za zC zh zk => wp_move rfl (zh.ev rfl) zk) ?_
        refine WL.val (.pointer (some ⟨z, 0, none⟩)) rfl rfl rfl (fun za zC zh zk => wp_move rfl (zh.ev rfl) zk) ?_
        refine WL.val (.pointer (some ⟨z, 0, none⟩)) rfl rfl rfl (fun za zC zh zk => nilCheck_ rfl (zh.ev rfl) zk) ?_
        refine WL.val (.pointer (some ⟨z, 1, none⟩)) rfl rfl rfl (fun za zC zh zk => fld_53_1 rfl (zh.ev rfl) zk) ?_
        refine WL.val (.slice la L.length lc) rfl rfl rfl (fun za zC zh zk => ld_51 rfl (zh.ev rfl) ((hB4.cell 1).trans rfl) zk) ?_
        refine WL.val (.int .i64 n) rfl rfl rfl (fun za zC zh zk => wp_move rfl (zh.ev rfl) zk) ?_
        refine WL.val (.slice a l.length c) rfl rfl rfl (fun za zC zh zk => wp_move rfl (zh.ev rfl) zk) ?_
        refine WL.val (.bool goal) rfl rfl rfl (fun za zC zh zk => wp_move rfl (zh.ev rfl) zk) ?_
        refine WL.val (.agg #[.int .i64 n, .slice a l.length c, .bool goal]) rfl rfl rfl (fun za zC zh zk => build_86_0_1_2 rfl (zh.ev rfl) (zh.ev rfl) (zh.ev rfl) zk) ?_
        refine WL.step (post := NewRow w2 86 #[.int .i64 n, .slice a l.length c, .bool goal] 1) rfl rfl rfl (fun za zC zh zk => row_51_1 rfl (zh.ev rfl) (zk _ _ (newRow _ _ _ _))) ?_
        rintro _ w7 ⟨g8, rfl, hg9, hB10, hb11, hz12⟩
        have hl13 : z < g8 := by have z1 := hB4.lt; omega
        have hl14 : w.heap.size ≤ g8 := by have z2 := (hb3).size; omega
        have hB15 := hB4.below hb11
        have hb16 : Below w.heap.size w w7 := (bstep hb3 hb11)
        have hO1 := hO.below hb16
        have hOr := own_rb hO1
        have hsz0 := (hb16).size
        have hnz : ¬ (rbOf la L.length lc z ∨ w7.heap.size ≤ z) := by
          rintro (u | u)
          · obtain ⟨_, cur, hc⟩ := own_blk hO1 u; exact blk_ne hc hB15 (by decide) rfl
          · have := hB15.lt; omega
        refine WL.step (post := fun v w' => ∃ ra rc, v = .slice ra (L.length + 1) rc ∧ Own w' (fun b => rbOf la L.length lc b ∨ w7.heap.size ≤ b) 86 3 ra rc (L.length + 1) (risC L ++ [.int .i64 n, .slice a l.length c, .bool goal]) ∧ Chg (fun b => rbOf la L.length lc b ∨ w7.heap.size ≤ b) w7 w') rfl rfl rfl (fun za zC zh zk => app_51 (S := (fun b => rbOf la L.length lc b ∨ w7.heap.size ≤ b)) (xs := risC L) (news := [.int .i64 n, .slice a l.length c, .bool goal]) rfl (zh.ev rfl) (zh.ev rfl) (hOr.mono (fun b h _ => .inl h)) (SrcIs.ofBlk hB10) (by simp) (by simp [Value.oneCell']) (by omega) (by omega) (.inr (Nat.le_refl _)) (fun ra rc w' h1 h2 => zk _ _ ⟨ra, rc, rfl, h1, h2⟩)) ?_
        rintro _ w17 ⟨ra18, rc19, rfl, hr20, hc21⟩
        have hB23 := chg_blk hB15 hc21 (by exact hnz)
        have hC22 : Chg Y w w17 := Chg.trans2 (.ofBelow hb16) hc21 (fun i hi u => Or.elim u (fun u => (own_blk hO u).1) (fun u => by omega))
        refine WL.val (.pointer (some ⟨z, 0, none⟩)) rfl rfl rfl (fun za zC zh zk => nilCheck_ rfl (zh.ev rfl) zk) ?_
        refine WL.val (.pointer (some ⟨z, 1, none⟩)) rfl rfl rfl (fun za zC zh zk => fld_53_1 rfl (zh.ev rfl) zk) ?_
        refine WL.step (post := fun _ w' => Upd z w17 w' ∧ Blk w' z 53 #[.slice qa q.length qc, .slice ra18 ((L.length + 1)) rc19, .int .i64 (((at_ : Nat) : Int)), .int .i64 (((dn : Nat) : Int))]) rfl rfl rfl (fun za zC zh zk => st_51 rfl (zh.ev rfl) (zh.ev rfl) hB23 (by first | decide | simp) (fun v => zk v _ ⟨Upd.at_ _ _ _ _, hB23.set_ 1 _⟩)) ?_
        rintro v27 w24 ⟨hu25, hB26⟩
        have hC28 := Chg.trans2 hC22 (.ofUpd (S := fun b => b = z) hu25 rfl) (fun i _ q => q ▸ hyz)
        refine WL.nil (WE.sub (K' := [(0, .pointer (some ⟨z, 0, none⟩)), (1, .int .i64 n), (2, .slice a l.length c), (3, .bool goal), (9, .int .i64 (((y : Nat) : Int))), (11, .bool ((decide ((n : Int) < (0 : Int))))), (18, .bool ((decide ((((y : Nat) : Int) : Int) < (((L.length : Nat) : Int) : Int)))))]) ⟨rfl, rfl, rfl, rfl, rfl, rfl, rfl, trivial⟩ ?_)
        refine WE.next ?_
        refine WC.seq ?_
        refine WC.region ?_
        refine WL.val (.int .i64 0) rfl rfl rfl (fun za zC zh zk => wp_assign rfl (zh.ev rfl) zk) ?_
        refine WL.nil (WE.sub (K' := [(0, .pointer (some ⟨z, 0, none⟩)), (1, .int .i64 n), (2, .slice a l.length c), (3, .bool goal), (8, .int .i64 0), (9, .int .i64 (((y : Nat) : Int))), (11, .bool ((decide ((n : Int) < (0 : Int))))), (18, .bool ((decide ((((y : Nat) : Int) : Int) < (((L.length : Nat) : Int) : Int)))))]) ⟨rfl, rfl, rfl, rfl, rfl, rfl, rfl, rfl, trivial⟩ ?_)
        refine WE.next ?_
        refine WC.ret ?_
        refine WE.ret1 rfl rfl ?_
        have ho9 : Own w24 (fun b => Y b ∨ w.heap.size ≤ b) 86 3 ra18 rc19 (L ++ [⟨n, l, a, c, goal⟩] : List RI).length (risC (L ++ [⟨n, l, a, c, goal⟩])) := by
          rw [risC_app, risC_one, List.length_append]
          exact Own.mono (hr20.upd hu25 hnz) (fun b u _ => Or.elim u (fun u => .inl (own_blk hO u).1) (fun u => .inr (by omega)))
        exact ⟨_, rfl, .inr ⟨by omega, fun k hk2 => hgs k (by omega), rfl, ⟨⟨_, _, by rw [List.length_append]; exact hB26, ho9⟩, .inl hyz⟩, hC28⟩⟩

set_option maxRecDepth 100000 in
theorem rdrop_any (n : Int) (z : Nat) (Y : Nat → Prop) (q : List Qu) (qa : Option Addr) (qc : Nat) (L : List RI) (at_ dn : Nat) (w : World) (hR0 : RefIs w z Y q qa qc L at_ dn) (hL : L.length ≤ 1048576) : Calls Try.prog 17 #[.pointer (some ⟨z, 0, none⟩), .int .i64 n] w (Ret fun v' w' => v' = .bool (decide (((dropR L n).length : Int) < (L.length : Int))) ∧ RefIs w' z (fun b => Y b ∨ w.heap.size ≤ b) q qa qc (dropR L n) at_ dn ∧ Chg Y w w') := by
  obtain ⟨la, lc, hB, hO⟩ := hR0.ex
  obtain ⟨rb, ro, hra, hrc⟩ := hO.rcells
  have hyz := hR0.yz
  have hzl := hR0.lt
  have hC0 := Chg.refl Y w
  refine Calls.walk (l := [.pointer (some ⟨z, 0, none⟩), .int .i64 n]) Try.func17 rfl (by kernel_rfl) ?_
  refine WC.sub (K' := [(0, .pointer (some ⟨z, 0, none⟩)), (1, .int .i64 n)]) ⟨rfl, rfl, trivial⟩ ?_
  refine WC.seq ?_
  refine WC.region ?_
  refine WL.val (.bool false) rfl rfl rfl (fun za zC zh zk => wp_assign rfl (zh.ev rfl) zk) ?_
  refine WL.nil (WE.sub (K' := [(0, .pointer (some ⟨z, 0, none⟩)), (1, .int .i64 n), (4, .bool false)]) ⟨rfl, rfl, rfl, trivial⟩ ?_)
  refine WE.next ?_
  refine WC.seq ?_
  refine WC.region ?_
  refine WL.val (.slice none 0 0) rfl rfl rfl (fun za zC zh zk => wp_assign rfl (zh.ev rfl) zk) ?_
  refine WL.nil (WE.sub (K' := [(0, .pointer (some ⟨z, 0, none⟩)), (1, .int .i64 n), (4, .bool false), (5, .slice none 0 0)]) ⟨rfl, rfl, rfl, rfl, trivial⟩ ?_)
  refine WE.next ?_
  refine WC.seq ?_
  refine WC.seq ?_
  refine WC.region ?_
  refine WL.val (.int .i64 0) rfl rfl rfl (fun za zC zh zk => wp_assign rfl (zh.ev rfl) zk) ?_
  refine WL.nil (WE.sub (K' := [(0, .pointer (some ⟨z, 0, none⟩)), (1, .int .i64 n), (4, .bool false), (5, .slice none 0 0), (6, .int .i64 0)]) ⟨rfl, rfl, rfl, rfl, rfl, trivial⟩ ?_)
  refine WE.next ?_
  refine WC.block ?_
  refine WC.loop (X := Nat × Option Addr × Nat) (fun y => L.length - y.1) (fun y => [(0, .pointer (some ⟨z, 0, none⟩)), (1, .int .i64 n), (4, .bool false), (5, .slice y.2.1 ((dropR (L.take y.1) n).length) y.2.2), (6, .int .i64 (((y.1 : Nat) : Int)))]) (fun y w1 => y.1 ≤ L.length ∧ Below w.heap.size w w1 ∧ Blk w1 z 53 #[.slice qa q.length qc, .slice la L.length lc, .int .i64 (((at_ : Nat) : Int)), .int .i64 (((dn : Nat) : Int))] ∧ w.heap.size ≤ (w1).heap.size ∧ Own w1 (fun b => w.heap.size ≤ b) 86 3 y.2.1 y.2.2 ((dropR (L.take y.1) n).length) ((risC (dropR (L.take y.1) n)))) (⟨0, none, 0⟩) ⟨rfl, rfl, rfl, rfl, rfl, trivial⟩ ?_ ?_
  · exact ⟨Nat.zero_le _, (Below.refl _ _), hB, (by omega), own_nil⟩
  · rintro y w1 ⟨hk, hb2, hB3, hf5, hr4⟩
    refine WC.seq ?_
    refine WC.seq ?_
    refine WC.region ?_
    refine WL.val (.int .i64 (((y.1 : Nat) : Int))) rfl rfl rfl (fun za zC zh zk => wp_move rfl (zh.ev rfl) zk) ?_
    refine WL.val (.pointer (some ⟨z, 0, none⟩)) rfl rfl rfl (fun za zC zh zk => wp_move rfl (zh.ev rfl) zk) ?_
    refine WL.val (.pointer (some ⟨z, 0, none⟩)) rfl rfl rfl (fun za zC zh zk => nilCheck_ rfl (zh.ev rfl) zk) ?_
    refine WL.val (.pointer (some ⟨z, 1, none⟩)) rfl rfl rfl (fun za zC zh zk => fld_53_1 rfl (zh.ev rfl) zk) ?_
    refine WL.val (.slice la L.length lc) rfl rfl rfl (fun za zC zh zk => ld_51 rfl (zh.ev rfl) ((hB3.cell 1).trans rfl) zk) ?_
    refine WL.val (.int .i64 (((L.length : Nat) : Int))) rfl rfl rfl (fun za zC zh zk => len_51 rfl (zh.ev rfl) zk) ?_
    refine WL.val (.bool ((decide ((((y.1 : Nat) : Int) : Int) < (((L.length : Nat) : Int) : Int))))) rfl rfl rfl (fun za zC zh zk => lss_3 rfl (zh.ev rfl) (zh.ev rfl) zk) ?_
    refine WL.nil (WE.sub (K' := [(0, .pointer (some ⟨z, 0, none⟩)), (1, .int .i64 n), (4, .bool false), (5, .slice y.2.1 ((dropR (L.take y.1) n).length) y.2.2), (6, .int .i64 (((y.1 : Nat) : Int))), (14, .bool ((decide ((((y.1 : Nat) : Int) : Int) < (((L.length : Nat) : Int) : Int)))))]) ⟨rfl, rfl, rfl, rfl, rfl, rfl, trivial⟩ ?_)
    refine WE.next ?_
    refine WC.cond rfl (fun h6 => ?_) (fun h6 => ?_)
    · have h6 : (((y.1 : Nat) : Int) : Int) < (((L.length : Nat) : Int) : Int) := by simpa using h6
      have hdl0 := dropR_le (L.take y.1) n
      have hdt0 := List.length_take_le y.1 L
      refine WC.skip ?_
      refine WE.next ?_
      refine WC.seq ?_
      refine WC.block ?_
      refine WC.seq ?_
      refine WC.region ?_
      refine WL.val (.pointer (some ⟨z, 0, none⟩)) rfl rfl rfl (fun za zC zh zk => wp_move rfl (zh.ev rfl) zk) ?_
      refine WL.val (.pointer (some ⟨z, 0, none⟩)) rfl rfl rfl (fun za zC zh zk => nilCheck_ rfl (zh.ev rfl) zk) ?_
      refine WL.val (.pointer (some ⟨z, 1, none⟩)) rfl rfl rfl (fun za zC zh zk => fld_53_1 rfl (zh.ev rfl) zk) ?_
      refine WL.val (.slice la L.length lc) rfl rfl rfl (fun za zC zh zk => ld_51 rfl (zh.ev rfl) ((hB3.cell 1).trans rfl) zk) ?_
      refine WL.val (.int .i64 (((y.1 : Nat) : Int))) rfl rfl rfl (fun za zC zh zk => wp_move rfl (zh.ev rfl) zk) ?_
      refine WL.val (.pointer (some ⟨rb, ro + y.1 * 3, none⟩)) rfl rfl rfl (fun za zC zh zk => ix_51 (k := y.1) rfl (zh.ev rfl) (hra y.1 (by first | omega | (simp; omega))) (zh.ev rfl) (by first | omega | (simp; omega)) zk) ?_
      refine WL.val (.pointer (some ⟨rb, ro + y.1 * 3, none⟩)) rfl rfl rfl (fun za zC zh zk => fld_86_0 rfl (zh.ev rfl) zk) ?_
      refine WL.val (.int .i64 ((rget L y.1).id)) rfl rfl rfl (fun za zC zh zk => ld_3 rfl (zh.ev rfl) (bkeeps hb2 _ _ (hrc y.1 (by first | omega | (simp; omega))).1) zk) ?_
      refine WL.val (.int .i64 n) rfl rfl rfl (fun za zC zh zk => wp_move rfl (zh.ev rfl) zk) ?_
      refine WL.val (.bool ((((rget L y.1).id : Int) != (n : Int)))) rfl rfl rfl (fun za zC zh zk => neq_3 rfl (zh.ev rfl) (zh.ev rfl) zk) ?_
      refine WL.nil (WE.sub (K' := [(0, .pointer (some ⟨z, 0, none⟩)), (1, .int .i64 n), (4, .bool false), (5, .slice y.2.1 ((dropR (L.take y.1) n).length) y.2.2), (6, .int .i64 (((y.1 : Nat) : Int))), (14, .bool ((decide ((((y.1 : Nat) : Int) : Int) < (((L.length : Nat) : Int) : Int))))), (26, .bool ((((rget L y.1).id : Int) != (n : Int))))]) ⟨rfl, rfl, rfl, rfl, rfl, rfl, rfl, trivial⟩ ?_)
      refine WE.next ?_
      refine WC.cond rfl (fun h7 => ?_) (fun h7 => ?_)
      · have h7 : ((rget L y.1).id : Int) ≠ (n : Int) := by simpa using h7
        have hdl := dropR_le (L.take y.1) n
        have hdt := List.length_take_le y.1 L
        refine WC.region ?_
        refine WL.val (.slice y.2.1 ((dropR (L.take y.1) n).length) y.2.2) rfl rfl rfl (fun za zC zh zk => wp_move rfl (zh.ev rfl) zk) ?_
        refine WL.val (.pointer (some ⟨z, 0, none⟩)) rfl rfl rfl (fun za zC zh zk => wp_move rfl (zh.ev rfl) zk) ?_
        refine WL.val (.pointer (some ⟨z, 0, none⟩)) rfl rfl rfl (fun za zC zh zk => nilCheck_ rfl (zh.ev rfl) zk) ?_
        refine WL.val (.pointer (some ⟨z, 1, none⟩)) rfl rfl rfl (fun za zC zh zk => fld_53_1 rfl (zh.ev rfl) zk) ?_
        refine WL.val (.slice la L.length lc) rfl rfl rfl (fun za zC zh zk => ld_51 rfl (zh.ev rfl) ((hB3.cell 1).trans rfl) zk) ?_
        refine WL.val (.int .i64 (((y.1 : Nat) : Int))) rfl rfl rfl (fun za zC zh zk => wp_move rfl (zh.ev rfl) zk) ?_
        refine WL.val (.pointer (some ⟨rb, ro + y.1 * 3, none⟩)) rfl rfl rfl (fun za zC zh zk => ix_51 (k := y.1) rfl (zh.ev rfl) (hra y.1 (by first | omega | (simp; omega))) (zh.ev rfl) (by first | omega | (simp; omega)) zk) ?_
        refine WL.val (.agg #[.int .i64 ((rget L y.1).id), .slice ((rget L y.1).a) ((rget L y.1).l.length) ((rget L y.1).c), .bool ((rget L y.1).goal)]) rfl rfl rfl (fun za zC zh zk => ld_86 rfl (zh.ev rfl) (bkeeps hb2 _ _ (hrc y.1 (by first | omega | (simp; omega))).1) (bkeeps hb2 _ _ (hrc y.1 (by first | omega | (simp; omega))).2.1) (bkeeps hb2 _ _ (hrc y.1 (by first | omega | (simp; omega))).2.2) zk) ?_
        refine WL.step (post := NewRow w1 86 #[.int .i64 ((rget L y.1).id), .slice ((rget L y.1).a) ((rget L y.1).l.length) ((rget L y.1).c), .bool ((rget L y.1).goal)] 1) rfl rfl rfl (fun za zC zh zk => row_51_1 rfl (zh.ev rfl) (zk _ _ (newRow _ _ _ _))) ?_
        rintro _ w8 ⟨g9, rfl, hg10, hB11, hb12, hz13⟩
        have hl14 : z < g9 := by have z1 := hB3.lt; omega
        have hr15 := Own.mono (S' := (fun b => w.heap.size ≤ b ∧ b ≠ g9)) hr4 (fun b h1 h2 => by (try dsimp only at *); omega)
        have hl16 : w.heap.size ≤ g9 := by have z2 := (hb2).size; omega
        have hr17 := hr15.below hb12
        refine WL.step (post := fun v w' => ∃ ra rc, v = .slice ra ((dropR (L.take y.1) n).length + 1) rc ∧ Own w' (fun b => w.heap.size ≤ b ∧ b ≠ g9) 86 3 ra rc ((dropR (L.take y.1) n).length + 1) ((risC (dropR (L.take y.1) n)) ++ [.int .i64 ((rget L y.1).id), .slice ((rget L y.1).a) ((rget L y.1).l.length) ((rget L y.1).c), .bool ((rget L y.1).goal)]) ∧ Chg (fun b => w.heap.size ≤ b ∧ b ≠ g9) w8 w') rfl rfl rfl (fun za zC zh zk => app_51 (S := (fun b => w.heap.size ≤ b ∧ b ≠ g9)) (xs := (risC (dropR (L.take y.1) n))) (news := [.int .i64 ((rget L y.1).id), .slice ((rget L y.1).a) ((rget L y.1).l.length) ((rget L y.1).c), .bool ((rget L y.1).goal)]) rfl (zh.ev rfl) (zh.ev rfl) hr17 (SrcIs.ofBlk hB11) (by simp) (by simp [Value.oneCell']) (by omega) (by omega) (by have z1 := hb12.size; have z2 := hf5; have y0 := hB11.lt; (try dsimp only at *); omega) (fun ra rc w' h1 h2 => zk _ _ ⟨ra, rc, rfl, h1, h2⟩)) ?_
        rintro _ w18 ⟨ra19, rc20, rfl, hr21, hc22⟩
        have hb23 : Below w.heap.size w w8 := (bstep hb2 hb12)
        have hB24 := hB3.below hb12
        have hb25 := chg_below hb23 hc22 (fun b hb => (by (try dsimp only at *); omega))
        have hB26 := chg_blk hB24 hc22 (by (try dsimp only at *); omega)
        have hB27 := chg_blk hB11 hc22 (by (try dsimp only at *); omega)
        refine WL.val (.slice ra19 ((dropR (L.take (y.1 + 1)) n).length) rc20) rfl rfl rfl (fun za zC zh zk => wp_assign rfl ((zh.ev rfl).trans (by rw [dropR_take (by omega), if_pos (by omega), List.length_append]; rfl)) zk) ?_
        refine WL.nil (WE.sub (K' := [(0, .pointer (some ⟨z, 0, none⟩)), (1, .int .i64 n), (4, .bool false), (5, .slice ra19 ((dropR (L.take (y.1 + 1)) n).length) rc20), (6, .int .i64 (((y.1 : Nat) : Int))), (14, .bool ((decide ((((y.1 : Nat) : Int) : Int) < (((L.length : Nat) : Int) : Int))))), (26, .bool ((((rget L y.1).id : Int) != (n : Int))))]) ⟨rfl, rfl, rfl, rfl, rfl, rfl, rfl, trivial⟩ ?_)
        refine WE.blockNormal ?_
        refine WE.next ?_
        refine WC.region ?_
        refine WL.val (.int .i64 (((y.1 : Nat) : Int))) rfl rfl rfl (fun za zC zh zk => wp_move rfl (zh.ev rfl) zk) ?_
        refine WL.val (.int .i64 ((((y.1 + 1) : Nat) : Int))) rfl rfl rfl (fun za zC zh zk => addb_3 rfl (zh.ev rfl) (zh.ev rfl) (wrap_eq (by omega) (by omega) (by omega)) zk) ?_
        refine WL.val (.int .i64 ((((y.1 + 1) : Nat) : Int))) rfl rfl rfl (fun za zC zh zk => wp_assign rfl (zh.ev rfl) zk) ?_
        refine WL.nil (WE.sub (K' := [(0, .pointer (some ⟨z, 0, none⟩)), (1, .int .i64 n), (4, .bool false), (5, .slice ra19 ((dropR (L.take (y.1 + 1)) n).length) rc20), (6, .int .i64 ((((y.1 + 1) : Nat) : Int))), (14, .bool ((decide ((((y.1 : Nat) : Int) : Int) < (((L.length : Nat) : Int) : Int))))), (26, .bool ((((rget L y.1).id : Int) != (n : Int))))]) ⟨rfl, rfl, rfl, rfl, rfl, rfl, rfl, trivial⟩ ?_)
        refine WE.round (⟨y.1 + 1, ra19, rc20⟩) ⟨rfl, rfl, rfl, rfl, rfl, trivial⟩ ?_ ?_
        · have hr28 := Own.mono (S' := (fun b => w.heap.size ≤ b)) hr21 (fun b h1 h2 => by (try dsimp only at *); omega)
          exact ⟨by (try dsimp only); omega, hb25, hB26, (by have z1 := (Nat.le_trans hb12.size hc22.size); have z2 := hf5; omega), (by rw [dropR_take (by omega), if_pos (by omega), risC_app, risC_one, List.length_append]; exact hr28)⟩
        · (try dsimp only); omega
      · have h7 : ¬ (((rget L y.1).id : Int) ≠ (n : Int)) := by simpa using h7
        have hdl := dropR_le (L.take y.1) n
        have hdt := List.length_take_le y.1 L
        refine WC.sub (K' := [(0, .pointer (some ⟨z, 0, none⟩)), (1, .int .i64 n), (4, .bool false), (5, .slice y.2.1 ((dropR (L.take (y.1 + 1)) n).length) y.2.2), (6, .int .i64 (((y.1 : Nat) : Int))), (14, .bool ((decide ((((y.1 : Nat) : Int) : Int) < (((L.length : Nat) : Int) : Int))))), (26, .bool ((((rget L y.1).id : Int) != (n : Int))))]) ⟨rfl, rfl, rfl, (by rw [dropR_take (by omega), if_neg (by omega), List.append_nil]; rfl), rfl, rfl, rfl, trivial⟩ ?_
        refine WC.skip ?_
        refine WE.blockNormal ?_
        refine WE.next ?_
        refine WC.region ?_
        refine WL.val (.int .i64 (((y.1 : Nat) : Int))) rfl rfl rfl (fun za zC zh zk => wp_move rfl (zh.ev rfl) zk) ?_
        refine WL.val (.int .i64 ((((y.1 + 1) : Nat) : Int))) rfl rfl rfl (fun za zC zh zk => addb_3 rfl (zh.ev rfl) (zh.ev rfl) (wrap_eq (by omega) (by omega) (by omega)) zk) ?_
        refine WL.val (.int .i64 ((((y.1 + 1) : Nat) : Int))) rfl rfl rfl (fun za zC zh zk => wp_assign rfl (zh.ev rfl) zk) ?_
        refine WL.nil (WE.sub (K' := [(0, .pointer (some ⟨z, 0, none⟩)), (1, .int .i64 n), (4, .bool false), (5, .slice y.2.1 ((dropR (L.take (y.1 + 1)) n).length) y.2.2), (6, .int .i64 ((((y.1 + 1) : Nat) : Int))), (14, .bool ((decide ((((y.1 : Nat) : Int) : Int) < (((L.length : Nat) : Int) : Int))))), (26, .bool ((((rget L y.1).id : Int) != (n : Int))))]) ⟨rfl, rfl, rfl, rfl, rfl, rfl, rfl, trivial⟩ ?_)
        refine WE.round (⟨y.1 + 1, y.2.1, y.2.2⟩) ⟨rfl, rfl, rfl, rfl, rfl, trivial⟩ ?_ ?_
        · exact ⟨by (try dsimp only); omega, hb2, hB3, (by have z2 := hf5; omega), (by rw [dropR_take (by omega), if_neg (by omega), List.append_nil]; exact hr4)⟩
        · (try dsimp only); omega
    · have h6 : ¬ ((((y.1 : Nat) : Int) : Int) < (((L.length : Nat) : Int) : Int)) := by simpa using h6
      have hdl0 := dropR_le (L.take y.1) n
      have hdt0 := List.length_take_le y.1 L
      refine WC.exit ?_
      refine WE.thenExit ?_
      refine WE.thenExit ?_
      refine WE.blockIs rfl ?_
      refine WE.next ?_
      refine WC.seq ?_
      refine WC.region ?_
      refine WL.val (.pointer (some ⟨z, 0, none⟩)) rfl rfl rfl (fun za zC zh zk => wp_move rfl (zh.ev rfl) zk) ?_
      refine WL.val (.pointer (some ⟨z, 0, none⟩)) rfl rfl rfl (fun za zC zh zk => nilCheck_ rfl (zh.ev rfl) zk) ?_
      refine WL.val (.pointer (some ⟨z, 1, none⟩)) rfl rfl rfl (fun za zC zh zk => fld_53_1 rfl (zh.ev rfl) zk) ?_
      refine WL.val (.slice la L.length lc) rfl rfl rfl (fun za zC zh zk => ld_51 rfl (zh.ev rfl) ((hB3.cell 1).trans rfl) zk) ?_
      refine WL.val (.int .i64 (((L.length : Nat) : Int))) rfl rfl rfl (fun za zC zh zk => len_51 rfl (zh.ev rfl) zk) ?_
      refine WL.val (.int .i64 (((L.length : Nat) : Int))) rfl rfl rfl (fun za zC zh zk => wp_assign rfl (zh.ev rfl) zk) ?_
      refine WL.nil (WE.sub (K' := [(0, .pointer (some ⟨z, 0, none⟩)), (1, .int .i64 n), (4, .bool false), (5, .slice y.2.1 ((dropR (L.take y.1) n).length) y.2.2), (6, .int .i64 (((y.1 : Nat) : Int))), (7, .int .i64 (((L.length : Nat) : Int))), (14, .bool ((decide ((((y.1 : Nat) : Int) : Int) < (((L.length : Nat) : Int) : Int)))))]) ⟨rfl, rfl, rfl, rfl, rfl, rfl, rfl, trivial⟩ ?_)
      refine WE.next ?_
      refine WC.seq ?_
      refine WC.region ?_
      refine WL.val (.pointer (some ⟨z, 0, none⟩)) rfl rfl rfl (fun za zC zh zk => wp_move rfl (zh.ev rfl) zk) ?_
      refine WL.val (.slice y.2.1 ((dropR (L.take y.1) n).length) y.2.2) rfl rfl rfl (fun za zC zh zk => wp_move rfl (zh.ev rfl) zk) ?_
      refine WL.val (.pointer (some ⟨z, 0, none⟩)) rfl rfl rfl (fun za zC zh zk => nilCheck_ rfl (zh.ev rfl) zk) ?_
      refine WL.val (.pointer (some ⟨z, 1, none⟩)) rfl rfl rfl (fun za zC zh zk => fld_53_1 rfl (zh.ev rfl) zk) ?_
      have hC29 := Chg.trans hC0 (.ofBelow hb2)
      refine WL.step (post := fun _ w' => Upd z w1 w' ∧ Blk w' z 53 #[.slice qa q.length qc, .slice y.2.1 ((dropR (L.take y.1) n).length) y.2.2, .int .i64 (((at_ : Nat) : Int)), .int .i64 (((dn : Nat) : Int))]) rfl rfl rfl (fun za zC zh zk => st_51 rfl (zh.ev rfl) (zh.ev rfl) hB3 (by first | decide | simp) (fun v => zk v _ ⟨Upd.at_ _ _ _ _, hB3.set_ 1 _⟩)) ?_
      rintro v33 w30 ⟨hu31, hB32⟩
      have hr34 := hr4.upd hu31 (by (try dsimp only at *); omega)
      have hC35 := Chg.trans2 hC29 (.ofUpd (S := fun b => b = z) hu31 rfl) (fun i _ q => q ▸ hyz)
      refine WL.nil (WE.sub (K' := [(0, .pointer (some ⟨z, 0, none⟩)), (1, .int .i64 n), (4, .bool false), (5, .slice y.2.1 ((dropR (L.take y.1) n).length) y.2.2), (6, .int .i64 (((y.1 : Nat) : Int))), (7, .int .i64 (((L.length : Nat) : Int))), (14, .bool ((decide ((((y.1 : Nat) : Int) : Int) < (((L.length : Nat) : Int) : Int)))))]) ⟨rfl, rfl, rfl, rfl, rfl, rfl, rfl, trivial⟩ ?_)
      refine WE.next ?_
      refine WC.seq ?_
      refine WC.region ?_
      refine WL.val (.slice y.2.1 ((dropR (L.take y.1) n).length) y.2.2) rfl rfl rfl (fun za zC zh zk => wp_move rfl (zh.ev rfl) zk) ?_
      refine WL.val (.int .i64 ((((dropR (L.take y.1) n).length : Nat) : Int))) rfl rfl rfl (fun za zC zh zk => len_51 rfl (zh.ev rfl) zk) ?_
      refine WL.val (.int .i64 (((L.length : Nat) : Int))) rfl rfl rfl (fun za zC zh zk => wp_move rfl (zh.ev rfl) zk) ?_
      refine WL.val (.bool ((decide (((((dropR (L.take y.1) n).length : Nat) : Int) : Int) < (((L.length : Nat) : Int) : Int))))) rfl rfl rfl (fun za zC zh zk => lss_3 rfl (zh.ev rfl) (zh.ev rfl) zk) ?_
      refine WL.val (.bool ((decide (((((dropR (L.take y.1) n).length : Nat) : Int) : Int) < (((L.length : Nat) : Int) : Int))))) rfl rfl rfl (fun za zC zh zk => wp_assign rfl (zh.ev rfl) zk) ?_
      refine WL.nil (WE.sub (K' := [(0, .pointer (some ⟨z, 0, none⟩)), (1, .int .i64 n), (4, .bool ((decide (((((dropR (L.take y.1) n).length : Nat) : Int) : Int) < (((L.length : Nat) : Int) : Int))))), (5, .slice y.2.1 ((dropR (L.take y.1) n).length) y.2.2), (6, .int .i64 (((y.1 : Nat) : Int))), (7, .int .i64 (((L.length : Nat) : Int))), (14, .bool ((decide ((((y.1 : Nat) : Int) : Int) < (((L.length : Nat) : Int) : Int)))))]) ⟨rfl, rfl, rfl, rfl, rfl, rfl, rfl, trivial⟩ ?_)
      refine WE.next ?_
      refine WC.ret ?_
      refine WE.ret1 rfl rfl ?_
      have htk : L.take y.1 = L := List.take_of_length_le (by omega)
      have hB9 := hB32
      rw [htk] at hB9
      have ho8 := hr4
      rw [htk] at ho8
      exact ⟨_, rfl, by rw [htk], ⟨⟨_, _, hB9, Own.mono (Own.upd ho8 hu31 (by (try dsimp only); omega)) (fun b u _ => .inr u)⟩, .inl hyz⟩, hC35⟩

end Go.Proofs.Ytjhkoiggeepajaa
