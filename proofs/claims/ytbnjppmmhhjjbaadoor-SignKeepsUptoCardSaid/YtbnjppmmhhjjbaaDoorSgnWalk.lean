/- The walks through the program of signatures. -/
import Derived.Test.YtbnjppmmhhjjbaaDoorEng
import Derived.Test.YtbnjppmmhhjjbaaDoorKOps
import Derived.Test.YtbnjppmmhhjjbaaDoorSigRows
import Derived.Test.YtbnjppmmhhjjbaaDoorSigCheck
namespace Go.Proofs.YtbnjppmmhhjjbaaDoor
open Go.RowKit Go
set_option linter.unusedVariables false
set_option linter.unusedSimpArgs false

theorem byteOk_eq (c : UInt8) : ((((decide ((97 : Int) ≤ (c.toNat : Int))) && (decide ((c.toNat : Int) ≤ (122 : Int)))) || ((decide ((65 : Int) ≤ (c.toNat : Int))) && (decide ((c.toNat : Int) ≤ (90 : Int))))) || ((decide ((48 : Int) ≤ (c.toNat : Int))) && (decide ((c.toNat : Int) ≤ (57 : Int))))) = ((97 ≤ c && c ≤ 122) || (65 ≤ c && c ≤ 90) || (48 ≤ c && c ≤ 57)) := by
  have h : ∀ a b : UInt8, decide (a ≤ b) = decide ((a.toNat : Int) ≤ (b.toNat : Int)) := fun a b => by rw [decide_eq_decide, UInt8.le_iff_toNat_le]; omega
  simp only [h]; rfl
theorem byteOk_us (c : UInt8) : ((c.toNat : Int) == (95 : Int)) = (c == 95) := by
  rw [Bool.eq_iff_iff, beq_iff_eq, beq_iff_eq, ← UInt8.toNat_inj]
  exact ⟨fun h => by have : c.toNat = 95 := by omega
                     exact this, fun h => by rw [h]; rfl⟩

set_option maxRecDepth 100000 in
theorem letter_any (c : UInt8) (w : World) : Calls Tryd.prog 30 #[.int .u8 (c.toNat : Int)] w (Ret fun v' w' => v' = .bool (byteOk c) ∧ Below w.heap.size w w') := by
  refine Calls.walk (l := [.int .u8 ((c.toNat : Int))]) Tryd.func30 rfl (by kernel_rfl) ?_
  refine WC.sub (K' := [(0, .int .u8 ((c.toNat : Int)))]) ⟨rfl, trivial⟩ ?_
  refine WC.seq ?_
  refine WC.region ?_
  refine WL.val (.bool false) rfl rfl rfl (fun za zC zh zk => wp_assign rfl (zh.ev rfl) zk) ?_
  refine WL.nil (WE.sub (K' := [(0, .int .u8 ((c.toNat : Int))), (2, .bool false)]) ⟨rfl, rfl, trivial⟩ ?_)
  refine WE.next ?_
  refine WC.seq ?_
  refine WC.opt [(true, .val (.int .u8 ((c.toNat : Int)))), (true, .val (.bool ((decide ((97 : Int) ≤ ((c.toNat : Int) : Int)))))), (true, .val (.bool ((decide ((97 : Int) ≤ ((c.toNat : Int) : Int)))))), ((true && (decide ((97 : Int) ≤ ((c.toNat : Int) : Int)))), .val (.int .u8 ((c.toNat : Int)))), ((true && (decide ((97 : Int) ≤ ((c.toNat : Int) : Int)))), .val (.bool ((decide (((c.toNat : Int) : Int) ≤ (122 : Int)))))), (true, .val (.bool (((decide ((97 : Int) ≤ ((c.toNat : Int) : Int))) && (decide (((c.toNat : Int) : Int) ≤ (122 : Int))))))), (true, .val (.bool (((decide ((97 : Int) ≤ ((c.toNat : Int) : Int))) && (decide (((c.toNat : Int) : Int) ≤ (122 : Int))))))), ((true && !((decide ((97 : Int) ≤ ((c.toNat : Int) : Int))) && (decide (((c.toNat : Int) : Int) ≤ (122 : Int))))), .val (.int .u8 ((c.toNat : Int)))), ((true && !((decide ((97 : Int) ≤ ((c.toNat : Int) : Int))) && (decide (((c.toNat : Int) : Int) ≤ (122 : Int))))), .val (.bool ((decide ((65 : Int) ≤ ((c.toNat : Int) : Int)))))), ((true && !((decide ((97 : Int) ≤ ((c.toNat : Int) : Int))) && (decide (((c.toNat : Int) : Int) ≤ (122 : Int))))), .val (.bool ((decide ((65 : Int) ≤ ((c.toNat : Int) : Int)))))), (((true && !((decide ((97 : Int) ≤ ((c.toNat : Int) : Int))) && (decide (((c.toNat : Int) : Int) ≤ (122 : Int))))) && (decide ((65 : Int) ≤ ((c.toNat : Int) : Int)))), .val (.int .u8 ((c.toNat : Int)))), (((true && !((decide ((97 : Int) ≤ ((c.toNat : Int) : Int))) && (decide (((c.toNat : Int) : Int) ≤ (122 : Int))))) && (decide ((65 : Int) ≤ ((c.toNat : Int) : Int)))), .val (.bool ((decide (((c.toNat : Int) : Int) ≤ (90 : Int)))))), ((true && !((decide ((97 : Int) ≤ ((c.toNat : Int) : Int))) && (decide (((c.toNat : Int) : Int) ≤ (122 : Int))))), .val (.bool (((decide ((65 : Int) ≤ ((c.toNat : Int) : Int))) && (decide (((c.toNat : Int) : Int) ≤ (90 : Int))))))), (true, .val (.bool ((((decide ((97 : Int) ≤ ((c.toNat : Int) : Int))) && (decide (((c.toNat : Int) : Int) ≤ (122 : Int)))) || ((decide ((65 : Int) ≤ ((c.toNat : Int) : Int))) && (decide (((c.toNat : Int) : Int) ≤ (90 : Int)))))))), (true, .val (.bool ((((decide ((97 : Int) ≤ ((c.toNat : Int) : Int))) && (decide (((c.toNat : Int) : Int) ≤ (122 : Int)))) || ((decide ((65 : Int) ≤ ((c.toNat : Int) : Int))) && (decide (((c.toNat : Int) : Int) ≤ (90 : Int)))))))), ((true && !(((decide ((97 : Int) ≤ ((c.toNat : Int) : Int))) && (decide (((c.toNat : Int) : Int) ≤ (122 : Int)))) || ((decide ((65 : Int) ≤ ((c.toNat : Int) : Int))) && (decide (((c.toNat : Int) : Int) ≤ (90 : Int)))))), .val (.int .u8 ((c.toNat : Int)))), ((true && !(((decide ((97 : Int) ≤ ((c.toNat : Int) : Int))) && (decide (((c.toNat : Int) : Int) ≤ (122 : Int)))) || ((decide ((65 : Int) ≤ ((c.toNat : Int) : Int))) && (decide (((c.toNat : Int) : Int) ≤ (90 : Int)))))), .val (.bool ((decide ((48 : Int) ≤ ((c.toNat : Int) : Int)))))), ((true && !(((decide ((97 : Int) ≤ ((c.toNat : Int) : Int))) && (decide (((c.toNat : Int) : Int) ≤ (122 : Int)))) || ((decide ((65 : Int) ≤ ((c.toNat : Int) : Int))) && (decide (((c.toNat : Int) : Int) ≤ (90 : Int)))))), .val (.bool ((decide ((48 : Int) ≤ ((c.toNat : Int) : Int)))))), (((true && !(((decide ((97 : Int) ≤ ((c.toNat : Int) : Int))) && (decide (((c.toNat : Int) : Int) ≤ (122 : Int)))) || ((decide ((65 : Int) ≤ ((c.toNat : Int) : Int))) && (decide (((c.toNat : Int) : Int) ≤ (90 : Int)))))) && (decide ((48 : Int) ≤ ((c.toNat : Int) : Int)))), .val (.int .u8 ((c.toNat : Int)))), (((true && !(((decide ((97 : Int) ≤ ((c.toNat : Int) : Int))) && (decide (((c.toNat : Int) : Int) ≤ (122 : Int)))) || ((decide ((65 : Int) ≤ ((c.toNat : Int) : Int))) && (decide (((c.toNat : Int) : Int) ≤ (90 : Int)))))) && (decide ((48 : Int) ≤ ((c.toNat : Int) : Int)))), .val (.bool ((decide (((c.toNat : Int) : Int) ≤ (57 : Int)))))), ((true && !(((decide ((97 : Int) ≤ ((c.toNat : Int) : Int))) && (decide (((c.toNat : Int) : Int) ≤ (122 : Int)))) || ((decide ((65 : Int) ≤ ((c.toNat : Int) : Int))) && (decide (((c.toNat : Int) : Int) ≤ (90 : Int)))))), .val (.bool (((decide ((48 : Int) ≤ ((c.toNat : Int) : Int))) && (decide (((c.toNat : Int) : Int) ≤ (57 : Int))))))), (true, .val (.bool (((((decide ((97 : Int) ≤ ((c.toNat : Int) : Int))) && (decide (((c.toNat : Int) : Int) ≤ (122 : Int)))) || ((decide ((65 : Int) ≤ ((c.toNat : Int) : Int))) && (decide (((c.toNat : Int) : Int) ≤ (90 : Int))))) || ((decide ((48 : Int) ≤ ((c.toNat : Int) : Int))) && (decide (((c.toNat : Int) : Int) ≤ (57 : Int)))))))), (true, .val (.bool (((((decide ((97 : Int) ≤ ((c.toNat : Int) : Int))) && (decide (((c.toNat : Int) : Int) ≤ (122 : Int)))) || ((decide ((65 : Int) ≤ ((c.toNat : Int) : Int))) && (decide (((c.toNat : Int) : Int) ≤ (90 : Int))))) || ((decide ((48 : Int) ≤ ((c.toNat : Int) : Int))) && (decide (((c.toNat : Int) : Int) ≤ (57 : Int)))))))), ((true && !((((decide ((97 : Int) ≤ ((c.toNat : Int) : Int))) && (decide (((c.toNat : Int) : Int) ≤ (122 : Int)))) || ((decide ((65 : Int) ≤ ((c.toNat : Int) : Int))) && (decide (((c.toNat : Int) : Int) ≤ (90 : Int))))) || ((decide ((48 : Int) ≤ ((c.toNat : Int) : Int))) && (decide (((c.toNat : Int) : Int) ≤ (57 : Int)))))), .val (.int .u8 ((c.toNat : Int)))), ((true && !((((decide ((97 : Int) ≤ ((c.toNat : Int) : Int))) && (decide (((c.toNat : Int) : Int) ≤ (122 : Int)))) || ((decide ((65 : Int) ≤ ((c.toNat : Int) : Int))) && (decide (((c.toNat : Int) : Int) ≤ (90 : Int))))) || ((decide ((48 : Int) ≤ ((c.toNat : Int) : Int))) && (decide (((c.toNat : Int) : Int) ≤ (57 : Int)))))), .val (.bool ((((c.toNat : Int) : Int) == (95 : Int))))), (true, .val (.bool ((((((decide ((97 : Int) ≤ ((c.toNat : Int) : Int))) && (decide (((c.toNat : Int) : Int) ≤ (122 : Int)))) || ((decide ((65 : Int) ≤ ((c.toNat : Int) : Int))) && (decide (((c.toNat : Int) : Int) ≤ (90 : Int))))) || ((decide ((48 : Int) ≤ ((c.toNat : Int) : Int))) && (decide (((c.toNat : Int) : Int) ≤ (57 : Int))))) || (((c.toNat : Int) : Int) == (95 : Int)))))), (true, .val (.bool ((((((decide ((97 : Int) ≤ ((c.toNat : Int) : Int))) && (decide (((c.toNat : Int) : Int) ≤ (122 : Int)))) || ((decide ((65 : Int) ≤ ((c.toNat : Int) : Int))) && (decide (((c.toNat : Int) : Int) ≤ (90 : Int))))) || ((decide ((48 : Int) ≤ ((c.toNat : Int) : Int))) && (decide (((c.toNat : Int) : Int) ≤ (57 : Int))))) || (((c.toNat : Int) : Int) == (95 : Int))))))] [(0, .int .u8 ((c.toNat : Int)))] ⟨rfl, trivial⟩ (by kernel_rfl) (by kernel_rfl) (by kernel_rfl) ?_ ?_
  · refine ⟨⟨true, .none rfl, fun h w => optUndef h, fun zβ za zw zc => ?_⟩, ?_⟩
    · exact wp_move rfl (zc.kn.ev rfl) ⟨_, rfl, Below.refl _ _, optDef zβ rfl⟩
    refine ⟨⟨true, .none rfl, fun h w => optUndef h, fun zβ za zw zc => ?_⟩, ?_⟩
    · exact geq_5 rfl ((show za.eval (.tmp 3) = za.tmps.getD 3 undef from rfl).trans (optVal (zc.dep 0 3 (by kernel_rfl)) rfl rfl)) (zc.kn.ev rfl) ⟨_, rfl, Below.refl _ _, optDef zβ rfl⟩
    refine ⟨⟨true, .none rfl, fun h w => optUndef h, fun zβ za zw zc => ?_⟩, ?_⟩
    · exact wp_move rfl ((show za.eval (.tmp 4) = za.tmps.getD 4 undef from rfl).trans (optVal (zc.dep 1 4 (by kernel_rfl)) rfl rfl)) ⟨_, rfl, Below.refl _ _, optDef zβ rfl⟩
    refine ⟨⟨(true && (decide ((97 : Int) ≤ ((c.toNat : Int) : Int)))), .yes (c := (decide ((97 : Int) ≤ ((c.toNat : Int) : Int)))) (d := true) rfl (fun v w h => h), fun h w => optUndef h, fun zβ za zw zc => ?_⟩, ?_⟩
    · exact wp_move rfl (zc.kn.ev rfl) ⟨_, rfl, Below.refl _ _, optDef zβ rfl⟩
    refine ⟨⟨(true && (decide ((97 : Int) ≤ ((c.toNat : Int) : Int)))), .yes (c := (decide ((97 : Int) ≤ ((c.toNat : Int) : Int)))) (d := true) rfl (fun v w h => h), fun h w => optUndef h, fun zβ za zw zc => ?_⟩, ?_⟩
    · exact leq_5 rfl ((show za.eval (.tmp 6) = za.tmps.getD 6 undef from rfl).trans (optVal (zc.dep 3 6 (by kernel_rfl)) rfl zβ)) (zc.kn.ev rfl) ⟨_, rfl, Below.refl _ _, optDef zβ rfl⟩
    refine ⟨⟨true, .none rfl, fun h w => optUndef h, fun zβ za zw zc => ?_⟩, ?_⟩
    · exact wp_and rfl ((show za.eval (.tmp 5) = za.tmps.getD 5 undef from rfl).trans (optVal (zc.dep 2 5 (by kernel_rfl)) rfl rfl)) (fun hp => ((show za.eval (.tmp 7) = za.tmps.getD 7 undef from rfl).trans (optVal (zc.dep 4 7 (by kernel_rfl)) rfl (bMk zβ hp)))) ⟨_, rfl, Below.refl _ _, optDef zβ rfl⟩
    refine ⟨⟨true, .none rfl, fun h w => optUndef h, fun zβ za zw zc => ?_⟩, ?_⟩
    · exact wp_move rfl ((show za.eval (.tmp 8) = za.tmps.getD 8 undef from rfl).trans (optVal (zc.dep 5 8 (by kernel_rfl)) rfl rfl)) ⟨_, rfl, Below.refl _ _, optDef zβ rfl⟩
    refine ⟨⟨(true && !((decide ((97 : Int) ≤ ((c.toNat : Int) : Int))) && (decide (((c.toNat : Int) : Int) ≤ (122 : Int))))), .no (c := ((decide ((97 : Int) ≤ ((c.toNat : Int) : Int))) && (decide (((c.toNat : Int) : Int) ≤ (122 : Int))))) (d := true) rfl (fun v w h => h), fun h w => optUndef h, fun zβ za zw zc => ?_⟩, ?_⟩
    · exact wp_move rfl (zc.kn.ev rfl) ⟨_, rfl, Below.refl _ _, optDef zβ rfl⟩
    refine ⟨⟨(true && !((decide ((97 : Int) ≤ ((c.toNat : Int) : Int))) && (decide (((c.toNat : Int) : Int) ≤ (122 : Int))))), .no (c := ((decide ((97 : Int) ≤ ((c.toNat : Int) : Int))) && (decide (((c.toNat : Int) : Int) ≤ (122 : Int))))) (d := true) rfl (fun v w h => h), fun h w => optUndef h, fun zβ za zw zc => ?_⟩, ?_⟩
    · exact geq_5 rfl ((show za.eval (.tmp 10) = za.tmps.getD 10 undef from rfl).trans (optVal (zc.dep 7 10 (by kernel_rfl)) rfl zβ)) (zc.kn.ev rfl) ⟨_, rfl, Below.refl _ _, optDef zβ rfl⟩
    refine ⟨⟨(true && !((decide ((97 : Int) ≤ ((c.toNat : Int) : Int))) && (decide (((c.toNat : Int) : Int) ≤ (122 : Int))))), .no (c := ((decide ((97 : Int) ≤ ((c.toNat : Int) : Int))) && (decide (((c.toNat : Int) : Int) ≤ (122 : Int))))) (d := true) rfl (fun v w h => h), fun h w => optUndef h, fun zβ za zw zc => ?_⟩, ?_⟩
    · exact wp_move rfl ((show za.eval (.tmp 11) = za.tmps.getD 11 undef from rfl).trans (optVal (zc.dep 8 11 (by kernel_rfl)) rfl zβ)) ⟨_, rfl, Below.refl _ _, optDef zβ rfl⟩
    refine ⟨⟨((true && !((decide ((97 : Int) ≤ ((c.toNat : Int) : Int))) && (decide (((c.toNat : Int) : Int) ≤ (122 : Int))))) && (decide ((65 : Int) ≤ ((c.toNat : Int) : Int)))), .yes (c := (decide ((65 : Int) ≤ ((c.toNat : Int) : Int)))) (d := (true && !((decide ((97 : Int) ≤ ((c.toNat : Int) : Int))) && (decide (((c.toNat : Int) : Int) ≤ (122 : Int)))))) rfl (fun v w h => h), fun h w => optUndef h, fun zβ za zw zc => ?_⟩, ?_⟩
    · exact wp_move rfl (zc.kn.ev rfl) ⟨_, rfl, Below.refl _ _, optDef zβ rfl⟩
    refine ⟨⟨((true && !((decide ((97 : Int) ≤ ((c.toNat : Int) : Int))) && (decide (((c.toNat : Int) : Int) ≤ (122 : Int))))) && (decide ((65 : Int) ≤ ((c.toNat : Int) : Int)))), .yes (c := (decide ((65 : Int) ≤ ((c.toNat : Int) : Int)))) (d := (true && !((decide ((97 : Int) ≤ ((c.toNat : Int) : Int))) && (decide (((c.toNat : Int) : Int) ≤ (122 : Int)))))) rfl (fun v w h => h), fun h w => optUndef h, fun zβ za zw zc => ?_⟩, ?_⟩
    · exact leq_5 rfl ((show za.eval (.tmp 13) = za.tmps.getD 13 undef from rfl).trans (optVal (zc.dep 10 13 (by kernel_rfl)) rfl zβ)) (zc.kn.ev rfl) ⟨_, rfl, Below.refl _ _, optDef zβ rfl⟩
    refine ⟨⟨(true && !((decide ((97 : Int) ≤ ((c.toNat : Int) : Int))) && (decide (((c.toNat : Int) : Int) ≤ (122 : Int))))), .no (c := ((decide ((97 : Int) ≤ ((c.toNat : Int) : Int))) && (decide (((c.toNat : Int) : Int) ≤ (122 : Int))))) (d := true) rfl (fun v w h => h), fun h w => optUndef h, fun zβ za zw zc => ?_⟩, ?_⟩
    · exact wp_and rfl ((show za.eval (.tmp 12) = za.tmps.getD 12 undef from rfl).trans (optVal (zc.dep 9 12 (by kernel_rfl)) rfl zβ)) (fun hp => ((show za.eval (.tmp 14) = za.tmps.getD 14 undef from rfl).trans (optVal (zc.dep 11 14 (by kernel_rfl)) rfl (bMk zβ hp)))) ⟨_, rfl, Below.refl _ _, optDef zβ rfl⟩
    refine ⟨⟨true, .none rfl, fun h w => optUndef h, fun zβ za zw zc => ?_⟩, ?_⟩
    · exact wp_or rfl ((show za.eval (.tmp 9) = za.tmps.getD 9 undef from rfl).trans (optVal (zc.dep 6 9 (by kernel_rfl)) rfl rfl)) (fun hp => ((show za.eval (.tmp 15) = za.tmps.getD 15 undef from rfl).trans (optVal (zc.dep 12 15 (by kernel_rfl)) rfl (bMkN zβ hp)))) ⟨_, rfl, Below.refl _ _, optDef zβ rfl⟩
    refine ⟨⟨true, .none rfl, fun h w => optUndef h, fun zβ za zw zc => ?_⟩, ?_⟩
    · exact wp_move rfl ((show za.eval (.tmp 16) = za.tmps.getD 16 undef from rfl).trans (optVal (zc.dep 13 16 (by kernel_rfl)) rfl rfl)) ⟨_, rfl, Below.refl _ _, optDef zβ rfl⟩
    refine ⟨⟨(true && !(((decide ((97 : Int) ≤ ((c.toNat : Int) : Int))) && (decide (((c.toNat : Int) : Int) ≤ (122 : Int)))) || ((decide ((65 : Int) ≤ ((c.toNat : Int) : Int))) && (decide (((c.toNat : Int) : Int) ≤ (90 : Int)))))), .no (c := (((decide ((97 : Int) ≤ ((c.toNat : Int) : Int))) && (decide (((c.toNat : Int) : Int) ≤ (122 : Int)))) || ((decide ((65 : Int) ≤ ((c.toNat : Int) : Int))) && (decide (((c.toNat : Int) : Int) ≤ (90 : Int)))))) (d := true) rfl (fun v w h => h), fun h w => optUndef h, fun zβ za zw zc => ?_⟩, ?_⟩
    · exact wp_move rfl (zc.kn.ev rfl) ⟨_, rfl, Below.refl _ _, optDef zβ rfl⟩
    refine ⟨⟨(true && !(((decide ((97 : Int) ≤ ((c.toNat : Int) : Int))) && (decide (((c.toNat : Int) : Int) ≤ (122 : Int)))) || ((decide ((65 : Int) ≤ ((c.toNat : Int) : Int))) && (decide (((c.toNat : Int) : Int) ≤ (90 : Int)))))), .no (c := (((decide ((97 : Int) ≤ ((c.toNat : Int) : Int))) && (decide (((c.toNat : Int) : Int) ≤ (122 : Int)))) || ((decide ((65 : Int) ≤ ((c.toNat : Int) : Int))) && (decide (((c.toNat : Int) : Int) ≤ (90 : Int)))))) (d := true) rfl (fun v w h => h), fun h w => optUndef h, fun zβ za zw zc => ?_⟩, ?_⟩
    · exact geq_5 rfl ((show za.eval (.tmp 18) = za.tmps.getD 18 undef from rfl).trans (optVal (zc.dep 15 18 (by kernel_rfl)) rfl zβ)) (zc.kn.ev rfl) ⟨_, rfl, Below.refl _ _, optDef zβ rfl⟩
    refine ⟨⟨(true && !(((decide ((97 : Int) ≤ ((c.toNat : Int) : Int))) && (decide (((c.toNat : Int) : Int) ≤ (122 : Int)))) || ((decide ((65 : Int) ≤ ((c.toNat : Int) : Int))) && (decide (((c.toNat : Int) : Int) ≤ (90 : Int)))))), .no (c := (((decide ((97 : Int) ≤ ((c.toNat : Int) : Int))) && (decide (((c.toNat : Int) : Int) ≤ (122 : Int)))) || ((decide ((65 : Int) ≤ ((c.toNat : Int) : Int))) && (decide (((c.toNat : Int) : Int) ≤ (90 : Int)))))) (d := true) rfl (fun v w h => h), fun h w => optUndef h, fun zβ za zw zc => ?_⟩, ?_⟩
    · exact wp_move rfl ((show za.eval (.tmp 19) = za.tmps.getD 19 undef from rfl).trans (optVal (zc.dep 16 19 (by kernel_rfl)) rfl zβ)) ⟨_, rfl, Below.refl _ _, optDef zβ rfl⟩
    refine ⟨⟨((true && !(((decide ((97 : Int) ≤ ((c.toNat : Int) : Int))) && (decide (((c.toNat : Int) : Int) ≤ (122 : Int)))) || ((decide ((65 : Int) ≤ ((c.toNat : Int) : Int))) && (decide (((c.toNat : Int) : Int) ≤ (90 : Int)))))) && (decide ((48 : Int) ≤ ((c.toNat : Int) : Int)))), .yes (c := (decide ((48 : Int) ≤ ((c.toNat : Int) : Int)))) (d := (true && !(((decide ((97 : Int) ≤ ((c.toNat : Int) : Int))) && (decide (((c.toNat : Int) : Int) ≤ (122 : Int)))) || ((decide ((65 : Int) ≤ ((c.toNat : Int) : Int))) && (decide (((c.toNat : Int) : Int) ≤ (90 : Int))))))) rfl (fun v w h => h), fun h w => optUndef h, fun zβ za zw zc => ?_⟩, ?_⟩
    · exact wp_move rfl (zc.kn.ev rfl) ⟨_, rfl, Below.refl _ _, optDef zβ rfl⟩
    refine ⟨⟨((true && !(((decide ((97 : Int) ≤ ((c.toNat : Int) : Int))) && (decide (((c.toNat : Int) : Int) ≤ (122 : Int)))) || ((decide ((65 : Int) ≤ ((c.toNat : Int) : Int))) && (decide (((c.toNat : Int) : Int) ≤ (90 : Int)))))) && (decide ((48 : Int) ≤ ((c.toNat : Int) : Int)))), .yes (c := (decide ((48 : Int) ≤ ((c.toNat : Int) : Int)))) (d := (true && !(((decide ((97 : Int) ≤ ((c.toNat : Int) : Int))) && (decide (((c.toNat : Int) : Int) ≤ (122 : Int)))) || ((decide ((65 : Int) ≤ ((c.toNat : Int) : Int))) && (decide (((c.toNat : Int) : Int) ≤ (90 : Int))))))) rfl (fun v w h => h), fun h w => optUndef h, fun zβ za zw zc => ?_⟩, ?_⟩
    · exact leq_5 rfl ((show za.eval (.tmp 21) = za.tmps.getD 21 undef from rfl).trans (optVal (zc.dep 18 21 (by kernel_rfl)) rfl zβ)) (zc.kn.ev rfl) ⟨_, rfl, Below.refl _ _, optDef zβ rfl⟩
    refine ⟨⟨(true && !(((decide ((97 : Int) ≤ ((c.toNat : Int) : Int))) && (decide (((c.toNat : Int) : Int) ≤ (122 : Int)))) || ((decide ((65 : Int) ≤ ((c.toNat : Int) : Int))) && (decide (((c.toNat : Int) : Int) ≤ (90 : Int)))))), .no (c := (((decide ((97 : Int) ≤ ((c.toNat : Int) : Int))) && (decide (((c.toNat : Int) : Int) ≤ (122 : Int)))) || ((decide ((65 : Int) ≤ ((c.toNat : Int) : Int))) && (decide (((c.toNat : Int) : Int) ≤ (90 : Int)))))) (d := true) rfl (fun v w h => h), fun h w => optUndef h, fun zβ za zw zc => ?_⟩, ?_⟩
    · exact wp_and rfl ((show za.eval (.tmp 20) = za.tmps.getD 20 undef from rfl).trans (optVal (zc.dep 17 20 (by kernel_rfl)) rfl zβ)) (fun hp => ((show za.eval (.tmp 22) = za.tmps.getD 22 undef from rfl).trans (optVal (zc.dep 19 22 (by kernel_rfl)) rfl (bMk zβ hp)))) ⟨_, rfl, Below.refl _ _, optDef zβ rfl⟩
    refine ⟨⟨true, .none rfl, fun h w => optUndef h, fun zβ za zw zc => ?_⟩, ?_⟩
    · exact wp_or rfl ((show za.eval (.tmp 17) = za.tmps.getD 17 undef from rfl).trans (optVal (zc.dep 14 17 (by kernel_rfl)) rfl rfl)) (fun hp => ((show za.eval (.tmp 23) = za.tmps.getD 23 undef from rfl).trans (optVal (zc.dep 20 23 (by kernel_rfl)) rfl (bMkN zβ hp)))) ⟨_, rfl, Below.refl _ _, optDef zβ rfl⟩
    refine ⟨⟨true, .none rfl, fun h w => optUndef h, fun zβ za zw zc => ?_⟩, ?_⟩
    · exact wp_move rfl ((show za.eval (.tmp 24) = za.tmps.getD 24 undef from rfl).trans (optVal (zc.dep 21 24 (by kernel_rfl)) rfl rfl)) ⟨_, rfl, Below.refl _ _, optDef zβ rfl⟩
    refine ⟨⟨(true && !((((decide ((97 : Int) ≤ ((c.toNat : Int) : Int))) && (decide (((c.toNat : Int) : Int) ≤ (122 : Int)))) || ((decide ((65 : Int) ≤ ((c.toNat : Int) : Int))) && (decide (((c.toNat : Int) : Int) ≤ (90 : Int))))) || ((decide ((48 : Int) ≤ ((c.toNat : Int) : Int))) && (decide (((c.toNat : Int) : Int) ≤ (57 : Int)))))), .no (c := ((((decide ((97 : Int) ≤ ((c.toNat : Int) : Int))) && (decide (((c.toNat : Int) : Int) ≤ (122 : Int)))) || ((decide ((65 : Int) ≤ ((c.toNat : Int) : Int))) && (decide (((c.toNat : Int) : Int) ≤ (90 : Int))))) || ((decide ((48 : Int) ≤ ((c.toNat : Int) : Int))) && (decide (((c.toNat : Int) : Int) ≤ (57 : Int)))))) (d := true) rfl (fun v w h => h), fun h w => optUndef h, fun zβ za zw zc => ?_⟩, ?_⟩
    · exact wp_move rfl (zc.kn.ev rfl) ⟨_, rfl, Below.refl _ _, optDef zβ rfl⟩
    refine ⟨⟨(true && !((((decide ((97 : Int) ≤ ((c.toNat : Int) : Int))) && (decide (((c.toNat : Int) : Int) ≤ (122 : Int)))) || ((decide ((65 : Int) ≤ ((c.toNat : Int) : Int))) && (decide (((c.toNat : Int) : Int) ≤ (90 : Int))))) || ((decide ((48 : Int) ≤ ((c.toNat : Int) : Int))) && (decide (((c.toNat : Int) : Int) ≤ (57 : Int)))))), .no (c := ((((decide ((97 : Int) ≤ ((c.toNat : Int) : Int))) && (decide (((c.toNat : Int) : Int) ≤ (122 : Int)))) || ((decide ((65 : Int) ≤ ((c.toNat : Int) : Int))) && (decide (((c.toNat : Int) : Int) ≤ (90 : Int))))) || ((decide ((48 : Int) ≤ ((c.toNat : Int) : Int))) && (decide (((c.toNat : Int) : Int) ≤ (57 : Int)))))) (d := true) rfl (fun v w h => h), fun h w => optUndef h, fun zβ za zw zc => ?_⟩, ?_⟩
    · exact eql_5 rfl ((show za.eval (.tmp 26) = za.tmps.getD 26 undef from rfl).trans (optVal (zc.dep 23 26 (by kernel_rfl)) rfl zβ)) (zc.kn.ev rfl) ⟨_, rfl, Below.refl _ _, optDef zβ rfl⟩
    refine ⟨⟨true, .none rfl, fun h w => optUndef h, fun zβ za zw zc => ?_⟩, ?_⟩
    · exact wp_or rfl ((show za.eval (.tmp 25) = za.tmps.getD 25 undef from rfl).trans (optVal (zc.dep 22 25 (by kernel_rfl)) rfl rfl)) (fun hp => ((show za.eval (.tmp 27) = za.tmps.getD 27 undef from rfl).trans (optVal (zc.dep 24 27 (by kernel_rfl)) rfl (bMkN zβ hp)))) ⟨_, rfl, Below.refl _ _, optDef zβ rfl⟩
    refine ⟨⟨true, .none rfl, fun h w => optUndef h, fun zβ za zw zc => ?_⟩, ?_⟩
    · exact wp_assign rfl ((show za.eval (.tmp 28) = za.tmps.getD 28 undef from rfl).trans (optVal (zc.dep 25 28 (by kernel_rfl)) rfl rfl)) ⟨_, rfl, Below.refl _ _, optDef zβ rfl⟩
    exact trivial
  · intro za w1 zh hb2 zu
    have zh := zh.cons (d := 2) (v := .bool ((((((decide ((97 : Int) ≤ ((c.toNat : Int) : Int))) && (decide (((c.toNat : Int) : Int) ≤ (122 : Int)))) || ((decide ((65 : Int) ≤ ((c.toNat : Int) : Int))) && (decide (((c.toNat : Int) : Int) ≤ (90 : Int))))) || ((decide ((48 : Int) ≤ ((c.toNat : Int) : Int))) && (decide (((c.toNat : Int) : Int) ≤ (57 : Int))))) || (((c.toNat : Int) : Int) == (95 : Int))))) (optVal (zu 26 2 (by kernel_rfl)) rfl rfl)
    clear zu
    refine (show WE _ [(0, .int .u8 ((c.toNat : Int))), (2, .bool ((((((decide ((97 : Int) ≤ ((c.toNat : Int) : Int))) && (decide (((c.toNat : Int) : Int) ≤ (122 : Int)))) || ((decide ((65 : Int) ≤ ((c.toNat : Int) : Int))) && (decide (((c.toNat : Int) : Int) ≤ (90 : Int))))) || ((decide ((48 : Int) ≤ ((c.toNat : Int) : Int))) && (decide (((c.toNat : Int) : Int) ≤ (57 : Int))))) || (((c.toNat : Int) : Int) == (95 : Int)))))] w1 _ .normal from ?_) za (zh.sub ⟨rfl, rfl, trivial⟩)
    refine WE.next ?_
    refine WC.ret ?_
    refine WE.ret1 rfl rfl ?_
    exact ⟨_, rfl, congrArg Value.bool (by rw [byteOk_eq, byteOk_us]; rfl), hb2⟩

theorem bytes_take {s : ByteArray} {k : Nat} (h : k < s.size) : s.data.toList.take (k + 1) = s.data.toList.take k ++ [s.data.toList.getD k 0] := by
  have h' : k < s.data.toList.length := by simpa using h
  rw [List.take_succ_eq_append_getElem h', List.getD_eq_getElem?_getD, List.getElem?_eq_getElem h']; rfl
set_option maxRecDepth 100000 in
theorem every_any (s : ByteArray) (w : World) (hs : s.size ≤ maxLen) : Calls Tryd.prog 29 #[.string s, .func (.func 30) #[] #[]] w (Ret fun v' w' => v' = .bool (s.data.toList.all byteOk) ∧ Below w.heap.size w w') := by
  unfold maxLen at hs
  refine Calls.walk (l := [.string s, .func (.func 30) #[] #[]]) Tryd.func29 rfl (by kernel_rfl) ?_
  refine WC.sub (K' := [(0, .string s), (1, .func (.func 30) #[] #[])]) ⟨rfl, rfl, trivial⟩ ?_
  refine WC.seq ?_
  refine WC.region ?_
  refine WL.val (.bool false) rfl rfl rfl (fun za zC zh zk => wp_assign rfl (zh.ev rfl) zk) ?_
  refine WL.nil (WE.sub (K' := [(0, .string s), (1, .func (.func 30) #[] #[]), (4, .bool false)]) ⟨rfl, rfl, rfl, trivial⟩ ?_)
  refine WE.next ?_
  refine WC.seq ?_
  refine WC.seq ?_
  refine WC.region ?_
  refine WL.val (.string s) rfl rfl rfl (fun za zC zh zk => wp_move rfl (zh.ev rfl) zk) ?_
  refine WL.val (.int .i64 (((s.size : Nat) : Int))) rfl rfl rfl (fun za zC zh zk => len_9 rfl (zh.ev rfl) zk) ?_
  refine WL.val (.int .i64 0) rfl rfl rfl (fun za zC zh zk => wp_move rfl (zh.ev rfl) zk) ?_
  refine WL.nil (WE.sub (K' := [(0, .string s), (1, .func (.func 30) #[] #[]), (4, .bool false), (7, .int .i64 (((s.size : Nat) : Int))), (8, .int .i64 0)]) ⟨rfl, rfl, rfl, rfl, rfl, trivial⟩ ?_)
  refine WE.next ?_
  refine WC.block ?_
  refine WC.loop (X := Nat) (fun k => s.size - k) (fun k => [(0, .string s), (1, .func (.func 30) #[] #[]), (7, .int .i64 (((s.size : Nat) : Int))), (8, .int .i64 (((k : Nat) : Int)))]) (fun k w1 => k ≤ s.size ∧ (s.data.toList.take k).all byteOk = true ∧ Below w.heap.size w w1) 0 ⟨rfl, rfl, rfl, rfl, trivial⟩ ?_ ?_
  · exact ⟨Nat.zero_le _, rfl, (Below.refl _ _)⟩
  · rintro k w1 ⟨hk, hall, hb2⟩
    refine WC.seq ?_
    refine WC.region ?_
    refine WL.val (.bool ((decide ((((k : Nat) : Int) : Int) < (((s.size : Nat) : Int) : Int))))) rfl rfl rfl (fun za zC zh zk => lss_3 rfl (zh.ev rfl) (zh.ev rfl) zk) ?_
    refine WL.nil (WE.sub (K' := [(0, .string s), (1, .func (.func 30) #[] #[]), (7, .int .i64 (((s.size : Nat) : Int))), (8, .int .i64 (((k : Nat) : Int))), (9, .bool ((decide ((((k : Nat) : Int) : Int) < (((s.size : Nat) : Int) : Int)))))]) ⟨rfl, rfl, rfl, rfl, rfl, trivial⟩ ?_)
    refine WE.next ?_
    refine WC.seq ?_
    refine WC.cond rfl (fun h3 => ?_) (fun h3 => ?_)
    · have h3 : (((k : Nat) : Int) : Int) < (((s.size : Nat) : Int) : Int) := by simpa using h3
      refine WC.skip ?_
      refine WE.next ?_
      refine WC.seq ?_
      refine WC.block ?_
      refine WC.seq ?_
      refine WC.region ?_
      refine WL.val (.int .i64 (((k : Nat) : Int))) rfl rfl rfl (fun za zC zh zk => wp_move rfl (zh.ev rfl) zk) ?_
      refine WL.val (.int .i64 (((k : Nat) : Int))) rfl rfl rfl (fun za zC zh zk => wp_assign rfl (zh.ev rfl) zk) ?_
      refine WL.nil (WE.sub (K' := [(0, .string s), (1, .func (.func 30) #[] #[]), (5, .int .i64 (((k : Nat) : Int))), (7, .int .i64 (((s.size : Nat) : Int))), (8, .int .i64 (((k : Nat) : Int))), (9, .bool ((decide ((((k : Nat) : Int) : Int) < (((s.size : Nat) : Int) : Int)))))]) ⟨rfl, rfl, rfl, rfl, rfl, rfl, trivial⟩ ?_)
      refine WE.next ?_
      refine WC.seq ?_
      refine WC.region ?_
      refine WL.val (.func (.func 30) #[] #[]) rfl rfl rfl (fun za zC zh zk => wp_move rfl (zh.ev rfl) zk) ?_
      refine WL.val (.string s) rfl rfl rfl (fun za zC zh zk => wp_move rfl (zh.ev rfl) zk) ?_
      refine WL.val (.int .i64 (((k : Nat) : Int))) rfl rfl rfl (fun za zC zh zk => wp_move rfl (zh.ev rfl) zk) ?_
      refine WL.val (.int .u8 ((bget s k))) rfl rfl rfl (fun za zC zh zk => bix_9 (k := k) rfl (zh.ev rfl) (zh.ev rfl) (by first | omega | (simp; omega)) zk) ?_
      refine WL.call rfl rfl rfl (fun za zh zC => wp_callv (by kernel_rfl) rfl (zh.ev rfl) (hv1 (zh.ev rfl))) (letter_any (s.data.toList.getD k 0) _) ?_
      rintro _ w4 ⟨rfl, hbc⟩
      refine WL.val (.bool ((!(byteOk (s.data.toList.getD k 0))))) rfl rfl rfl (fun za zC zh zk => wp_not rfl (zh.ev rfl) zk) ?_
      refine WL.nil (WE.sub (K' := [(0, .string s), (1, .func (.func 30) #[] #[]), (5, .int .i64 (((k : Nat) : Int))), (7, .int .i64 (((s.size : Nat) : Int))), (8, .int .i64 (((k : Nat) : Int))), (9, .bool ((decide ((((k : Nat) : Int) : Int) < (((s.size : Nat) : Int) : Int))))), (16, .bool ((!(byteOk (s.data.toList.getD k 0)))))]) ⟨rfl, rfl, rfl, rfl, rfl, rfl, rfl, trivial⟩ ?_)
      refine WE.next ?_
      refine WC.cond rfl (fun h5 => ?_) (fun h5 => ?_)
      · have h5 : ¬ ((byteOk (s.data.toList.getD k 0)) = true) := by simpa using h5
        refine WC.seq ?_
        refine WC.region ?_
        refine WL.val (.bool false) rfl rfl rfl (fun za zC zh zk => wp_assign rfl (zh.ev rfl) zk) ?_
        refine WL.nil (WE.sub (K' := [(0, .string s), (1, .func (.func 30) #[] #[]), (4, .bool false), (5, .int .i64 (((k : Nat) : Int))), (7, .int .i64 (((s.size : Nat) : Int))), (8, .int .i64 (((k : Nat) : Int))), (9, .bool ((decide ((((k : Nat) : Int) : Int) < (((s.size : Nat) : Int) : Int))))), (16, .bool ((!(byteOk (s.data.toList.getD k 0)))))]) ⟨rfl, rfl, rfl, rfl, rfl, rfl, rfl, rfl, trivial⟩ ?_)
        refine WE.next ?_
        refine WC.ret ?_
        refine WE.blockRet ?_
        refine WE.thenRet ?_
        refine WE.thenRet ?_
        refine WE.blockRet ?_
        refine WE.thenRet ?_
        refine WE.ret1 rfl rfl ?_
        have hb6 : Below w.heap.size w w4 := (bstep hb2 hbc)
        exact ⟨_, rfl, congrArg Value.bool (by symm; rw [List.all_eq_false]; exact ⟨s.data.toList.getD k 0, by rw [List.getD_eq_getElem?_getD, List.getElem?_eq_getElem (by simpa using (show k < s.size by omega))]; simp, by assumption⟩), hb6⟩
      · have h5 : ¬ (¬ ((byteOk (s.data.toList.getD k 0)) = true)) := by simpa using h5
        refine WC.skip ?_
        refine WE.blockNormal ?_
        refine WE.next ?_
        refine WC.region ?_
        refine WL.val (.int .i64 ((((k + 1) : Nat) : Int))) rfl rfl rfl (fun za zC zh zk => addb_3 rfl (zh.ev rfl) (zh.ev rfl) (wrap_eq (by omega) (by omega) (by omega)) zk) ?_
        refine WL.val (.int .i64 ((((k + 1) : Nat) : Int))) rfl rfl rfl (fun za zC zh zk => wp_move rfl (zh.ev rfl) zk) ?_
        refine WL.nil (WE.sub (K' := [(0, .string s), (1, .func (.func 30) #[] #[]), (5, .int .i64 (((k : Nat) : Int))), (7, .int .i64 (((s.size : Nat) : Int))), (8, .int .i64 ((((k + 1) : Nat) : Int))), (9, .bool ((decide ((((k : Nat) : Int) : Int) < (((s.size : Nat) : Int) : Int))))), (16, .bool ((!(byteOk (s.data.toList.getD k 0)))))]) ⟨rfl, rfl, rfl, rfl, rfl, rfl, rfl, trivial⟩ ?_)
        refine WE.round (k + 1) ⟨rfl, rfl, rfl, rfl, trivial⟩ ?_ ?_
        · have hb7 : Below w.heap.size w w4 := (bstep hb2 hbc)
          exact ⟨by omega, by rw [bytes_take (by omega), List.all_append, hall]; simp_all, hb7⟩
        · omega
    · have h3 : ¬ ((((k : Nat) : Int) : Int) < (((s.size : Nat) : Int) : Int)) := by simpa using h3
      refine WC.exit ?_
      refine WE.thenExit ?_
      refine WE.thenExit ?_
      refine WE.blockIs rfl ?_
      refine WE.next ?_
      refine WC.seq ?_
      refine WC.region ?_
      refine WL.val (.bool true) rfl rfl rfl (fun za zC zh zk => wp_assign rfl (zh.ev rfl) zk) ?_
      refine WL.nil (WE.sub (K' := [(0, .string s), (1, .func (.func 30) #[] #[]), (4, .bool true), (7, .int .i64 (((s.size : Nat) : Int))), (8, .int .i64 (((k : Nat) : Int))), (9, .bool ((decide ((((k : Nat) : Int) : Int) < (((s.size : Nat) : Int) : Int)))))]) ⟨rfl, rfl, rfl, rfl, rfl, rfl, trivial⟩ ?_)
      refine WE.next ?_
      refine WC.ret ?_
      refine WE.ret1 rfl rfl ?_
      exact ⟨_, rfl, congrArg Value.bool (by rw [List.take_of_length_le (by simp; omega)] at hall; exact hall.symm), hb2⟩

set_option maxRecDepth 100000 in
theorem pnamed_any (s : ByteArray) (w : World) (hs : s.size ≤ maxLen) : Calls Tryd.prog 17 #[.string s] w (Ret fun v' w' => v' = .bool (named s) ∧ Below w.heap.size w w') := by
  have hs0 := hs
  unfold maxLen at hs
  refine Calls.walk (l := [.string s]) Tryd.func17 rfl (by kernel_rfl) ?_
  refine WC.sub (K' := [(0, .string s)]) ⟨rfl, trivial⟩ ?_
  refine WC.seq ?_
  refine WC.region ?_
  refine WL.val (.bool false) rfl rfl rfl (fun za zC zh zk => wp_assign rfl (zh.ev rfl) zk) ?_
  refine WL.nil (WE.sub (K' := [(0, .string s), (2, .bool false)]) ⟨rfl, rfl, trivial⟩ ?_)
  refine WE.next ?_
  refine WC.seq ?_
  refine WC.opt [(true, .val (.string s)), (true, .val (.bool ((!decide (s = (⟨#[]⟩ : ByteArray)))))), (true, .val (.bool ((!decide (s = (⟨#[]⟩ : ByteArray)))))), ((true && (!decide (s = (⟨#[]⟩ : ByteArray)))), .val (.string s)), ((true && (!decide (s = (⟨#[]⟩ : ByteArray)))), .val (.int .i64 (((s.size : Nat) : Int)))), ((true && (!decide (s = (⟨#[]⟩ : ByteArray)))), .val (.bool ((decide ((((s.size : Nat) : Int) : Int) ≤ (40 : Int)))))), (true, .val (.bool (((!decide (s = (⟨#[]⟩ : ByteArray))) && (decide ((((s.size : Nat) : Int) : Int) ≤ (40 : Int))))))), (true, .val (.bool (((!decide (s = (⟨#[]⟩ : ByteArray))) && (decide ((((s.size : Nat) : Int) : Int) ≤ (40 : Int))))))), ((true && ((!decide (s = (⟨#[]⟩ : ByteArray))) && (decide ((((s.size : Nat) : Int) : Int) ≤ (40 : Int))))), .val (.string s)), ((true && ((!decide (s = (⟨#[]⟩ : ByteArray))) && (decide ((((s.size : Nat) : Int) : Int) ≤ (40 : Int))))), .val (.bool ((s.data.toList.all byteOk)))), (true, .val (.bool ((((!decide (s = (⟨#[]⟩ : ByteArray))) && (decide ((((s.size : Nat) : Int) : Int) ≤ (40 : Int)))) && (s.data.toList.all byteOk))))), (true, .val (.bool ((((!decide (s = (⟨#[]⟩ : ByteArray))) && (decide ((((s.size : Nat) : Int) : Int) ≤ (40 : Int)))) && (s.data.toList.all byteOk)))))] [(0, .string s)] ⟨rfl, trivial⟩ (by kernel_rfl) (by kernel_rfl) (by kernel_rfl) ?_ ?_
  · refine ⟨⟨true, .none rfl, fun h w => optUndef h, fun zβ za zw zc => ?_⟩, ?_⟩
    · exact wp_move rfl (zc.kn.ev rfl) ⟨_, rfl, Below.refl _ _, optDef zβ rfl⟩
    refine ⟨⟨true, .none rfl, fun h w => optUndef h, fun zβ za zw zc => ?_⟩, ?_⟩
    · exact neq_9 rfl ((show za.eval (.tmp 3) = za.tmps.getD 3 undef from rfl).trans (optVal (zc.dep 0 3 (by kernel_rfl)) rfl rfl)) (zc.kn.ev rfl) ⟨_, rfl, Below.refl _ _, optDef zβ rfl⟩
    refine ⟨⟨true, .none rfl, fun h w => optUndef h, fun zβ za zw zc => ?_⟩, ?_⟩
    · exact wp_move rfl ((show za.eval (.tmp 4) = za.tmps.getD 4 undef from rfl).trans (optVal (zc.dep 1 4 (by kernel_rfl)) rfl rfl)) ⟨_, rfl, Below.refl _ _, optDef zβ rfl⟩
    refine ⟨⟨(true && (!decide (s = (⟨#[]⟩ : ByteArray)))), .yes (c := (!decide (s = (⟨#[]⟩ : ByteArray)))) (d := true) rfl (fun v w h => h), fun h w => optUndef h, fun zβ za zw zc => ?_⟩, ?_⟩
    · exact wp_move rfl (zc.kn.ev rfl) ⟨_, rfl, Below.refl _ _, optDef zβ rfl⟩
    refine ⟨⟨(true && (!decide (s = (⟨#[]⟩ : ByteArray)))), .yes (c := (!decide (s = (⟨#[]⟩ : ByteArray)))) (d := true) rfl (fun v w h => h), fun h w => optUndef h, fun zβ za zw zc => ?_⟩, ?_⟩
    · exact len_9 rfl ((show za.eval (.tmp 6) = za.tmps.getD 6 undef from rfl).trans (optVal (zc.dep 3 6 (by kernel_rfl)) rfl zβ)) ⟨_, rfl, Below.refl _ _, optDef zβ rfl⟩
    refine ⟨⟨(true && (!decide (s = (⟨#[]⟩ : ByteArray)))), .yes (c := (!decide (s = (⟨#[]⟩ : ByteArray)))) (d := true) rfl (fun v w h => h), fun h w => optUndef h, fun zβ za zw zc => ?_⟩, ?_⟩
    · exact leq_3 rfl ((show za.eval (.tmp 7) = za.tmps.getD 7 undef from rfl).trans (optVal (zc.dep 4 7 (by kernel_rfl)) rfl zβ)) (zc.kn.ev rfl) ⟨_, rfl, Below.refl _ _, optDef zβ rfl⟩
    refine ⟨⟨true, .none rfl, fun h w => optUndef h, fun zβ za zw zc => ?_⟩, ?_⟩
    · exact wp_and rfl ((show za.eval (.tmp 5) = za.tmps.getD 5 undef from rfl).trans (optVal (zc.dep 2 5 (by kernel_rfl)) rfl rfl)) (fun hp => ((show za.eval (.tmp 8) = za.tmps.getD 8 undef from rfl).trans (optVal (zc.dep 5 8 (by kernel_rfl)) rfl (bMk zβ hp)))) ⟨_, rfl, Below.refl _ _, optDef zβ rfl⟩
    refine ⟨⟨true, .none rfl, fun h w => optUndef h, fun zβ za zw zc => ?_⟩, ?_⟩
    · exact wp_move rfl ((show za.eval (.tmp 9) = za.tmps.getD 9 undef from rfl).trans (optVal (zc.dep 6 9 (by kernel_rfl)) rfl rfl)) ⟨_, rfl, Below.refl _ _, optDef zβ rfl⟩
    refine ⟨⟨(true && ((!decide (s = (⟨#[]⟩ : ByteArray))) && (decide ((((s.size : Nat) : Int) : Int) ≤ (40 : Int))))), .yes (c := ((!decide (s = (⟨#[]⟩ : ByteArray))) && (decide ((((s.size : Nat) : Int) : Int) ≤ (40 : Int))))) (d := true) rfl (fun v w h => h), fun h w => optUndef h, fun zβ za zw zc => ?_⟩, ?_⟩
    · exact wp_move rfl (zc.kn.ev rfl) ⟨_, rfl, Below.refl _ _, optDef zβ rfl⟩
    refine ⟨⟨(true && ((!decide (s = (⟨#[]⟩ : ByteArray))) && (decide ((((s.size : Nat) : Int) : Int) ≤ (40 : Int))))), .yes (c := ((!decide (s = (⟨#[]⟩ : ByteArray))) && (decide ((((s.size : Nat) : Int) : Int) ≤ (40 : Int))))) (d := true) rfl (fun v w h => h), fun h w => optUndef h, fun zβ za zw zc => ?_⟩, ?_⟩
    · exact wp_call (by kernel_rfl) rfl (hv2 ((show za.eval (.tmp 11) = za.tmps.getD 11 undef from rfl).trans (optVal (zc.dep 8 11 (by kernel_rfl)) rfl zβ)) (zc.kn.ev rfl)) (every_any s _ hs0) (fun v w' h => ⟨v, rfl, h.2, optDef zβ h.1⟩)
    refine ⟨⟨true, .none rfl, fun h w => optUndef h, fun zβ za zw zc => ?_⟩, ?_⟩
    · exact wp_and rfl ((show za.eval (.tmp 10) = za.tmps.getD 10 undef from rfl).trans (optVal (zc.dep 7 10 (by kernel_rfl)) rfl rfl)) (fun hp => ((show za.eval (.tmp 12) = za.tmps.getD 12 undef from rfl).trans (optVal (zc.dep 9 12 (by kernel_rfl)) rfl (bMk zβ hp)))) ⟨_, rfl, Below.refl _ _, optDef zβ rfl⟩
    refine ⟨⟨true, .none rfl, fun h w => optUndef h, fun zβ za zw zc => ?_⟩, ?_⟩
    · exact wp_assign rfl ((show za.eval (.tmp 13) = za.tmps.getD 13 undef from rfl).trans (optVal (zc.dep 10 13 (by kernel_rfl)) rfl rfl)) ⟨_, rfl, Below.refl _ _, optDef zβ rfl⟩
    exact trivial
  · intro za w1 zh hb2 zu
    have zh := zh.cons (d := 2) (v := .bool ((((!decide (s = (⟨#[]⟩ : ByteArray))) && (decide ((((s.size : Nat) : Int) : Int) ≤ (40 : Int)))) && (s.data.toList.all byteOk)))) (optVal (zu 11 2 (by kernel_rfl)) rfl rfl)
    clear zu
    refine (show WE _ [(0, .string s), (2, .bool ((((!decide (s = (⟨#[]⟩ : ByteArray))) && (decide ((((s.size : Nat) : Int) : Int) ≤ (40 : Int)))) && (s.data.toList.all byteOk))))] w1 _ .normal from ?_) za (zh.sub ⟨rfl, rfl, trivial⟩)
    refine WE.next ?_
    refine WC.ret ?_
    refine WE.ret1 rfl rfl ?_
    refine ⟨_, rfl, congrArg Value.bool ?_, hb2⟩
    unfold named
    congr 1
    rw [Bool.eq_iff_iff]
    simp only [Bool.and_eq_true, Bool.not_eq_true', decide_eq_true_eq, decide_eq_false_iff_not]
    have e : s = ⟨#[]⟩ ↔ s.size = 0 := ⟨fun h => by rw [h]; rfl, fun h => ByteArray.ext (Array.eq_empty_of_size_eq_zero h)⟩
    rw [e]
    omega

set_option maxRecDepth 100000 in
theorem pone_any (x : Sy) (w : World) (hs : x.name.size ≤ maxLen) : Calls Tryd.prog 13 #[x.val] w (Ret fun v' w' => v' = .int .i64 x.one ∧ Below w.heap.size w w') := by
  unfold Sy.val
  refine Calls.walk (l := [.agg #[.string x.name, .int .i64 x.ar, .bool x.pred]]) Tryd.func13 rfl (by kernel_rfl) ?_
  refine WC.sub (K' := [(0, .agg #[.string x.name, .int .i64 x.ar, .bool x.pred])]) ⟨rfl, trivial⟩ ?_
  refine WC.seq ?_
  refine WC.region ?_
  refine WL.step (post := NewBlk w 26 #[.string x.name, .int .i64 x.ar, .bool x.pred]) rfl rfl rfl (fun za zC zh zk => box_26 rfl (zh.ev rfl) (zk _ _ (newBlk _ _ _))) ?_
  rintro _ w1 ⟨g2, rfl, hg3, hB4, hb5, hz6⟩
  have hl7 : w.heap.size ≤ g2 := by omega
  refine WL.val (.int .i64 0) rfl rfl rfl (fun za zC zh zk => wp_assign rfl (zh.ev rfl) zk) ?_
  refine WL.nil (WE.sub (K' := [(0, .agg #[.string x.name, .int .i64 x.ar, .bool x.pred]), (1, .pointer (some ⟨g2, 0, none⟩)), (2, .int .i64 0)]) ⟨rfl, rfl, rfl, trivial⟩ ?_)
  refine WE.next ?_
  refine WC.seq ?_
  refine WC.block ?_
  refine WC.seq ?_
  refine WC.region ?_
  refine WL.val (.pointer (some ⟨g2, 0, none⟩)) rfl rfl rfl (fun za zC zh zk => fld_26_0 rfl (zh.ev rfl) zk) ?_
  refine WL.val (.string x.name) rfl rfl rfl (fun za zC zh zk => ld_9 rfl (zh.ev rfl) ((hB4.cell 0).trans rfl) zk) ?_
  refine WL.call rfl rfl rfl (fun za zh zC => wp_call (by kernel_rfl) rfl (hv1 (zh.ev rfl))) (pnamed_any _ _ hs) ?_
  rintro _ w8 ⟨rfl, hbc⟩
  refine WL.val (.bool ((!(named x.name)))) rfl rfl rfl (fun za zC zh zk => wp_not rfl (zh.ev rfl) zk) ?_
  refine WL.val (.bool ((!(named x.name)))) rfl rfl rfl (fun za zC zh zk => wp_assign rfl (zh.ev rfl) zk) ?_
  refine WL.nil (WE.sub (K' := [(0, .agg #[.string x.name, .int .i64 x.ar, .bool x.pred]), (1, .pointer (some ⟨g2, 0, none⟩)), (2, .int .i64 0), (3, .bool ((!(named x.name))))]) ⟨rfl, rfl, rfl, rfl, trivial⟩ ?_)
  refine WE.next ?_
  refine WC.cond rfl (fun h9 => ?_) (fun h9 => ?_)
  · have h9 : ¬ ((named x.name) = true) := by simpa using h9
    refine WC.seq ?_
    refine WC.region ?_
    refine WL.val (.int .i64 111) rfl rfl rfl (fun za zC zh zk => wp_assign rfl (zh.ev rfl) zk) ?_
    refine WL.nil (WE.sub (K' := [(0, .agg #[.string x.name, .int .i64 x.ar, .bool x.pred]), (1, .pointer (some ⟨g2, 0, none⟩)), (2, .int .i64 111), (3, .bool ((!(named x.name))))]) ⟨rfl, rfl, rfl, rfl, trivial⟩ ?_)
    refine WE.next ?_
    refine WC.ret ?_
    refine WE.blockRet ?_
    refine WE.thenRet ?_
    refine WE.ret1 rfl rfl ?_
    have hb10 : Below w.heap.size w w8 := (bstep hb5 hbc)
    refine ⟨_, rfl, congrArg (Value.int .i64) ?_, hb10⟩
    unfold Sy.one
    simp_all
  · have h9 : ¬ (¬ ((named x.name) = true)) := by simpa using h9
    refine WC.seq ?_
    have hB11 := hB4.below hbc
    refine WC.opt [(true, .val (.pointer (some ⟨g2, 1, none⟩))), (true, .val (.int .i64 x.ar)), (true, .val (.bool ((decide ((x.ar : Int) < (0 : Int)))))), (true, .val (.bool ((decide ((x.ar : Int) < (0 : Int)))))), ((true && !(decide ((x.ar : Int) < (0 : Int)))), .val (.pointer (some ⟨g2, 1, none⟩))), ((true && !(decide ((x.ar : Int) < (0 : Int)))), .val (.int .i64 x.ar)), ((true && !(decide ((x.ar : Int) < (0 : Int)))), .val (.bool ((decide ((6 : Int) < (x.ar : Int)))))), (true, .val (.bool (((decide ((x.ar : Int) < (0 : Int))) || (decide ((6 : Int) < (x.ar : Int))))))), (true, .val (.bool (((decide ((x.ar : Int) < (0 : Int))) || (decide ((6 : Int) < (x.ar : Int)))))))] [(0, .agg #[.string x.name, .int .i64 x.ar, .bool x.pred]), (1, .pointer (some ⟨g2, 0, none⟩)), (2, .int .i64 0), (3, .bool ((!(named x.name))))] ⟨rfl, rfl, rfl, rfl, trivial⟩ (by kernel_rfl) (by kernel_rfl) (by kernel_rfl) ?_ ?_
    · refine ⟨⟨true, .none rfl, fun h w => optUndef h, fun zβ za zw zc => ?_⟩, ?_⟩
      · exact fld_26_1 rfl (zc.kn.ev rfl) ⟨_, rfl, Below.refl _ _, optDef zβ rfl⟩
      refine ⟨⟨true, .none rfl, fun h w => optUndef h, fun zβ za zw zc => ?_⟩, ?_⟩
      · exact ld_3 rfl ((show za.eval (.tmp 9) = za.tmps.getD 9 undef from rfl).trans (optVal (zc.dep 0 9 (by kernel_rfl)) rfl rfl)) (bkeeps zc.below _ _ ((hB11.cell 1).trans rfl)) ⟨_, rfl, Below.refl _ _, optDef zβ rfl⟩
      refine ⟨⟨true, .none rfl, fun h w => optUndef h, fun zβ za zw zc => ?_⟩, ?_⟩
      · exact lss_3 rfl ((show za.eval (.tmp 10) = za.tmps.getD 10 undef from rfl).trans (optVal (zc.dep 1 10 (by kernel_rfl)) rfl rfl)) (zc.kn.ev rfl) ⟨_, rfl, Below.refl _ _, optDef zβ rfl⟩
      refine ⟨⟨true, .none rfl, fun h w => optUndef h, fun zβ za zw zc => ?_⟩, ?_⟩
      · exact wp_move rfl ((show za.eval (.tmp 11) = za.tmps.getD 11 undef from rfl).trans (optVal (zc.dep 2 11 (by kernel_rfl)) rfl rfl)) ⟨_, rfl, Below.refl _ _, optDef zβ rfl⟩
      refine ⟨⟨(true && !(decide ((x.ar : Int) < (0 : Int)))), .no (c := (decide ((x.ar : Int) < (0 : Int)))) (d := true) rfl (fun v w h => h), fun h w => optUndef h, fun zβ za zw zc => ?_⟩, ?_⟩
      · exact fld_26_1 rfl (zc.kn.ev rfl) ⟨_, rfl, Below.refl _ _, optDef zβ rfl⟩
      refine ⟨⟨(true && !(decide ((x.ar : Int) < (0 : Int)))), .no (c := (decide ((x.ar : Int) < (0 : Int)))) (d := true) rfl (fun v w h => h), fun h w => optUndef h, fun zβ za zw zc => ?_⟩, ?_⟩
      · exact ld_3 rfl ((show za.eval (.tmp 13) = za.tmps.getD 13 undef from rfl).trans (optVal (zc.dep 4 13 (by kernel_rfl)) rfl zβ)) (bkeeps zc.below _ _ ((hB11.cell 1).trans rfl)) ⟨_, rfl, Below.refl _ _, optDef zβ rfl⟩
      refine ⟨⟨(true && !(decide ((x.ar : Int) < (0 : Int)))), .no (c := (decide ((x.ar : Int) < (0 : Int)))) (d := true) rfl (fun v w h => h), fun h w => optUndef h, fun zβ za zw zc => ?_⟩, ?_⟩
      · exact gtr_3 rfl ((show za.eval (.tmp 14) = za.tmps.getD 14 undef from rfl).trans (optVal (zc.dep 5 14 (by kernel_rfl)) rfl zβ)) (zc.kn.ev rfl) ⟨_, rfl, Below.refl _ _, optDef zβ rfl⟩
      refine ⟨⟨true, .none rfl, fun h w => optUndef h, fun zβ za zw zc => ?_⟩, ?_⟩
      · exact wp_or rfl ((show za.eval (.tmp 12) = za.tmps.getD 12 undef from rfl).trans (optVal (zc.dep 3 12 (by kernel_rfl)) rfl rfl)) (fun hp => ((show za.eval (.tmp 15) = za.tmps.getD 15 undef from rfl).trans (optVal (zc.dep 6 15 (by kernel_rfl)) rfl (bMkN zβ hp)))) ⟨_, rfl, Below.refl _ _, optDef zβ rfl⟩
      refine ⟨⟨true, .none rfl, fun h w => optUndef h, fun zβ za zw zc => ?_⟩, ?_⟩
      · exact wp_assign rfl ((show za.eval (.tmp 16) = za.tmps.getD 16 undef from rfl).trans (optVal (zc.dep 7 16 (by kernel_rfl)) rfl rfl)) ⟨_, rfl, Below.refl _ _, optDef zβ rfl⟩
      exact trivial
    · intro za w12 zh hb13 zu
      have zh := zh.cons (d := 8) (v := .bool (((decide ((x.ar : Int) < (0 : Int))) || (decide ((6 : Int) < (x.ar : Int)))))) (optVal (zu 8 8 (by kernel_rfl)) rfl rfl)
      clear zu
      refine (show WE _ [(0, .agg #[.string x.name, .int .i64 x.ar, .bool x.pred]), (1, .pointer (some ⟨g2, 0, none⟩)), (2, .int .i64 0), (3, .bool ((!(named x.name)))), (8, .bool (((decide ((x.ar : Int) < (0 : Int))) || (decide ((6 : Int) < (x.ar : Int))))))] w12 _ .normal from ?_) za (zh.sub ⟨rfl, rfl, rfl, rfl, rfl, trivial⟩)
      refine WE.next ?_
      refine WC.cond rfl (fun h14 => ?_) (fun h14 => ?_)
      · have h14 : ((x.ar : Int) < (0 : Int)) ∨ ((6 : Int) < (x.ar : Int)) := by simpa using h14
        refine WC.seq ?_
        refine WC.region ?_
        refine WL.val (.int .i64 112) rfl rfl rfl (fun za zC zh zk => wp_assign rfl (zh.ev rfl) zk) ?_
        refine WL.nil (WE.sub (K' := [(0, .agg #[.string x.name, .int .i64 x.ar, .bool x.pred]), (1, .pointer (some ⟨g2, 0, none⟩)), (2, .int .i64 112), (3, .bool ((!(named x.name)))), (8, .bool (((decide ((x.ar : Int) < (0 : Int))) || (decide ((6 : Int) < (x.ar : Int))))))]) ⟨rfl, rfl, rfl, rfl, rfl, trivial⟩ ?_)
        refine WE.next ?_
        refine WC.ret ?_
        refine WE.blockRet ?_
        refine WE.thenRet ?_
        refine WE.ret1 rfl rfl ?_
        have hb15 : Below w.heap.size w w12 := (bstep (bstep hb5 hbc) hb13)
        refine ⟨_, rfl, congrArg (Value.int .i64) ?_, hb15⟩
        unfold Sy.one
        simp_all
      · have h14 : ¬ (((x.ar : Int) < (0 : Int)) ∨ ((6 : Int) < (x.ar : Int))) := by simpa using h14
        refine WC.skip ?_
        refine WE.blockNormal ?_
        refine WE.next ?_
        refine WC.seq ?_
        refine WC.region ?_
        refine WL.val (.int .i64 0) rfl rfl rfl (fun za zC zh zk => wp_assign rfl (zh.ev rfl) zk) ?_
        refine WL.nil (WE.sub (K' := [(0, .agg #[.string x.name, .int .i64 x.ar, .bool x.pred]), (1, .pointer (some ⟨g2, 0, none⟩)), (2, .int .i64 0), (3, .bool ((!(named x.name)))), (8, .bool (((decide ((x.ar : Int) < (0 : Int))) || (decide ((6 : Int) < (x.ar : Int))))))]) ⟨rfl, rfl, rfl, rfl, rfl, trivial⟩ ?_)
        refine WE.next ?_
        refine WC.ret ?_
        refine WE.ret1 rfl rfl ?_
        have hb16 : Below w.heap.size w w12 := (bstep (bstep hb5 hbc) hb13)
        refine ⟨_, rfl, congrArg (Value.int .i64) ?_, hb16⟩
        unfold Sy.one
        simp_all

set_option maxRecDepth 100000 in
theorem ptruth_any (w : World) : Calls Tryd.prog 24 #[] w (Ret fun v' w' => v' = truth.val ∧ Below w.heap.size w w') := by
  refine Calls.walk (l := []) Tryd.func24 rfl (by kernel_rfl) ?_
  refine WC.sub (K' := []) trivial ?_
  refine WC.seq ?_
  refine WC.region ?_
  refine WL.step (post := NewBlk w 26 #[.string (⟨#[]⟩), .int .i64 0, .bool false]) rfl rfl rfl (fun za zC zh zk => alloc_26 rfl (zk _ _ (newBlk _ _ _))) ?_
  rintro _ w1 ⟨g2, rfl, hg3, hB4, hb5, hz6⟩
  have hl7 : w.heap.size ≤ g2 := by omega
  refine WL.nil (WE.sub (K' := [(0, .pointer (some ⟨g2, 0, none⟩))]) ⟨rfl, trivial⟩ ?_)
  refine WE.next ?_
  refine WC.seq ?_
  refine WC.region ?_
  refine WL.val (.agg #[.string ((⟨#[36, 116, 114, 117, 101]⟩ : ByteArray)), .int .i64 0, .bool true]) rfl rfl rfl (fun za zC zh zk => build_26_0_2 rfl (zh.ev rfl) (zh.ev rfl) zk) ?_
  refine WL.step (post := fun _ w' => Upd g2 w1 w' ∧ Blk w' g2 26 #[.string ((⟨#[36, 116, 114, 117, 101]⟩ : ByteArray)), .int .i64 0, .bool true]) rfl rfl rfl (fun za zC zh zk => st_26 rfl (zh.ev rfl) (zh.ev rfl) rfl rfl rfl hB4 (by first | decide | simp) (fun v => zk v _ ⟨((Upd.at_ _ _ _ _).trans (Upd.at_ _ _ _ _)).trans (Upd.at_ _ _ _ _), ((hB4.set_ 0 _).set_ 1 _).set_ 2 _⟩)) ?_
  rintro v11 w8 ⟨hu9, hB10⟩
  have hb12 := upd_below hb5 hu9 (by omega)
  refine WL.nil (WE.sub (K' := [(0, .pointer (some ⟨g2, 0, none⟩))]) ⟨rfl, trivial⟩ ?_)
  refine WE.next ?_
  refine WC.ret ?_
  refine WE.retAny (v := .agg #[.string ((⟨#[36, 116, 114, 117, 101]⟩ : ByteArray)), .int .i64 0, .bool true]) (fun za zh => ?_) ?_
  · have z0 : za.tmps[0]?.getD undef = .pointer (some ⟨g2, 0, none⟩) := by rw [← Array.getD_eq_getD_getElem?]; exact zh.knows 0 _ rfl
    have y0 : w8.cell? ⟨g2, 0, none⟩ = some (.string ((⟨#[36, 116, 114, 117, 101]⟩ : ByteArray))) := ((hB10.cell 0).trans rfl)
    have y1 : w8.cell? ⟨g2, 1, none⟩ = some (.int .i64 0) := ((hB10.cell 1).trans rfl)
    have y2 : w8.cell? ⟨g2, 2, none⟩ = some (.bool true) := ((hB10.cell 2).trans rfl)
    simp [results, Tryd.results24, z0, y0, y1, y2, go_sem]
  · exact ⟨_, rfl, rfl, hb12⟩

end Go.Proofs.YtbnjppmmhhjjbaaDoor
