/- Regions in whatever order, in which operations that change the memory may be guarded: one behind the other, each with what it yields. -/
import Derived.Test.YtbohlpfndiiimaaBKNa
import Derived.Test.YtbohlpfndiiimaaBKNb
import Derived.Test.YtbohlpfndiiimaaBKNd

/- The walks through the program of signatures. -/
namespace Go.Proofs.Ytbohlpfndiiimaa
open Go.RowKit Go
set_option linter.unusedVariables false
set_option linter.unusedSimpArgs false
theorem byteOk_eq (c : UInt8) : ((((decide ((97 : Int) ≤ (c.toNat : Int))) && (decide ((c.toNat : Int) ≤ (122 : Int)))) || ((decide ((65 : Int) ≤ (c.toNat : Int))) && (decide ((c.toNat : Int) ≤ (90 : Int))))) || ((decide ((48 : Int) ≤ (c.toNat : Int))) && (decide ((c.toNat : Int) ≤ (57 : Int))))) = ((97 ≤ c && c ≤ 122) || (65 ≤ c && c ≤ 90) || (48 ≤ c && c ≤ 57)) := by
  have h : ∀ a b : UInt8, decide (a ≤ b) = decide ((a.toNat : Int) ≤ (b.toNat : Int)) := fun a b => by rw [decide_eq_decide, UInt8.le_iff_toNat_le]; omega
  simp only [h]; rfl
theorem byteOk_us (c : UInt8) : ((c.toNat : Int) == (95 : Int)) = (c == 95) := by
  rw [Bool.eq_iff_iff, beq_iff_eq, beq_iff_eq, ← UInt8.toNat_inj]
  exact ⟨fun h => by have : c.toNat = 95 := by omega
                     exact this, fun h => by rw [h]; rfl⟩
set_option maxRecDepth 100000 in
theorem letter_any (c : UInt8) (w : World) : Calls Try.prog 72 #[.int .u8 (c.toNat : Int)] w (Ret fun v' w' => v' = .bool (byteOk c) ∧ Below w.heap.size w w') := by
  refine Calls.walk (l := [.int .u8 ((c.toNat : Int))]) Try.func72 rfl (by kernel_rfl) ?_
  refine WC.sub (K' := [(0, .int .u8 ((c.toNat : Int)))]) ⟨rfl, trivial⟩ ?_
  refine WC.seq ?_
  refine WC.region ?_
  refine WL.asg rfl rfl rfl rfl rfl ?_
  refine WL.nil ?_
  refine WE.next ?_
  refine WC.seq ?_
  refine WC.opt [(true, .val (.int .u8 ((c.toNat : Int)))), (true, .val (.bool ((decide ((97 : Int) ≤ ((c.toNat : Int) : Int)))))), (true, .val (.bool ((decide ((97 : Int) ≤ ((c.toNat : Int) : Int)))))), ((true && (decide ((97 : Int) ≤ ((c.toNat : Int) : Int)))), .val (.int .u8 ((c.toNat : Int)))), ((true && (decide ((97 : Int) ≤ ((c.toNat : Int) : Int)))), .val (.bool ((decide (((c.toNat : Int) : Int) ≤ (122 : Int)))))), (true, .val (.bool (((decide ((97 : Int) ≤ ((c.toNat : Int) : Int))) && (decide (((c.toNat : Int) : Int) ≤ (122 : Int))))))), (true, .val (.bool (((decide ((97 : Int) ≤ ((c.toNat : Int) : Int))) && (decide (((c.toNat : Int) : Int) ≤ (122 : Int))))))), ((true && !((decide ((97 : Int) ≤ ((c.toNat : Int) : Int))) && (decide (((c.toNat : Int) : Int) ≤ (122 : Int))))), .val (.int .u8 ((c.toNat : Int)))), ((true && !((decide ((97 : Int) ≤ ((c.toNat : Int) : Int))) && (decide (((c.toNat : Int) : Int) ≤ (122 : Int))))), .val (.bool ((decide ((65 : Int) ≤ ((c.toNat : Int) : Int)))))), ((true && !((decide ((97 : Int) ≤ ((c.toNat : Int) : Int))) && (decide (((c.toNat : Int) : Int) ≤ (122 : Int))))), .val (.bool ((decide ((65 : Int) ≤ ((c.toNat : Int) : Int)))))), (((true && !((decide ((97 : Int) ≤ ((c.toNat : Int) : Int))) && (decide (((c.toNat : Int) : Int) ≤ (122 : Int))))) && (decide ((65 : Int) ≤ ((c.toNat : Int) : Int)))), .val (.int .u8 ((c.toNat : Int)))), (((true && !((decide ((97 : Int) ≤ ((c.toNat : Int) : Int))) && (decide (((c.toNat : Int) : Int) ≤ (122 : Int))))) && (decide ((65 : Int) ≤ ((c.toNat : Int) : Int)))), .val (.bool ((decide (((c.toNat : Int) : Int) ≤ (90 : Int)))))), ((true && !((decide ((97 : Int) ≤ ((c.toNat : Int) : Int))) && (decide (((c.toNat : Int) : Int) ≤ (122 : Int))))), .val (.bool (((decide ((65 : Int) ≤ ((c.toNat : Int) : Int))) && (decide (((c.toNat : Int) : Int) ≤ (90 : Int))))))), (true, .val (.bool ((((decide ((97 : Int) ≤ ((c.toNat : Int) : Int))) && (decide (((c.toNat : Int) : Int) ≤ (122 : Int)))) || ((decide ((65 : Int) ≤ ((c.toNat : Int) : Int))) && (decide (((c.toNat : Int) : Int) ≤ (90 : Int)))))))), (true, .val (.bool ((((decide ((97 : Int) ≤ ((c.toNat : Int) : Int))) && (decide (((c.toNat : Int) : Int) ≤ (122 : Int)))) || ((decide ((65 : Int) ≤ ((c.toNat : Int) : Int))) && (decide (((c.toNat : Int) : Int) ≤ (90 : Int)))))))), ((true && !(((decide ((97 : Int) ≤ ((c.toNat : Int) : Int))) && (decide (((c.toNat : Int) : Int) ≤ (122 : Int)))) || ((decide ((65 : Int) ≤ ((c.toNat : Int) : Int))) && (decide (((c.toNat : Int) : Int) ≤ (90 : Int)))))), .val (.int .u8 ((c.toNat : Int)))), ((true && !(((decide ((97 : Int) ≤ ((c.toNat : Int) : Int))) && (decide (((c.toNat : Int) : Int) ≤ (122 : Int)))) || ((decide ((65 : Int) ≤ ((c.toNat : Int) : Int))) && (decide (((c.toNat : Int) : Int) ≤ (90 : Int)))))), .val (.bool ((decide ((48 : Int) ≤ ((c.toNat : Int) : Int)))))), ((true && !(((decide ((97 : Int) ≤ ((c.toNat : Int) : Int))) && (decide (((c.toNat : Int) : Int) ≤ (122 : Int)))) || ((decide ((65 : Int) ≤ ((c.toNat : Int) : Int))) && (decide (((c.toNat : Int) : Int) ≤ (90 : Int)))))), .val (.bool ((decide ((48 : Int) ≤ ((c.toNat : Int) : Int)))))), (((true && !(((decide ((97 : Int) ≤ ((c.toNat : Int) : Int))) && (decide (((c.toNat : Int) : Int) ≤ (122 : Int)))) || ((decide ((65 : Int) ≤ ((c.toNat : Int) : Int))) && (decide (((c.toNat : Int) : Int) ≤ (90 : Int)))))) && (decide ((48 : Int) ≤ ((c.toNat : Int) : Int)))), .val (.int .u8 ((c.toNat : Int)))), (((true && !(((decide ((97 : Int) ≤ ((c.toNat : Int) : Int))) && (decide (((c.toNat : Int) : Int) ≤ (122 : Int)))) || ((decide ((65 : Int) ≤ ((c.toNat : Int) : Int))) && (decide (((c.toNat : Int) : Int) ≤ (90 : Int)))))) && (decide ((48 : Int) ≤ ((c.toNat : Int) : Int)))), .val (.bool ((decide (((c.toNat : Int) : Int) ≤ (57 : Int)))))), ((true && !(((decide ((97 : Int) ≤ ((c.toNat : Int) : Int))) && (decide (((c.toNat : Int) : Int) ≤ (122 : Int)))) || ((decide ((65 : Int) ≤ ((c.toNat : Int) : Int))) && (decide (((c.toNat : Int) : Int) ≤ (90 : Int)))))), .val (.bool (((decide ((48 : Int) ≤ ((c.toNat : Int) : Int))) && (decide (((c.toNat : Int) : Int) ≤ (57 : Int))))))), (true, .val (.bool (((((decide ((97 : Int) ≤ ((c.toNat : Int) : Int))) && (decide (((c.toNat : Int) : Int) ≤ (122 : Int)))) || ((decide ((65 : Int) ≤ ((c.toNat : Int) : Int))) && (decide (((c.toNat : Int) : Int) ≤ (90 : Int))))) || ((decide ((48 : Int) ≤ ((c.toNat : Int) : Int))) && (decide (((c.toNat : Int) : Int) ≤ (57 : Int)))))))), (true, .val (.bool (((((decide ((97 : Int) ≤ ((c.toNat : Int) : Int))) && (decide (((c.toNat : Int) : Int) ≤ (122 : Int)))) || ((decide ((65 : Int) ≤ ((c.toNat : Int) : Int))) && (decide (((c.toNat : Int) : Int) ≤ (90 : Int))))) || ((decide ((48 : Int) ≤ ((c.toNat : Int) : Int))) && (decide (((c.toNat : Int) : Int) ≤ (57 : Int)))))))), ((true && !((((decide ((97 : Int) ≤ ((c.toNat : Int) : Int))) && (decide (((c.toNat : Int) : Int) ≤ (122 : Int)))) || ((decide ((65 : Int) ≤ ((c.toNat : Int) : Int))) && (decide (((c.toNat : Int) : Int) ≤ (90 : Int))))) || ((decide ((48 : Int) ≤ ((c.toNat : Int) : Int))) && (decide (((c.toNat : Int) : Int) ≤ (57 : Int)))))), .val (.int .u8 ((c.toNat : Int)))), ((true && !((((decide ((97 : Int) ≤ ((c.toNat : Int) : Int))) && (decide (((c.toNat : Int) : Int) ≤ (122 : Int)))) || ((decide ((65 : Int) ≤ ((c.toNat : Int) : Int))) && (decide (((c.toNat : Int) : Int) ≤ (90 : Int))))) || ((decide ((48 : Int) ≤ ((c.toNat : Int) : Int))) && (decide (((c.toNat : Int) : Int) ≤ (57 : Int)))))), .val (.bool ((((c.toNat : Int) : Int) == (95 : Int))))), (true, .val (.bool ((((((decide ((97 : Int) ≤ ((c.toNat : Int) : Int))) && (decide (((c.toNat : Int) : Int) ≤ (122 : Int)))) || ((decide ((65 : Int) ≤ ((c.toNat : Int) : Int))) && (decide (((c.toNat : Int) : Int) ≤ (90 : Int))))) || ((decide ((48 : Int) ≤ ((c.toNat : Int) : Int))) && (decide (((c.toNat : Int) : Int) ≤ (57 : Int))))) || (((c.toNat : Int) : Int) == (95 : Int)))))), (true, .val (.bool ((((((decide ((97 : Int) ≤ ((c.toNat : Int) : Int))) && (decide (((c.toNat : Int) : Int) ≤ (122 : Int)))) || ((decide ((65 : Int) ≤ ((c.toNat : Int) : Int))) && (decide (((c.toNat : Int) : Int) ≤ (90 : Int))))) || ((decide ((48 : Int) ≤ ((c.toNat : Int) : Int))) && (decide (((c.toNat : Int) : Int) ≤ (57 : Int))))) || (((c.toNat : Int) : Int) == (95 : Int))))))] [(0, .int .u8 ((c.toNat : Int)))] ⟨rfl, trivial⟩ (by kernel_rfl) (by kernel_rfl) (by kernel_rfl) ?_ ?_
  · refine ⟨⟨true, .none rfl, fun h w => optUndef h, fun zβ za zw zc => ?_⟩, ?_⟩
    · exact wp_move rfl (zc.kn.ev rfl) ⟨_, rfl, Below.refl _ _, optDef zβ rfl⟩
    refine ⟨⟨true, .none rfl, fun h w => optUndef h, fun zβ za zw zc => ?_⟩, ?_⟩
    · exact geq_5 rfl ((evt za 3).trans (optVal (zc.dep 0 3 (by kernel_rfl)) rfl rfl)) (zc.kn.ev rfl) ⟨_, rfl, Below.refl _ _, optDef zβ rfl⟩
    refine ⟨⟨true, .none rfl, fun h w => optUndef h, fun zβ za zw zc => ?_⟩, ?_⟩
    · exact wp_move rfl ((evt za 4).trans (optVal (zc.dep 1 4 (by kernel_rfl)) rfl rfl)) ⟨_, rfl, Below.refl _ _, optDef zβ rfl⟩
    refine ⟨⟨_, .yes (c := (decide ((97 : Int) ≤ ((c.toNat : Int) : Int)))) (d := true) rfl (fun v w h => h), fun h w => optUndef h, fun zβ za zw zc => ?_⟩, ?_⟩
    · exact wp_move rfl (zc.kn.ev rfl) ⟨_, rfl, Below.refl _ _, optDef zβ rfl⟩
    refine ⟨⟨_, .yes (c := (decide ((97 : Int) ≤ ((c.toNat : Int) : Int)))) (d := true) rfl (fun v w h => h), fun h w => optUndef h, fun zβ za zw zc => ?_⟩, ?_⟩
    · exact leq_5 rfl ((evt za 6).trans (optVal (zc.dep 3 6 (by kernel_rfl)) rfl zβ)) (zc.kn.ev rfl) ⟨_, rfl, Below.refl _ _, optDef zβ rfl⟩
    refine ⟨⟨true, .none rfl, fun h w => optUndef h, fun zβ za zw zc => ?_⟩, ?_⟩
    · exact wp_and rfl ((evt za 5).trans (optVal (zc.dep 2 5 (by kernel_rfl)) rfl rfl)) (fun hp => ((evt za 7).trans (optVal (zc.dep 4 7 (by kernel_rfl)) rfl (bMk zβ hp)))) ⟨_, rfl, Below.refl _ _, optDef zβ rfl⟩
    refine ⟨⟨true, .none rfl, fun h w => optUndef h, fun zβ za zw zc => ?_⟩, ?_⟩
    · exact wp_move rfl ((evt za 8).trans (optVal (zc.dep 5 8 (by kernel_rfl)) rfl rfl)) ⟨_, rfl, Below.refl _ _, optDef zβ rfl⟩
    refine ⟨⟨_, .no (c := ((decide ((97 : Int) ≤ ((c.toNat : Int) : Int))) && (decide (((c.toNat : Int) : Int) ≤ (122 : Int))))) (d := true) rfl (fun v w h => h), fun h w => optUndef h, fun zβ za zw zc => ?_⟩, ?_⟩
    · exact wp_move rfl (zc.kn.ev rfl) ⟨_, rfl, Below.refl _ _, optDef zβ rfl⟩
    refine ⟨⟨_, .no (c := ((decide ((97 : Int) ≤ ((c.toNat : Int) : Int))) && (decide (((c.toNat : Int) : Int) ≤ (122 : Int))))) (d := true) rfl (fun v w h => h), fun h w => optUndef h, fun zβ za zw zc => ?_⟩, ?_⟩
    · exact geq_5 rfl ((evt za 10).trans (optVal (zc.dep 7 10 (by kernel_rfl)) rfl zβ)) (zc.kn.ev rfl) ⟨_, rfl, Below.refl _ _, optDef zβ rfl⟩
    refine ⟨⟨_, .no (c := ((decide ((97 : Int) ≤ ((c.toNat : Int) : Int))) && (decide (((c.toNat : Int) : Int) ≤ (122 : Int))))) (d := true) rfl (fun v w h => h), fun h w => optUndef h, fun zβ za zw zc => ?_⟩, ?_⟩
    · exact wp_move rfl ((evt za 11).trans (optVal (zc.dep 8 11 (by kernel_rfl)) rfl zβ)) ⟨_, rfl, Below.refl _ _, optDef zβ rfl⟩
    refine ⟨⟨_, .yes (c := (decide ((65 : Int) ≤ ((c.toNat : Int) : Int)))) (d := (true && !((decide ((97 : Int) ≤ ((c.toNat : Int) : Int))) && (decide (((c.toNat : Int) : Int) ≤ (122 : Int)))))) rfl (fun v w h => h), fun h w => optUndef h, fun zβ za zw zc => ?_⟩, ?_⟩
    · exact wp_move rfl (zc.kn.ev rfl) ⟨_, rfl, Below.refl _ _, optDef zβ rfl⟩
    refine ⟨⟨_, .yes (c := (decide ((65 : Int) ≤ ((c.toNat : Int) : Int)))) (d := (true && !((decide ((97 : Int) ≤ ((c.toNat : Int) : Int))) && (decide (((c.toNat : Int) : Int) ≤ (122 : Int)))))) rfl (fun v w h => h), fun h w => optUndef h, fun zβ za zw zc => ?_⟩, ?_⟩
    · exact leq_5 rfl ((evt za 13).trans (optVal (zc.dep 10 13 (by kernel_rfl)) rfl zβ)) (zc.kn.ev rfl) ⟨_, rfl, Below.refl _ _, optDef zβ rfl⟩
    refine ⟨⟨_, .no (c := ((decide ((97 : Int) ≤ ((c.toNat : Int) : Int))) && (decide (((c.toNat : Int) : Int) ≤ (122 : Int))))) (d := true) rfl (fun v w h => h), fun h w => optUndef h, fun zβ za zw zc => ?_⟩, ?_⟩
    · exact wp_and rfl ((evt za 12).trans (optVal (zc.dep 9 12 (by kernel_rfl)) rfl zβ)) (fun hp => ((evt za 14).trans (optVal (zc.dep 11 14 (by kernel_rfl)) rfl (bMk zβ hp)))) ⟨_, rfl, Below.refl _ _, optDef zβ rfl⟩
    refine ⟨⟨true, .none rfl, fun h w => optUndef h, fun zβ za zw zc => ?_⟩, ?_⟩
    · exact wp_or rfl ((evt za 9).trans (optVal (zc.dep 6 9 (by kernel_rfl)) rfl rfl)) (fun hp => ((evt za 15).trans (optVal (zc.dep 12 15 (by kernel_rfl)) rfl (bMkN zβ hp)))) ⟨_, rfl, Below.refl _ _, optDef zβ rfl⟩
    refine ⟨⟨true, .none rfl, fun h w => optUndef h, fun zβ za zw zc => ?_⟩, ?_⟩
    · exact wp_move rfl ((evt za 16).trans (optVal (zc.dep 13 16 (by kernel_rfl)) rfl rfl)) ⟨_, rfl, Below.refl _ _, optDef zβ rfl⟩
    refine ⟨⟨_, .no (c := (((decide ((97 : Int) ≤ ((c.toNat : Int) : Int))) && (decide (((c.toNat : Int) : Int) ≤ (122 : Int)))) || ((decide ((65 : Int) ≤ ((c.toNat : Int) : Int))) && (decide (((c.toNat : Int) : Int) ≤ (90 : Int)))))) (d := true) rfl (fun v w h => h), fun h w => optUndef h, fun zβ za zw zc => ?_⟩, ?_⟩
    · exact wp_move rfl (zc.kn.ev rfl) ⟨_, rfl, Below.refl _ _, optDef zβ rfl⟩
    refine ⟨⟨_, .no (c := (((decide ((97 : Int) ≤ ((c.toNat : Int) : Int))) && (decide (((c.toNat : Int) : Int) ≤ (122 : Int)))) || ((decide ((65 : Int) ≤ ((c.toNat : Int) : Int))) && (decide (((c.toNat : Int) : Int) ≤ (90 : Int)))))) (d := true) rfl (fun v w h => h), fun h w => optUndef h, fun zβ za zw zc => ?_⟩, ?_⟩
    · exact geq_5 rfl ((evt za 18).trans (optVal (zc.dep 15 18 (by kernel_rfl)) rfl zβ)) (zc.kn.ev rfl) ⟨_, rfl, Below.refl _ _, optDef zβ rfl⟩
    refine ⟨⟨_, .no (c := (((decide ((97 : Int) ≤ ((c.toNat : Int) : Int))) && (decide (((c.toNat : Int) : Int) ≤ (122 : Int)))) || ((decide ((65 : Int) ≤ ((c.toNat : Int) : Int))) && (decide (((c.toNat : Int) : Int) ≤ (90 : Int)))))) (d := true) rfl (fun v w h => h), fun h w => optUndef h, fun zβ za zw zc => ?_⟩, ?_⟩
    · exact wp_move rfl ((evt za 19).trans (optVal (zc.dep 16 19 (by kernel_rfl)) rfl zβ)) ⟨_, rfl, Below.refl _ _, optDef zβ rfl⟩
    refine ⟨⟨_, .yes (c := (decide ((48 : Int) ≤ ((c.toNat : Int) : Int)))) (d := (true && !(((decide ((97 : Int) ≤ ((c.toNat : Int) : Int))) && (decide (((c.toNat : Int) : Int) ≤ (122 : Int)))) || ((decide ((65 : Int) ≤ ((c.toNat : Int) : Int))) && (decide (((c.toNat : Int) : Int) ≤ (90 : Int))))))) rfl (fun v w h => h), fun h w => optUndef h, fun zβ za zw zc => ?_⟩, ?_⟩
    · exact wp_move rfl (zc.kn.ev rfl) ⟨_, rfl, Below.refl _ _, optDef zβ rfl⟩
    refine ⟨⟨_, .yes (c := (decide ((48 : Int) ≤ ((c.toNat : Int) : Int)))) (d := (true && !(((decide ((97 : Int) ≤ ((c.toNat : Int) : Int))) && (decide (((c.toNat : Int) : Int) ≤ (122 : Int)))) || ((decide ((65 : Int) ≤ ((c.toNat : Int) : Int))) && (decide (((c.toNat : Int) : Int) ≤ (90 : Int))))))) rfl (fun v w h => h), fun h w => optUndef h, fun zβ za zw zc => ?_⟩, ?_⟩
    · exact leq_5 rfl ((evt za 21).trans (optVal (zc.dep 18 21 (by kernel_rfl)) rfl zβ)) (zc.kn.ev rfl) ⟨_, rfl, Below.refl _ _, optDef zβ rfl⟩
    refine ⟨⟨_, .no (c := (((decide ((97 : Int) ≤ ((c.toNat : Int) : Int))) && (decide (((c.toNat : Int) : Int) ≤ (122 : Int)))) || ((decide ((65 : Int) ≤ ((c.toNat : Int) : Int))) && (decide (((c.toNat : Int) : Int) ≤ (90 : Int)))))) (d := true) rfl (fun v w h => h), fun h w => optUndef h, fun zβ za zw zc => ?_⟩, ?_⟩
    · exact wp_and rfl ((evt za 20).trans (optVal (zc.dep 17 20 (by kernel_rfl)) rfl zβ)) (fun hp => ((evt za 22).trans (optVal (zc.dep 19 22 (by kernel_rfl)) rfl (bMk zβ hp)))) ⟨_, rfl, Below.refl _ _, optDef zβ rfl⟩
    refine ⟨⟨true, .none rfl, fun h w => optUndef h, fun zβ za zw zc => ?_⟩, ?_⟩
    · exact wp_or rfl ((evt za 17).trans (optVal (zc.dep 14 17 (by kernel_rfl)) rfl rfl)) (fun hp => ((evt za 23).trans (optVal (zc.dep 20 23 (by kernel_rfl)) rfl (bMkN zβ hp)))) ⟨_, rfl, Below.refl _ _, optDef zβ rfl⟩
    refine ⟨⟨true, .none rfl, fun h w => optUndef h, fun zβ za zw zc => ?_⟩, ?_⟩
    · exact wp_move rfl ((evt za 24).trans (optVal (zc.dep 21 24 (by kernel_rfl)) rfl rfl)) ⟨_, rfl, Below.refl _ _, optDef zβ rfl⟩
    refine ⟨⟨_, .no (c := ((((decide ((97 : Int) ≤ ((c.toNat : Int) : Int))) && (decide (((c.toNat : Int) : Int) ≤ (122 : Int)))) || ((decide ((65 : Int) ≤ ((c.toNat : Int) : Int))) && (decide (((c.toNat : Int) : Int) ≤ (90 : Int))))) || ((decide ((48 : Int) ≤ ((c.toNat : Int) : Int))) && (decide (((c.toNat : Int) : Int) ≤ (57 : Int)))))) (d := true) rfl (fun v w h => h), fun h w => optUndef h, fun zβ za zw zc => ?_⟩, ?_⟩
    · exact wp_move rfl (zc.kn.ev rfl) ⟨_, rfl, Below.refl _ _, optDef zβ rfl⟩
    refine ⟨⟨_, .no (c := ((((decide ((97 : Int) ≤ ((c.toNat : Int) : Int))) && (decide (((c.toNat : Int) : Int) ≤ (122 : Int)))) || ((decide ((65 : Int) ≤ ((c.toNat : Int) : Int))) && (decide (((c.toNat : Int) : Int) ≤ (90 : Int))))) || ((decide ((48 : Int) ≤ ((c.toNat : Int) : Int))) && (decide (((c.toNat : Int) : Int) ≤ (57 : Int)))))) (d := true) rfl (fun v w h => h), fun h w => optUndef h, fun zβ za zw zc => ?_⟩, ?_⟩
    · exact eql_5 rfl ((evt za 26).trans (optVal (zc.dep 23 26 (by kernel_rfl)) rfl zβ)) (zc.kn.ev rfl) ⟨_, rfl, Below.refl _ _, optDef zβ rfl⟩
    refine ⟨⟨true, .none rfl, fun h w => optUndef h, fun zβ za zw zc => ?_⟩, ?_⟩
    · exact wp_or rfl ((evt za 25).trans (optVal (zc.dep 22 25 (by kernel_rfl)) rfl rfl)) (fun hp => ((evt za 27).trans (optVal (zc.dep 24 27 (by kernel_rfl)) rfl (bMkN zβ hp)))) ⟨_, rfl, Below.refl _ _, optDef zβ rfl⟩
    refine ⟨⟨true, .none rfl, fun h w => optUndef h, fun zβ za zw zc => ?_⟩, ?_⟩
    · exact wp_assign rfl ((evt za 28).trans (optVal (zc.dep 25 28 (by kernel_rfl)) rfl rfl)) ⟨_, rfl, Below.refl _ _, optDef zβ rfl⟩
    exact trivial
  · intro za w1 zh hb2 zu
    have zh := zh.cons (d := 2) (v := .bool ((((((decide ((97 : Int) ≤ ((c.toNat : Int) : Int))) && (decide (((c.toNat : Int) : Int) ≤ (122 : Int)))) || ((decide ((65 : Int) ≤ ((c.toNat : Int) : Int))) && (decide (((c.toNat : Int) : Int) ≤ (90 : Int))))) || ((decide ((48 : Int) ≤ ((c.toNat : Int) : Int))) && (decide (((c.toNat : Int) : Int) ≤ (57 : Int))))) || (((c.toNat : Int) : Int) == (95 : Int))))) (optVal (zu 26 2 (by kernel_rfl)) rfl rfl)
    clear zu
    refine WE.go zh ?_
    refine WE.next ?_
    refine WC.ret ?_
    refine WE.ret1 rfl rfl ?_
    exact ⟨_, rfl, congrArg Value.bool (by rw [byteOk_eq, byteOk_us]; rfl), hb2⟩
theorem bytes_take {s : ByteArray} {k : Nat} (h : k < s.size) : s.data.toList.take (k + 1) = s.data.toList.take k ++ [s.data.toList.getD k 0] := by
  have h' : k < s.data.toList.length := by simpa using h
  rw [List.take_succ_eq_append_getElem h', List.getD_eq_getElem?_getD, List.getElem?_eq_getElem h']; rfl
set_option maxRecDepth 100000 in
theorem every_any (s : ByteArray) (w : World) (hs : s.size ≤ maxLen) : Calls Try.prog 71 #[.string s, .func (.func 72) #[] #[]] w (Ret fun v' w' => v' = .bool (s.data.toList.all byteOk) ∧ Below w.heap.size w w') := by
  unfold maxLen at hs
  refine Calls.walk (l := [.string s, .func (.func 72) #[] #[]]) Try.func71 rfl (by kernel_rfl) ?_
  refine WC.sub (K' := [(0, .string s), (1, .func (.func 72) #[] #[])]) ⟨rfl, rfl, trivial⟩ ?_
  refine WC.seq ?_
  refine WC.region ?_
  refine WL.asg rfl rfl rfl rfl rfl ?_
  refine WL.nil ?_
  refine WE.next ?_
  refine WC.seq ?_
  refine WC.seq ?_
  refine WC.region ?_
  refine WL.mv rfl rfl rfl rfl rfl ?_
  refine WL.val (.int .i64 (((s.size : Nat) : Int))) rfl rfl rfl (fun za zC zh zk => len_9 rfl (zh.ev rfl) zk) ?_
  refine WL.mv rfl rfl rfl rfl rfl ?_
  refine WL.nil ?_
  refine WE.next ?_
  refine WC.block ?_
  refine WC.loop (X := Nat) (fun k => s.size - k) (fun k => [(0, .string s), (1, .func (.func 72) #[] #[]), (7, .int .i64 (((s.size : Nat) : Int))), (8, .int .i64 (((k : Nat) : Int)))]) (fun k w1 => k ≤ s.size ∧ (s.data.toList.take k).all byteOk = true ∧ Below w.heap.size w w1) 0 ⟨rfl, rfl, rfl, rfl, trivial⟩ ?_ ?_
  · exact ⟨Nat.zero_le _, rfl, (Below.refl _ _)⟩
  · rintro k w1 ⟨hk, hall, hb2⟩
    refine WC.seq ?_
    refine WC.region ?_
    refine WL.val (.bool ((decide ((((k : Nat) : Int) : Int) < (((s.size : Nat) : Int) : Int))))) rfl rfl rfl (fun za zC zh zk => lss_3 rfl (zh.ev rfl) (zh.ev rfl) zk) ?_
    refine WL.nil ?_
    refine WE.next ?_
    refine WC.seq ?_
    refine WC.cond rfl (fun h3 => ?_) (fun h3 => ?_)
    · have h3 : (((k : Nat) : Int) : Int) < (((s.size : Nat) : Int) : Int) := by simpa using h3
      refine WC.skip ?_
      refine WE.next ?_
      refine WC.seq ?_
      refine WC.block ?_
      refine WC.seq ?_
      refine WC.region ?_
      refine WL.mv rfl rfl rfl rfl rfl ?_
      refine WL.asg rfl rfl rfl rfl rfl ?_
      refine WL.nil ?_
      refine WE.next ?_
      refine WC.seq ?_
      refine WC.region ?_
      refine WL.mv rfl rfl rfl rfl rfl ?_
      refine WL.mv rfl rfl rfl rfl rfl ?_
      refine WL.mv rfl rfl rfl rfl rfl ?_
      refine WL.val (.int .u8 ((bget s k))) rfl rfl rfl (fun za zC zh zk => bix_9 (k := k) rfl (zh.ev rfl) (zh.ev rfl) (by first | omega | (simp; omega)) zk) ?_
      refine WL.call rfl rfl rfl (fun za zh zC => wp_callv (by kernel_rfl) rfl (zh.ev rfl) (hv1 (zh.ev rfl))) (letter_any (s.data.toList.getD k 0) _) ?_
      rintro _ w4 ⟨rfl, hbc⟩
      refine WL.val (.bool ((!(byteOk (s.data.toList.getD k 0))))) rfl rfl rfl (fun za zC zh zk => wp_not rfl (zh.ev rfl) zk) ?_
      refine WL.nil ?_
      refine WE.next ?_
      refine WC.cond rfl (fun h5 => ?_) (fun h5 => ?_)
      · have h5 : ¬ ((byteOk (s.data.toList.getD k 0)) = true) := by simpa using h5
        refine WC.seq ?_
        refine WC.region ?_
        refine WL.asg rfl rfl rfl rfl rfl ?_
        refine WL.nil ?_
        refine WE.next ?_
        refine WC.ret ?_
        refine WE.blockRet ?_
        refine WE.thenRet ?_
        refine WE.thenRet ?_
        refine WE.blockRet ?_
        refine WE.thenRet ?_
        refine WE.ret1 rfl rfl ?_
        have hb6 : Below w.heap.size w w4 := (bstep hb2 hbc)
        exact ⟨_, rfl, congrArg Value.bool (by symm; rw [List.all_eq_false]; exact ⟨s.data.toList.getD k 0, by rw [List.getD_eq_getElem?_getD, List.getElem?_eq_getElem (by simpa using (show k < s.size by omega))]; simp, by assumption⟩), hb6⟩
      · have h5 : ¬ (¬ ((byteOk (s.data.toList.getD k 0)) = true)) := by simpa using h5
        refine WC.skip ?_
        refine WE.blockNormal ?_
        refine WE.next ?_
        refine WC.region ?_
        refine WL.val (.int .i64 ((((k + 1) : Nat) : Int))) rfl rfl rfl (fun za zC zh zk => addb_3 rfl (zh.ev rfl) (zh.ev rfl) (wrap_eq (by omega) (by omega) (by omega)) zk) ?_
        refine WL.mv rfl rfl rfl rfl rfl ?_
        refine WL.nil ?_
        refine WE.round (k + 1) ⟨rfl, rfl, rfl, rfl, trivial⟩ ?_ ?_
        · have hb7 : Below w.heap.size w w4 := (bstep hb2 hbc)
          exact ⟨by omega, by rw [bytes_take (by omega), List.all_append, hall]; simp_all, hb7⟩
        · omega
    · have h3 : ¬ ((((k : Nat) : Int) : Int) < (((s.size : Nat) : Int) : Int)) := by simpa using h3
      refine WC.exit ?_
      refine WE.thenExit ?_
      refine WE.thenExit ?_
      refine WE.blockIs rfl ?_
      refine WE.next ?_
      refine WC.seq ?_
      refine WC.region ?_
      refine WL.asg rfl rfl rfl rfl rfl ?_
      refine WL.nil ?_
      refine WE.next ?_
      refine WC.ret ?_
      refine WE.ret1 rfl rfl ?_
      exact ⟨_, rfl, congrArg Value.bool (by rw [List.take_of_length_le (by simp; omega)] at hall; exact hall.symm), hb2⟩
set_option maxRecDepth 100000 in
theorem pnamed_any (s : ByteArray) (w : World) (hs : s.size ≤ maxLen) : Calls Try.prog 64 #[.string s] w (Ret fun v' w' => v' = .bool (named s) ∧ Below w.heap.size w w') := by
  have hs0 := hs
  unfold maxLen at hs
  refine Calls.walk (l := [.string s]) Try.func64 rfl (by kernel_rfl) ?_
  refine WC.sub (K' := [(0, .string s)]) ⟨rfl, trivial⟩ ?_
  refine WC.seq ?_
  refine WC.region ?_
  refine WL.asg rfl rfl rfl rfl rfl ?_
  refine WL.nil ?_
  refine WE.next ?_
  refine WC.seq ?_
  refine WC.opt [(true, .val (.string s)), (true, .val (.bool ((!decide (s = (⟨#[]⟩ : ByteArray)))))), (true, .val (.bool ((!decide (s = (⟨#[]⟩ : ByteArray)))))), ((true && (!decide (s = (⟨#[]⟩ : ByteArray)))), .val (.string s)), ((true && (!decide (s = (⟨#[]⟩ : ByteArray)))), .val (.int .i64 (((s.size : Nat) : Int)))), ((true && (!decide (s = (⟨#[]⟩ : ByteArray)))), .val (.bool ((decide ((((s.size : Nat) : Int) : Int) ≤ (40 : Int)))))), (true, .val (.bool (((!decide (s = (⟨#[]⟩ : ByteArray))) && (decide ((((s.size : Nat) : Int) : Int) ≤ (40 : Int))))))), (true, .val (.bool (((!decide (s = (⟨#[]⟩ : ByteArray))) && (decide ((((s.size : Nat) : Int) : Int) ≤ (40 : Int))))))), ((true && ((!decide (s = (⟨#[]⟩ : ByteArray))) && (decide ((((s.size : Nat) : Int) : Int) ≤ (40 : Int))))), .val (.string s)), ((true && ((!decide (s = (⟨#[]⟩ : ByteArray))) && (decide ((((s.size : Nat) : Int) : Int) ≤ (40 : Int))))), .val (.bool ((s.data.toList.all byteOk)))), (true, .val (.bool ((((!decide (s = (⟨#[]⟩ : ByteArray))) && (decide ((((s.size : Nat) : Int) : Int) ≤ (40 : Int)))) && (s.data.toList.all byteOk))))), (true, .val (.bool ((((!decide (s = (⟨#[]⟩ : ByteArray))) && (decide ((((s.size : Nat) : Int) : Int) ≤ (40 : Int)))) && (s.data.toList.all byteOk)))))] [(0, .string s)] ⟨rfl, trivial⟩ (by kernel_rfl) (by kernel_rfl) (by kernel_rfl) ?_ ?_
  · refine ⟨⟨true, .none rfl, fun h w => optUndef h, fun zβ za zw zc => ?_⟩, ?_⟩
    · exact wp_move rfl (zc.kn.ev rfl) ⟨_, rfl, Below.refl _ _, optDef zβ rfl⟩
    refine ⟨⟨true, .none rfl, fun h w => optUndef h, fun zβ za zw zc => ?_⟩, ?_⟩
    · exact neq_9 rfl ((evt za 3).trans (optVal (zc.dep 0 3 (by kernel_rfl)) rfl rfl)) (zc.kn.ev rfl) ⟨_, rfl, Below.refl _ _, optDef zβ rfl⟩
    refine ⟨⟨true, .none rfl, fun h w => optUndef h, fun zβ za zw zc => ?_⟩, ?_⟩
    · exact wp_move rfl ((evt za 4).trans (optVal (zc.dep 1 4 (by kernel_rfl)) rfl rfl)) ⟨_, rfl, Below.refl _ _, optDef zβ rfl⟩
    refine ⟨⟨_, .yes (c := (!decide (s = (⟨#[]⟩ : ByteArray)))) (d := true) rfl (fun v w h => h), fun h w => optUndef h, fun zβ za zw zc => ?_⟩, ?_⟩
    · exact wp_move rfl (zc.kn.ev rfl) ⟨_, rfl, Below.refl _ _, optDef zβ rfl⟩
    refine ⟨⟨_, .yes (c := (!decide (s = (⟨#[]⟩ : ByteArray)))) (d := true) rfl (fun v w h => h), fun h w => optUndef h, fun zβ za zw zc => ?_⟩, ?_⟩
    · exact len_9 rfl ((evt za 6).trans (optVal (zc.dep 3 6 (by kernel_rfl)) rfl zβ)) ⟨_, rfl, Below.refl _ _, optDef zβ rfl⟩
    refine ⟨⟨_, .yes (c := (!decide (s = (⟨#[]⟩ : ByteArray)))) (d := true) rfl (fun v w h => h), fun h w => optUndef h, fun zβ za zw zc => ?_⟩, ?_⟩
    · exact leq_3 rfl ((evt za 7).trans (optVal (zc.dep 4 7 (by kernel_rfl)) rfl zβ)) (zc.kn.ev rfl) ⟨_, rfl, Below.refl _ _, optDef zβ rfl⟩
    refine ⟨⟨true, .none rfl, fun h w => optUndef h, fun zβ za zw zc => ?_⟩, ?_⟩
    · exact wp_and rfl ((evt za 5).trans (optVal (zc.dep 2 5 (by kernel_rfl)) rfl rfl)) (fun hp => ((evt za 8).trans (optVal (zc.dep 5 8 (by kernel_rfl)) rfl (bMk zβ hp)))) ⟨_, rfl, Below.refl _ _, optDef zβ rfl⟩
    refine ⟨⟨true, .none rfl, fun h w => optUndef h, fun zβ za zw zc => ?_⟩, ?_⟩
    · exact wp_move rfl ((evt za 9).trans (optVal (zc.dep 6 9 (by kernel_rfl)) rfl rfl)) ⟨_, rfl, Below.refl _ _, optDef zβ rfl⟩
    refine ⟨⟨_, .yes (c := ((!decide (s = (⟨#[]⟩ : ByteArray))) && (decide ((((s.size : Nat) : Int) : Int) ≤ (40 : Int))))) (d := true) rfl (fun v w h => h), fun h w => optUndef h, fun zβ za zw zc => ?_⟩, ?_⟩
    · exact wp_move rfl (zc.kn.ev rfl) ⟨_, rfl, Below.refl _ _, optDef zβ rfl⟩
    refine ⟨⟨_, .yes (c := ((!decide (s = (⟨#[]⟩ : ByteArray))) && (decide ((((s.size : Nat) : Int) : Int) ≤ (40 : Int))))) (d := true) rfl (fun v w h => h), fun h w => optUndef h, fun zβ za zw zc => ?_⟩, ?_⟩
    · exact wp_call (by kernel_rfl) rfl (hv2 ((evt za 11).trans (optVal (zc.dep 8 11 (by kernel_rfl)) rfl zβ)) (zc.kn.ev rfl)) (every_any s _ hs0) (fun v w' h => ⟨v, rfl, h.2, optDef zβ h.1⟩)
    refine ⟨⟨true, .none rfl, fun h w => optUndef h, fun zβ za zw zc => ?_⟩, ?_⟩
    · exact wp_and rfl ((evt za 10).trans (optVal (zc.dep 7 10 (by kernel_rfl)) rfl rfl)) (fun hp => ((evt za 12).trans (optVal (zc.dep 9 12 (by kernel_rfl)) rfl (bMk zβ hp)))) ⟨_, rfl, Below.refl _ _, optDef zβ rfl⟩
    refine ⟨⟨true, .none rfl, fun h w => optUndef h, fun zβ za zw zc => ?_⟩, ?_⟩
    · exact wp_assign rfl ((evt za 13).trans (optVal (zc.dep 10 13 (by kernel_rfl)) rfl rfl)) ⟨_, rfl, Below.refl _ _, optDef zβ rfl⟩
    exact trivial
  · intro za w1 zh hb2 zu
    have zh := zh.cons (d := 2) (v := .bool ((((!decide (s = (⟨#[]⟩ : ByteArray))) && (decide ((((s.size : Nat) : Int) : Int) ≤ (40 : Int)))) && (s.data.toList.all byteOk)))) (optVal (zu 11 2 (by kernel_rfl)) rfl rfl)
    clear zu
    refine WE.go zh ?_
    refine WE.next ?_
    refine WC.ret ?_
    refine WE.ret1 rfl rfl ?_
    refine ⟨_, rfl, congrArg Value.bool ?_, hb2⟩
    unfold named
    congr 1
    rw [Bool.eq_iff_iff]
    simp only [Bool.and_eq_true, Bool.not_eq_true', decide_eq_true_eq, decide_eq_false_iff_not]
    have e : s = ⟨#[]⟩ ↔ s.size = 0 := ⟨fun h => by rw [h]; rfl, fun h => ByteArray.ext (Array.eq_empty_of_size_eq_zero h)⟩
    rw [e]
    omega
set_option maxRecDepth 100000 in
theorem pone_any (x : Sy) (w : World) (hs : x.name.size ≤ maxLen) : Calls Try.prog 50 #[x.val] w (Ret fun v' w' => v' = .int .i64 x.one ∧ Below w.heap.size w w') := by
  unfold Sy.val
  refine Calls.walk (l := [.agg #[.string x.name, .int .i64 x.ar, .bool x.pred]]) Try.func50 rfl (by kernel_rfl) ?_
  refine WC.sub (K' := [(0, .agg #[.string x.name, .int .i64 x.ar, .bool x.pred])]) ⟨rfl, trivial⟩ ?_
  refine WC.seq ?_
  refine WC.region ?_
  refine WL.step (post := NewBlk w 66 #[.string x.name, .int .i64 x.ar, .bool x.pred]) rfl rfl rfl (fun za zC zh zk => box_66 rfl (zh.ev rfl) (zk _ _ (newBlk _ _ _))) ?_
  rintro _ w1 ⟨g2, rfl, hg3, hB4, hb5, hz6⟩
  have hl7 : w.heap.size ≤ g2 := by omega
  refine WL.asg rfl rfl rfl rfl rfl ?_
  refine WL.nil ?_
  refine WE.next ?_
  refine WC.seq ?_
  refine WC.block ?_
  refine WC.seq ?_
  refine WC.region ?_
  refine WL.val _ rfl rfl rfl (fun za zC zh zk => fld_66_0 rfl (zh.ev rfl) zk) ?_
  refine WL.val _ rfl rfl rfl (fun za zC zh zk => ld_9 rfl (zh.ev rfl) ((hB4.cell 0).trans rfl) zk) ?_
  refine WL.call rfl rfl rfl (fun za zh zC => wp_call (by kernel_rfl) rfl (hv1 (zh.ev rfl))) (pnamed_any _ _ hs) ?_
  rintro _ w8 ⟨rfl, hbc⟩
  refine WL.val (.bool ((!(named x.name)))) rfl rfl rfl (fun za zC zh zk => wp_not rfl (zh.ev rfl) zk) ?_
  refine WL.asg rfl rfl rfl rfl rfl ?_
  refine WL.nil ?_
  refine WE.next ?_
  refine WC.cond rfl (fun h9 => ?_) (fun h9 => ?_)
  · have h9 : ¬ ((named x.name) = true) := by simpa using h9
    refine WC.seq ?_
    refine WC.region ?_
    refine WL.asg rfl rfl rfl rfl rfl ?_
    refine WL.nil ?_
    refine WE.next ?_
    refine WC.ret ?_
    refine WE.blockRet ?_
    refine WE.thenRet ?_
    refine WE.ret1 rfl rfl ?_
    have hb10 : Below w.heap.size w w8 := (bstep hb5 hbc)
    refine ⟨_, rfl, congrArg (Value.int .i64) ?_, hb10⟩
    unfold Sy.one
    simp_all
  · have h9 : ¬ (¬ ((named x.name) = true)) := by simpa using h9
    refine WC.seq ?_
    have hB11 := hB4.below hbc
    refine WC.opt [(true, .val (.pointer (some ⟨g2, 1, none⟩))), (true, .val (.int .i64 x.ar)), (true, .val (.bool ((decide ((x.ar : Int) < (0 : Int)))))), (true, .val (.bool ((decide ((x.ar : Int) < (0 : Int)))))), ((true && !(decide ((x.ar : Int) < (0 : Int)))), .val (.pointer (some ⟨g2, 1, none⟩))), ((true && !(decide ((x.ar : Int) < (0 : Int)))), .val (.int .i64 x.ar)), ((true && !(decide ((x.ar : Int) < (0 : Int)))), .val (.bool ((decide ((6 : Int) < (x.ar : Int)))))), (true, .val (.bool (((decide ((x.ar : Int) < (0 : Int))) || (decide ((6 : Int) < (x.ar : Int))))))), (true, .val (.bool (((decide ((x.ar : Int) < (0 : Int))) || (decide ((6 : Int) < (x.ar : Int)))))))] [(0, .agg #[.string x.name, .int .i64 x.ar, .bool x.pred]), (1, .pointer (some ⟨g2, 0, none⟩)), (2, .int .i64 0), (3, .bool ((!(named x.name))))] ⟨rfl, rfl, rfl, rfl, trivial⟩ (by kernel_rfl) (by kernel_rfl) (by kernel_rfl) ?_ ?_
    · refine ⟨⟨true, .none rfl, fun h w => optUndef h, fun zβ za zw zc => ?_⟩, ?_⟩
      · exact fld_66_1 rfl (zc.kn.ev rfl) ⟨_, rfl, Below.refl _ _, optDef zβ rfl⟩
      refine ⟨⟨true, .none rfl, fun h w => optUndef h, fun zβ za zw zc => ?_⟩, ?_⟩
      · exact ld_3 rfl ((evt za 9).trans (optVal (zc.dep 0 9 (by kernel_rfl)) rfl rfl)) (bkeeps zc.below _ _ ((hB11.cell 1).trans rfl)) ⟨_, rfl, Below.refl _ _, optDef zβ rfl⟩
      refine ⟨⟨true, .none rfl, fun h w => optUndef h, fun zβ za zw zc => ?_⟩, ?_⟩
      · exact lss_3 rfl ((evt za 10).trans (optVal (zc.dep 1 10 (by kernel_rfl)) rfl rfl)) (zc.kn.ev rfl) ⟨_, rfl, Below.refl _ _, optDef zβ rfl⟩
      refine ⟨⟨true, .none rfl, fun h w => optUndef h, fun zβ za zw zc => ?_⟩, ?_⟩
      · exact wp_move rfl ((evt za 11).trans (optVal (zc.dep 2 11 (by kernel_rfl)) rfl rfl)) ⟨_, rfl, Below.refl _ _, optDef zβ rfl⟩
      refine ⟨⟨_, .no (c := (decide ((x.ar : Int) < (0 : Int)))) (d := true) rfl (fun v w h => h), fun h w => optUndef h, fun zβ za zw zc => ?_⟩, ?_⟩
      · exact fld_66_1 rfl (zc.kn.ev rfl) ⟨_, rfl, Below.refl _ _, optDef zβ rfl⟩
      refine ⟨⟨_, .no (c := (decide ((x.ar : Int) < (0 : Int)))) (d := true) rfl (fun v w h => h), fun h w => optUndef h, fun zβ za zw zc => ?_⟩, ?_⟩
      · exact ld_3 rfl ((evt za 13).trans (optVal (zc.dep 4 13 (by kernel_rfl)) rfl zβ)) (bkeeps zc.below _ _ ((hB11.cell 1).trans rfl)) ⟨_, rfl, Below.refl _ _, optDef zβ rfl⟩
      refine ⟨⟨_, .no (c := (decide ((x.ar : Int) < (0 : Int)))) (d := true) rfl (fun v w h => h), fun h w => optUndef h, fun zβ za zw zc => ?_⟩, ?_⟩
      · exact gtr_3 rfl ((evt za 14).trans (optVal (zc.dep 5 14 (by kernel_rfl)) rfl zβ)) (zc.kn.ev rfl) ⟨_, rfl, Below.refl _ _, optDef zβ rfl⟩
      refine ⟨⟨true, .none rfl, fun h w => optUndef h, fun zβ za zw zc => ?_⟩, ?_⟩
      · exact wp_or rfl ((evt za 12).trans (optVal (zc.dep 3 12 (by kernel_rfl)) rfl rfl)) (fun hp => ((evt za 15).trans (optVal (zc.dep 6 15 (by kernel_rfl)) rfl (bMkN zβ hp)))) ⟨_, rfl, Below.refl _ _, optDef zβ rfl⟩
      refine ⟨⟨true, .none rfl, fun h w => optUndef h, fun zβ za zw zc => ?_⟩, ?_⟩
      · exact wp_assign rfl ((evt za 16).trans (optVal (zc.dep 7 16 (by kernel_rfl)) rfl rfl)) ⟨_, rfl, Below.refl _ _, optDef zβ rfl⟩
      exact trivial
    · intro za w12 zh hb13 zu
      have zh := zh.cons (d := 8) (v := .bool (((decide ((x.ar : Int) < (0 : Int))) || (decide ((6 : Int) < (x.ar : Int)))))) (optVal (zu 8 8 (by kernel_rfl)) rfl rfl)
      clear zu
      refine WE.go zh ?_
      refine WE.next ?_
      refine WC.cond rfl (fun h14 => ?_) (fun h14 => ?_)
      · have h14 : ((x.ar : Int) < (0 : Int)) ∨ ((6 : Int) < (x.ar : Int)) := by simpa using h14
        refine WC.seq ?_
        refine WC.region ?_
        refine WL.asg rfl rfl rfl rfl rfl ?_
        refine WL.nil ?_
        refine WE.next ?_
        refine WC.ret ?_
        refine WE.blockRet ?_
        refine WE.thenRet ?_
        refine WE.ret1 rfl rfl ?_
        have hb15 : Below w.heap.size w w12 := (bstep (bstep hb5 hbc) hb13)
        refine ⟨_, rfl, congrArg (Value.int .i64) ?_, hb15⟩
        unfold Sy.one
        simp_all
      · have h14 : ¬ (((x.ar : Int) < (0 : Int)) ∨ ((6 : Int) < (x.ar : Int))) := by simpa using h14
        refine WC.skip ?_
        refine WE.blockNormal ?_
        refine WE.next ?_
        refine WC.seq ?_
        refine WC.region ?_
        refine WL.asg rfl rfl rfl rfl rfl ?_
        refine WL.nil ?_
        refine WE.next ?_
        refine WC.ret ?_
        refine WE.ret1 rfl rfl ?_
        have hb16 : Below w.heap.size w w12 := (bstep (bstep hb5 hbc) hb13)
        refine ⟨_, rfl, congrArg (Value.int .i64) ?_, hb16⟩
        unfold Sy.one
        simp_all
set_option maxRecDepth 100000 in
theorem ptruth_any (w : World) : Calls Try.prog 49 #[] w (Ret fun v' w' => v' = truth.val ∧ Below w.heap.size w w') := by
  refine Calls.walk (l := []) Try.func49 rfl (by kernel_rfl) ?_
  refine WC.sub (K' := []) trivial ?_
  refine WC.seq ?_
  refine WC.region ?_
  refine WL.step (post := NewBlk w 66 #[.string (⟨#[]⟩), .int .i64 0, .bool false]) rfl rfl rfl (fun za zC zh zk => alloc_66 rfl (zk _ _ (newBlk _ _ _))) ?_
  rintro _ w1 ⟨g2, rfl, hg3, hB4, hb5, hz6⟩
  have hl7 : w.heap.size ≤ g2 := by omega
  refine WL.nil ?_
  refine WE.next ?_
  refine WC.seq ?_
  refine WC.region ?_
  refine WL.val (.agg #[.string ((⟨#[36, 116, 114, 117, 101]⟩ : ByteArray)), .int .i64 0, .bool true]) rfl rfl rfl (fun za zC zh zk => build_66_0_2 rfl (zh.ev rfl) (zh.ev rfl) zk) ?_
  refine WL.step (post := fun _ w' => Upd g2 w1 w' ∧ Blk w' g2 66 #[.string ((⟨#[36, 116, 114, 117, 101]⟩ : ByteArray)), .int .i64 0, .bool true]) rfl rfl rfl (fun za zC zh zk => st_66 rfl (zh.ev rfl) (zh.ev rfl) rfl rfl rfl hB4 (by first | decide | simp) (fun v => zk v _ ⟨((Upd.at_ _ _ _ _).trans (Upd.at_ _ _ _ _)).trans (Upd.at_ _ _ _ _), ((hB4.set_ 0 _).set_ 1 _).set_ 2 _⟩)) ?_
  rintro v11 w8 ⟨hu9, hB10⟩
  have hb12 := upd_below hb5 hu9 (by omega)
  refine WL.nil ?_
  refine WE.next ?_
  refine WC.ret ?_
  refine WE.retAny (v := .agg #[.string ((⟨#[36, 116, 114, 117, 101]⟩ : ByteArray)), .int .i64 0, .bool true]) (fun za zh => ?_) ?_
  · have z0 : za.tmps[0]?.getD undef = .pointer (some ⟨g2, 0, none⟩) := by rw [← Array.getD_eq_getD_getElem?]; exact zh.knows 0 _ rfl
    have y0 : w8.cell? ⟨g2, 0, none⟩ = some (.string ((⟨#[36, 116, 114, 117, 101]⟩ : ByteArray))) := ((hB10.cell 0).trans rfl)
    have y1 : w8.cell? ⟨g2, 1, none⟩ = some (.int .i64 0) := ((hB10.cell 1).trans rfl)
    have y2 : w8.cell? ⟨g2, 2, none⟩ = some (.bool true) := ((hB10.cell 2).trans rfl)
    simp [results, Try.results49, z0, y0, y1, y2, go_sem]
  · exact ⟨_, rfl, rfl, hb12⟩
end Go.Proofs.Ytbohlpfndiiimaa

/- Maps keyed by symbols. -/
namespace Go.Proofs.Ytbohlpfndiiimaa
open Go.RowKit Go
theorem run_equal_sy (x y : Sy) (w : World) : (Op.equal 66 x.val y.val).run Try.prog w = .ok (decide (x = y)) w := by
  have h := eqSy x.name y.name x.ar y.ar x.pred y.pred w
  have e : (binOp .eql 66 x.val y.val).run Try.prog w = ((Op.equal 66 x.val y.val).run Try.prog w).andThen fun b w' => .ok (.bool b) w' := by
    simp [binOp, Sy.val]
  unfold Sy.val at *
  rw [e] at h
  cases hr : (Op.equal 66 (.agg #[.string x.name, .int .i64 x.ar, .bool x.pred]) (.agg #[.string y.name, .int .i64 y.ar, .bool y.pred])).run Try.prog w with
  | ok b w' =>
    rw [hr] at h
    simp only [Result.andThen_ok, Result.ok.injEq, Value.bool.injEq] at h ⊢
    exact h
  | halt z w' => rw [hr] at h; simp [Result.andThen] at h
set_option maxRecDepth 20000 in
theorem run_checkKey_sy (b : Bool) (x : Sy) (w : World) : (Instr.checkKey b 10000 66 x.val).run Try.prog w = .ok () w := by
  have u0 := Try.underlying66
  have u1 := Try.underlying9
  have u2 := Try.underlying3
  have u3 := Try.underlying4
  rw [show (10000 : Nat) = 9998 + 1 + 1 from rfl]
  generalize (9998 : Nat) = n
  unfold Sy.val
  simp [Instr.checkKey, run_underlying u0, run_underlying u1, run_underlying u2, run_underlying u3, go_sem]
theorem run_getObj_map (P : Program) (w : World) (r : Nat) (es : Array MapEntry) (clock : Nat) (h : w.heap[r]? = some (.map es clock)) : (getObj r).run P w = .ok (.map es clock) w := by
  simp [getObj, Sem.run, h]
/-- A map's keys are these symbols. -/
def MapSy (w : World) (r : Nat) (L : List Sy) : Prop := ∃ es clock, w.heap[r]? = some (.map es clock) ∧ es.toList.map (fun e => e.key) = L.map Sy.val ∧ ∀ e ∈ es.toList, ∃ n, e.val = .int .i64 n
theorem run_findAsking_sy (x : Sy) (w : World) : ∀ (es : List MapEntry) (L : List Sy) (i : Nat), es.map (fun e => e.key) = L.map Sy.val → (∀ e ∈ es, ∃ n, e.val = .int .i64 n) →
    ∃ r, (Instr.findAsking 66 x.val es i).run Try.prog w = .ok r w ∧ (x ∉ L → r = none) ∧ (x ∈ L → ∃ j n, r = some (j, .int .i64 n) ∧ i ≤ j ∧ ∃ e, es[j - i]? = some e ∧ e.key = x.val)
  | [], L, i, h, _ => by
    have : L = [] := by simpa using h.symm
    subst this
    exact ⟨none, by simp [Instr.findAsking], fun _ => rfl, fun h => by simp at h⟩
  | e :: es, [], i, h, _ => by simp at h
  | e :: es, y :: L, i, h, hv => by
    simp only [List.map_cons, List.cons.injEq] at h
    obtain ⟨hk, h⟩ := h
    unfold Instr.findAsking
    simp only [Sem.run_bind, hk, run_equal_sy, Result.andThen_ok]
    by_cases hxy : x = y
    · subst hxy
      obtain ⟨n, hn⟩ := hv e (by simp)
      refine ⟨some (i, e.val), by simp, fun h => by simp at h, fun _ => ⟨i, n, by rw [hn], Nat.le_refl _, e, by simp, hk⟩⟩
    · obtain ⟨r, h1, h2, h3⟩ := run_findAsking_sy x w es L (i + 1) h (fun e he => hv e (by simp [he]))
      refine ⟨r, by simpa [hxy] using h1, fun hx => h2 (fun hx' => hx (by simp [hx'])), fun hx => ?_⟩
      obtain ⟨j, n, h4, h5, e', h6, h7⟩ := h3 (by simpa [hxy] using hx)
      refine ⟨j, n, h4, by omega, e', ?_, h7⟩
      rw [show j - i = (j - (i + 1)) + 1 by omega]; simpa using h6
theorem run_findKey_sy (x : Sy) (w : World) (es : List MapEntry) (L : List Sy) (h : es.map (fun e => e.key) = L.map Sy.val) (hv : ∀ e ∈ es, ∃ n, e.val = .int .i64 n) :
    ∃ r, (Instr.findKey 66 x.val es).run Try.prog w = .ok r w ∧ (x ∉ L → r = none) ∧ (x ∈ L → ∃ j n, r = some (j, .int .i64 n) ∧ ∃ e, es[j]? = some e ∧ e.key = x.val) := by
  have u0 := Try.underlying66
  cases es with
  | nil =>
    have : L = [] := by simpa using h.symm
    subst this
    exact ⟨none, by simp [Instr.findKey, run_underlying u0, Instr.findNow], fun _ => rfl, fun h => by simp at h⟩
  | cons e es =>
    obtain ⟨r, h1, h2, h3⟩ := run_findAsking_sy x w (e :: es) L 0 h hv
    refine ⟨r, ?_, h2, fun hx => ?_⟩
    · have hs : Instr.findNow (.struct (Try.prog.fieldsOf 66)) x.val (e :: es) 0 = none := by
        simp [Instr.findNow, Instr.sameNow]
      have hU : Try.prog.underlying 66 = some (.struct (Try.prog.fieldsOf 66)) := by kernel_rfl
      unfold Instr.findKey
      simp only [Sem.run_bind, run_underlying hU, Result.andThen_ok, hs]
      exact h1
    · obtain ⟨j, n, h4, _, e', h5, h6⟩ := h3 hx
      exact ⟨j, n, h4, e', by simpa using h5, h6⟩
section
variable {w : World} {a : Act} {K : Act → World → Prop} {Q : Exit → Act → World → Prop} {o : Oper}
theorem wp_lookup_sy {x y : Operand} {r : Nat} {L : List Sy} {s : Sy} (ho : o.op = .lookup 93 x y true) (hx : a.eval x = .map (some r)) (hy : a.eval y = s.val) (hM : MapSy w r L)
    (hK : ∀ n, K (a.put o.dst (.tuple #[.int .i64 n, .bool (decide (s ∈ L))])) w) : o.wp Try.prog a w K Q := by
  obtain ⟨es, clock, h1, h2, h3⟩ := hM
  obtain ⟨r0, h4, h5, h6⟩ := run_findKey_sy s w es.toList L h2 h3
  have um := Try.underlying93
  have hg : (getObj r).run Try.prog w = .ok (.map es clock) w := by rw [run_getObj_map _ _ _ _ _ h1]
  have hi : (Try.prog.info? 3).map (fun i => i.zero) = some (some (.int .i64 0)) := by kernel_rfl
  unfold Oper.wp execOp
  simp only [ho, hx, hy, Instr.lookup, Sem.run_bind, Sem.run_pure, run_underlying um, Result.andThen_ok, hg, run_checkKey_sy, h4]
  by_cases hs : s ∈ L
  · obtain ⟨j, n, rfl, _⟩ := h6 hs
    have := hK n
    simp only [hs, decide_true] at this
    simp
    exact this
  · rw [h5 hs]
    have := hK 0
    simp only [hs, decide_false] at this
    go_simp
    exact this
theorem wp_mapUpdate_sy {x y z : Operand} {r : Nat} {L : List Sy} {s : Sy} {n : Int} (ho : o.op = .mapUpdate 93 x y z) (hx : a.eval x = .map (some r)) (hy : a.eval y = s.val) (hz : a.eval z = .int .i64 n) (hM : MapSy w r L) (hs : s ∉ L)
    (hK : ∀ v w', MapSy w' r (L ++ [s]) → Upd r w w' → K (a.put o.dst v) w') : o.wp Try.prog a w K Q := by
  obtain ⟨es, clock, h1, h2, h3⟩ := hM
  obtain ⟨r0, h4, h5, h6⟩ := run_findKey_sy s w es.toList L h2 h3
  have um := Try.underlying93
  have hg := run_getObj_map Try.prog w r es clock h1
  obtain rfl := h5 hs
  have hset : (setObj r (.map (es.push { key := s.val, val := .int .i64 n, born := clock }) (clock + 1))).run Try.prog w = .ok () { w with heap := w.heap.setIfInBounds r (.map (es.push { key := s.val, val := .int .i64 n, born := clock }) (clock + 1)) } := by
    simp [setObj, Sem.run, h1]
  have hlt : r < w.heap.size := (Array.getElem?_eq_some_iff.1 h1).1
  have := hK undef { w with heap := w.heap.setIfInBounds r (.map (es.push { key := s.val, val := .int .i64 n, born := clock }) (clock + 1)) } ⟨es.push { key := s.val, val := .int .i64 n, born := clock }, clock + 1, by simp [hlt], by simp [h2], fun e he => by
    simp only [Array.toList_push, List.mem_append, List.mem_singleton] at he
    rcases he with he | rfl
    · exact h3 e he
    · exact ⟨n, rfl⟩⟩ ⟨rfl, rfl, rfl, by simp, fun k hk => by simp [Ne.symm hk]⟩
  unfold Oper.wp execOp
  simp only [ho, hx, hy, hz, Instr.mapUpdate, Sem.run_bind, Sem.run_pure, run_underlying um, Result.andThen_ok, hg, run_checkKey_sy, h4, hset]
  exact this
/-- A new map. -/
def NewMapSy (w : World) (v : Value) (w' : World) : Prop := ∃ g, v = .map (some g) ∧ w.heap.size = g ∧ MapSy w' g [] ∧ Below w.heap.size w w' ∧ w'.heap.size = g + 1
theorem wp_makeMap_sy (ho : o.op = .makeMap 93 none) (hK : ∀ v w', NewMapSy w v w' → K (a.put o.dst v) w') : o.wp Try.prog a w K Q := by
  have := hK (.map (some w.heap.size)) (w.alloc (.map #[] 0)) ⟨_, rfl, rfl, ⟨#[], 0, heap_alloc_new w _, rfl, fun e he => by simp at he⟩, balloc _ _, by simp⟩
  unfold Oper.wp execOp
  simp only [ho]
  go_simp
  exact this
theorem wp_neq_sy {x y : Operand} {s t : Sy} (ho : o.op = .binOp .neq 66 x y 66) (hx : a.eval x = s.val) (hy : a.eval y = t.val) (hK : K (a.put o.dst (.bool (!decide (s = t)))) w) : o.wp Try.prog a w K Q := by
  have h := neqSy s.name t.name s.ar t.ar s.pred t.pred w
  have hg := guardSy .neq x y #[.string s.name, .int .i64 s.ar, .bool s.pred] #[.string t.name, .int .i64 t.ar, .bool t.pred] w
  unfold Sy.val at *
  unfold Oper.wp execOp
  simp only [ho, hx, hy, Sem.run_bind, Sem.run_pure, hg, h, Result.andThen_ok]
  exact hK
end
theorem MapSy.lt {w : World} {r : Nat} {L : List Sy} (h : MapSy w r L) : r < w.heap.size := by
  obtain ⟨es, clock, h1, _⟩ := h
  exact (Array.getElem?_eq_some_iff.1 h1).1
theorem MapSy.chg {w w' : World} {r : Nat} {L : List Sy} {S : Nat → Prop} (h : MapSy w r L) (hb : Chg S w w') (hr : ¬ S r) : MapSy w' r L := by
  obtain ⟨es, clock, h1, h2, h3⟩ := h
  exact ⟨es, clock, (hb.block r (Array.getElem?_eq_some_iff.1 h1).1 hr).trans h1, h2, h3⟩
theorem MapSy.below {w w' : World} {r : Nat} {L : List Sy} (h : MapSy w r L) (hb : Below w.heap.size w w') : MapSy w' r L := by
  obtain ⟨es, clock, h1, h2, h3⟩ := h
  exact ⟨es, clock, (hb.block r (Array.getElem?_eq_some_iff.1 h1).1).trans h1, h2, h3⟩
theorem MapSy.upd {w w' : World} {r g : Nat} {L : List Sy} (h : MapSy w r L) (hu : Upd g w w') (hne : r ≠ g) : MapSy w' r L := by
  obtain ⟨es, clock, h1, h2, h3⟩ := h
  exact ⟨es, clock, (hu.block r hne).trans h1, h2, h3⟩
end Go.Proofs.Ytbohlpfndiiimaa

/- Signatures, plain. -/
namespace Go.Proofs.Ytbohlpfndiiimaa
/-- The first error among symbols, some of which have been met. -/
def metErr (seen : List Sy) : List Sy → Int
  | [] => 0
  | x :: r => if x.one ≠ 0 then x.one else if x ∈ seen then 113 else metErr (seen ++ [x]) r
theorem syAt_mem (x : Sy) : ∀ (l : List Sy) (k : Int), 0 ≤ k → (x ∈ l → k ≤ syAt x l k) ∧ (x ∉ l → syAt x l k = -1) := by
  intro l
  induction l with
  | nil => intro k _; simp [syAt]
  | cons y l ih =>
    intro k hk
    rw [syAt]
    split
    · rename_i h; subst h; simp
    · rename_i h
      obtain ⟨h1, h2⟩ := ih (k + 1) (by omega)
      have hne : ¬ x = y := fun e => h e.symm
      simp only [List.mem_cons, hne, false_or]
      exact ⟨fun hx => by have := h1 hx; omega, h2⟩
theorem syAt_found (x : Sy) : ∀ (l r : List Sy) (k : Int), 0 ≤ k → x ∈ l ++ r → (syAt x (l ++ r) k < k + l.length ↔ x ∈ l) := by
  intro l
  induction l with
  | nil => intro r k hk hx; have := (syAt_mem x r k hk).1 (by simpa using hx); simp; omega
  | cons y l ih =>
    intro r k hk hx
    rw [List.cons_append, syAt]
    split
    · rename_i h; subst h; simp; omega
    · rename_i h
      have hne : ¬ x = y := fun e => h e.symm
      have hx' : x ∈ l ++ r := by simpa [hne] using hx
      have := ih r (k + 1) (by omega) hx'
      rw [show k + ((y :: l).length : Int) = k + 1 + l.length by simp; omega, this]
      simp [hne]
theorem truth_one : truth.one ≠ 0 := by decide +kernel
theorem metErr_symsErr (all : List Sy) : ∀ (rest seen : List Sy), all = truth :: seen ++ rest → symsErr all rest (1 + seen.length) = metErr seen rest := by
  intro rest
  induction rest with
  | nil => intro _ _; rfl
  | cons x r ih =>
    intro seen h
    rw [symsErr, metErr]
    by_cases h1 : x.one ≠ 0
    · rw [if_pos h1, if_pos h1]
    · rw [if_neg h1, if_neg h1]
      have hne : x ≠ truth := fun e => h1 (e ▸ truth_one)
      have h2 := syAt_found x (truth :: seen) (x :: r) 0 (Int.le_refl _) (by simp)
      have e : (0 : Int) + ((truth :: seen).length : Int) = 1 + seen.length := by simp; omega
      rw [e, ← h] at h2
      simp only [List.mem_cons, hne, false_or] at h2
      by_cases h3 : x ∈ seen
      · rw [if_pos (h2.2 h3), if_pos h3]
      · rw [if_neg (fun h => h3 (h2.1 h)), if_neg h3]
        have := ih (seen ++ [x]) (by simp [h])
        rw [← this]
        congr 1
        simp; omega
theorem sigCheck_met (t : List Sy) (h : ¬ 96 < t.length + 1) : sigCheck (truth :: t) = metErr [] t := by
  unfold sigCheck
  rw [if_neg (by simpa using h)]
  have := metErr_symsErr (truth :: t) t [] rfl
  simp at this
  simpa using this
/-- A step. -/
theorem metErr_step {t : List Sy} {k : Nat} (h : k < t.length) : metErr (t.take k) (t.drop k) = if (sget t k).one ≠ 0 then (sget t k).one else if sget t k ∈ t.take k then 113 else metErr (t.take (k + 1)) (t.drop (k + 1)) := by
  rw [sget_lt h, List.drop_eq_getElem_cons h, metErr, List.take_succ_eq_append_getElem h]
end Go.Proofs.Ytbohlpfndiiimaa

/- The walk through the program's check of a signature. -/
namespace Go.Proofs.Ytbohlpfndiiimaa
open Go.RowKit Go
set_option linter.unusedVariables false
set_option linter.unusedSimpArgs false
theorem chk1 {l : List Sy} (h : 96 < l.length) : (3 : Int) = sigCheck l := by unfold sigCheck; rw [if_pos h]
theorem chk2 {l : List Sy} (h : ¬ 96 < l.length) (h2 : ((l.length : Nat) : Int) = (0 : Int) ∨ ¬ (sget l 0 = truth)) : (110 : Int) = sigCheck l := by
 unfold sigCheck
 rw [if_neg h, if_pos]
 cases l with
 | nil => simp
 | cons x r =>
  rcases h2 with h2 | h2
  ·simp at h2; omega
  ·simpa [sget] using h2
theorem chk0 {l : List Sy} (h : ¬ 96 < l.length) (h2 : ¬ (((l.length : Nat) : Int) = (0 : Int) ∨ ¬ (sget l 0 = truth))) : sigCheck l = metErr [] (l.drop 1) := by
 cases l with
 | nil => simp at h2
 | cons x r =>
  simp [sget] at h2
  obtain ⟨_, rfl⟩ := h2
  exact sigCheck_met r (by simpa using h)
theorem chk3 {l : List Sy} {k : Nat} (h : ¬ 96 < l.length) (hk : k < l.length - 1) (h2 : ¬ (((l.length : Nat) : Int) = (0 : Int) ∨ ¬ (sget l 0 = truth))) (hE : metErr [] (l.drop 1) = metErr ((l.drop 1).take k) ((l.drop 1).drop k)) (_ : k < l.length - 1) (ho : ((sget (l.drop 1) k).one : Int) ≠ (0 : Int)) : (sget (l.drop 1) k).one = sigCheck l := by
 rw [chk0 h h2, hE, metErr_step (by simp; omega), if_pos ho]
theorem chk4 {l : List Sy} {k : Nat} (h : ¬ 96 < l.length) (hk : k < l.length - 1) (h2 : ¬ (((l.length : Nat) : Int) = (0 : Int) ∨ ¬ (sget l 0 = truth))) (hE : metErr [] (l.drop 1) = metErr ((l.drop 1).take k) ((l.drop 1).drop k)) (_ : k < l.length - 1) (ho : ¬ ((sget (l.drop 1) k).one : Int) ≠ (0 : Int)) (hm : sget (l.drop 1) k ∈ (l.drop 1).take k) : (113 : Int) = sigCheck l := by
 rw [chk0 h h2, hE, metErr_step (by simp; omega), if_neg ho, if_pos hm]
theorem chk5 {l : List Sy} {k : Nat} (h : ¬ 96 < l.length) (hk : ¬ k < l.length - 1) (h2 : ¬ (((l.length : Nat) : Int) = (0 : Int) ∨ ¬ (sget l 0 = truth))) (hE : metErr [] (l.drop 1) = metErr ((l.drop 1).take k) ((l.drop 1).drop k)) (_ : ¬ k < l.length - 1) : (0 : Int) = sigCheck l := by
 have e : (l.drop 1).drop k = [] := List.drop_of_length_le (by simp; omega)
 rw [chk0 h h2, hE, e]; rfl
theorem take_sget {w : World} {r k : Nat} {L : List Sy} (hk : k < L.length) (h : MapSy w r (L.take k ++ [sget L k])) : MapSy w r (L.take (k + 1)) := by
 rw [List.take_succ_eq_append_getElem hk, ← sget_lt hk]; exact h
set_option maxRecDepth 100000 in
theorem pcheck_any (l : List Sy) (w : World) (v : Value) (hv : IsSig w l v) : Calls Try.prog 26 #[v] w (Ret fun v' w' => v' = .int .i64 (sigCheck l) ∧ Below w.heap.size w w') := by
 obtain ⟨a, c, rfl, hc, hm, hl⟩ := hv
 unfold maxLen at hm
 refine Calls.walk (l := [.agg #[.slice a l.length c]]) Try.func26 rfl (by kernel_rfl) ?_
 refine WC.sub (K' := [(0, .agg #[.slice a l.length c])]) ⟨rfl, trivial⟩ ?_
 refine WC.seq (WC.region ?_)
 refine WL.step (post := NewBlk w 24 #[.slice a l.length c]) rfl rfl rfl (fun za zC zh zk => box_24 rfl (zh.ev rfl) (zk _ _ (newBlk _ _ _))) ?_
 rintro _ w1 ⟨g2, rfl, hg3, hB4, hb5, hz6⟩
 have hl7 : w.heap.size ≤ g2 := by omega
 refine WL.asg rfl rfl rfl rfl rfl (WL.nil (WE.next (WC.seq (WC.block (WC.seq (WC.region ?_))))))
 refine WL.val _ rfl rfl rfl (fun za zC zh zk => fld_24_0 rfl (zh.ev rfl) zk) ?_
 refine WL.val _ rfl rfl rfl (fun za zC zh zk => ld_22 rfl (zh.ev rfl) ((hB4.cell 0).trans rfl) zk) ?_
 refine WL.val (.int .i64 (((l.length : Nat) : Int))) rfl rfl rfl (fun za zC zh zk => len_22 rfl (zh.ev rfl) zk) ?_
 refine WL.val (.bool ((decide ((96 : Int) < (((l.length : Nat) : Int) : Int))))) rfl rfl rfl (fun za zC zh zk => gtr_3 rfl (zh.ev rfl) (zh.ev rfl) zk) ?_
 refine WL.asg rfl rfl rfl rfl rfl (WL.nil (WE.next ?_))
 refine WC.cond rfl (fun h8 => ?_) (fun h8 => ?_)
 ·have h8 : (96 : Int) < (((l.length : Nat) : Int) : Int) := by simpa using h8
  refine WC.seq (WC.region (WL.asg rfl rfl rfl rfl rfl (WL.nil (WE.next (WC.ret (WE.blockRet (WE.thenRet (WE.ret1 rfl rfl ?_))))))))
  exact ⟨_, rfl, congrArg (Value.int .i64) (by first | exact chk1 (by omega) | exact chk2 (by omega) (by assumption) | exact chk3 (by omega) (by omega) ‹_› hE (by omega) ‹_› | exact chk4 (by omega) (by omega) ‹_› hE (by omega) ‹_› ‹_› | exact chk5 (by omega) (by omega) ‹_› hE (by omega)), hb5⟩
 ·have h8 : ¬ ((96 : Int) < (((l.length : Nat) : Int) : Int)) := by simpa using h8
  refine WC.seq ?_
  obtain ⟨b9, o10, ha11, hc12⟩ := IsSys.open hl
  refine WC.opt [(true, .val (.pointer (some ⟨g2, 0, none⟩))), (true, .val (.slice a l.length c)), (true, .val (.int .i64 (((l.length : Nat) : Int)))), (true, .val (.bool (((((l.length : Nat) : Int) : Int) == (0 : Int))))), (true, .val (.bool (((((l.length : Nat) : Int) : Int) == (0 : Int))))), ((true && !((((l.length : Nat) : Int) : Int) == (0 : Int))), .val (.pointer (some ⟨g2, 0, none⟩))), ((true && !((((l.length : Nat) : Int) : Int) == (0 : Int))), .val (.slice a l.length c)), ((true && !((((l.length : Nat) : Int) : Int) == (0 : Int))), .val (.pointer (some ⟨b9, o10 + 0 * 3, none⟩))), ((true && !((((l.length : Nat) : Int) : Int) == (0 : Int))), .val (.agg #[.string ((sget l 0).name), .int .i64 ((sget l 0).ar), .bool ((sget l 0).pred)])), ((true && !((((l.length : Nat) : Int) : Int) == (0 : Int))), .val (.agg #[.string truth.name, .int .i64 truth.ar, .bool truth.pred])), ((true && !((((l.length : Nat) : Int) : Int) == (0 : Int))), .val (.bool ((!decide ((sget l 0) = truth))))), (true, .val (.bool ((((((l.length : Nat) : Int) : Int) == (0 : Int)) || (!decide ((sget l 0) = truth)))))), (true, .val (.bool ((((((l.length : Nat) : Int) : Int) == (0 : Int)) || (!decide ((sget l 0) = truth))))))] [(0, .agg #[.slice a l.length c]), (1, .pointer (some ⟨g2, 0, none⟩)), (2, .int .i64 0), (9, .bool ((decide ((96 : Int) < (((l.length : Nat) : Int) : Int)))))] ⟨rfl, rfl, rfl, rfl, trivial⟩ (by kernel_rfl) (by kernel_rfl) (by kernel_rfl) ?_ ?_
  ·refine ⟨⟨true, .none rfl, fun h w => optUndef h, fun zβ za zw zc => ?_⟩, ?_⟩
   ·exact fld_24_0 rfl (zc.kn.ev rfl) ⟨_, rfl, Below.refl _ _, optDef zβ rfl⟩
   refine ⟨⟨true, .none rfl, fun h w => optUndef h, fun zβ za zw zc => ?_⟩, ?_⟩
   ·exact ld_22 rfl ((evt za 15).trans (optVal (zc.dep 0 15 (by kernel_rfl)) rfl rfl)) (bkeeps zc.below _ _ ((hB4.cell 0).trans rfl)) ⟨_, rfl, Below.refl _ _, optDef zβ rfl⟩
   refine ⟨⟨true, .none rfl, fun h w => optUndef h, fun zβ za zw zc => ?_⟩, ?_⟩
   ·exact len_22 rfl ((evt za 16).trans (optVal (zc.dep 1 16 (by kernel_rfl)) rfl rfl)) ⟨_, rfl, Below.refl _ _, optDef zβ rfl⟩
   refine ⟨⟨true, .none rfl, fun h w => optUndef h, fun zβ za zw zc => ?_⟩, ?_⟩
   ·exact eql_3 rfl ((evt za 17).trans (optVal (zc.dep 2 17 (by kernel_rfl)) rfl rfl)) (zc.kn.ev rfl) ⟨_, rfl, Below.refl _ _, optDef zβ rfl⟩
   refine ⟨⟨true, .none rfl, fun h w => optUndef h, fun zβ za zw zc => ?_⟩, ?_⟩
   ·exact wp_move rfl ((evt za 18).trans (optVal (zc.dep 3 18 (by kernel_rfl)) rfl rfl)) ⟨_, rfl, Below.refl _ _, optDef zβ rfl⟩
   refine ⟨⟨_, .no (c := ((((l.length : Nat) : Int) : Int) == (0 : Int))) (d := true) rfl (fun v w h => h), fun h w => optUndef h, fun zβ za zw zc => ?_⟩, ?_⟩
   ·exact fld_24_0 rfl (zc.kn.ev rfl) ⟨_, rfl, Below.refl _ _, optDef zβ rfl⟩
   refine ⟨⟨_, .no (c := ((((l.length : Nat) : Int) : Int) == (0 : Int))) (d := true) rfl (fun v w h => h), fun h w => optUndef h, fun zβ za zw zc => ?_⟩, ?_⟩
   ·exact ld_22 rfl ((evt za 20).trans (optVal (zc.dep 5 20 (by kernel_rfl)) rfl zβ)) (bkeeps zc.below _ _ ((hB4.cell 0).trans rfl)) ⟨_, rfl, Below.refl _ _, optDef zβ rfl⟩
   refine ⟨⟨_, .no (c := ((((l.length : Nat) : Int) : Int) == (0 : Int))) (d := true) rfl (fun v w h => h), fun h w => optUndef h, fun zβ za zw zc => ?_⟩, ?_⟩
   ·exact ix_22 (k := 0) rfl ((evt za 21).trans (optVal (zc.dep 6 21 (by kernel_rfl)) rfl zβ)) (ha11 0 (by first | omega | (have zz := zβ; simp only [Bool.and_eq_true, Bool.or_eq_true, Bool.true_and, Bool.not_eq_true', Bool.or_eq_false_iff, Bool.and_eq_false_iff, beq_eq_false_iff_ne, ne_eq, beq_iff_eq, decide_eq_true_eq, decide_eq_false_iff_not, bne_iff_ne, bne_eq_false_iff_eq] at zz; omega))) (zc.kn.ev rfl) (by first | omega | (have zz := zβ; simp only [Bool.and_eq_true, Bool.or_eq_true, Bool.true_and, Bool.not_eq_true', Bool.or_eq_false_iff, Bool.and_eq_false_iff, beq_eq_false_iff_ne, ne_eq, beq_iff_eq, decide_eq_true_eq, decide_eq_false_iff_not, bne_iff_ne, bne_eq_false_iff_eq] at zz; omega)) ⟨_, rfl, Below.refl _ _, optDef zβ rfl⟩
   refine ⟨⟨_, .no (c := ((((l.length : Nat) : Int) : Int) == (0 : Int))) (d := true) rfl (fun v w h => h), fun h w => optUndef h, fun zβ za zw zc => ?_⟩, ?_⟩
   ·exact ld_66 rfl ((evt za 22).trans (optVal (zc.dep 7 22 (by kernel_rfl)) rfl zβ)) (bkeeps (bstep hb5 zc.below) _ _ (hc12 0 (by first | omega | (have zz := zβ; simp only [Bool.and_eq_true, Bool.or_eq_true, Bool.true_and, Bool.not_eq_true', Bool.or_eq_false_iff, Bool.and_eq_false_iff, beq_eq_false_iff_ne, ne_eq, beq_iff_eq, decide_eq_true_eq, decide_eq_false_iff_not, bne_iff_ne, bne_eq_false_iff_eq] at zz; omega))).1) (bkeeps (bstep hb5 zc.below) _ _ (hc12 0 (by first | omega | (have zz := zβ; simp only [Bool.and_eq_true, Bool.or_eq_true, Bool.true_and, Bool.not_eq_true', Bool.or_eq_false_iff, Bool.and_eq_false_iff, beq_eq_false_iff_ne, ne_eq, beq_iff_eq, decide_eq_true_eq, decide_eq_false_iff_not, bne_iff_ne, bne_eq_false_iff_eq] at zz; omega))).2.1) (bkeeps (bstep hb5 zc.below) _ _ (hc12 0 (by first | omega | (have zz := zβ; simp only [Bool.and_eq_true, Bool.or_eq_true, Bool.true_and, Bool.not_eq_true', Bool.or_eq_false_iff, Bool.and_eq_false_iff, beq_eq_false_iff_ne, ne_eq, beq_iff_eq, decide_eq_true_eq, decide_eq_false_iff_not, bne_iff_ne, bne_eq_false_iff_eq] at zz; omega))).2.2) ⟨_, rfl, Below.refl _ _, optDef zβ rfl⟩
   refine ⟨⟨_, .no (c := ((((l.length : Nat) : Int) : Int) == (0 : Int))) (d := true) rfl (fun v w h => h), fun h w => optUndef h, fun zβ za zw zc => ?_⟩, ?_⟩
   ·exact wp_call (by kernel_rfl) rfl (hv0) (ptruth_any _) (fun v w' h => ⟨v, rfl, h.2, optDef zβ h.1⟩)
   refine ⟨⟨_, .no (c := ((((l.length : Nat) : Int) : Int) == (0 : Int))) (d := true) rfl (fun v w h => h), fun h w => optUndef h, fun zβ za zw zc => ?_⟩, ?_⟩
   ·exact wp_neq_sy (s := (sget l 0)) (t := truth) rfl ((evt za 23).trans (optVal (zc.dep 8 23 (by kernel_rfl)) rfl zβ)) ((evt za 24).trans (optVal (zc.dep 9 24 (by kernel_rfl)) rfl zβ)) ⟨_, rfl, Below.refl _ _, optDef zβ rfl⟩
   refine ⟨⟨true, .none rfl, fun h w => optUndef h, fun zβ za zw zc => ?_⟩, ?_⟩
   ·exact wp_or rfl ((evt za 19).trans (optVal (zc.dep 4 19 (by kernel_rfl)) rfl rfl)) (fun hp => ((evt za 25).trans (optVal (zc.dep 10 25 (by kernel_rfl)) rfl (bMkN zβ hp)))) ⟨_, rfl, Below.refl _ _, optDef zβ rfl⟩
   refine ⟨⟨true, .none rfl, fun h w => optUndef h, fun zβ za zw zc => ?_⟩, ?_⟩
   ·exact wp_assign rfl ((evt za 26).trans (optVal (zc.dep 11 26 (by kernel_rfl)) rfl rfl)) ⟨_, rfl, Below.refl _ _, optDef zβ rfl⟩
   exact trivial
  ·intro za w13 zh hb14 zu
   have zh := zh.cons (d := 14) (v := .bool ((((((l.length : Nat) : Int) : Int) == (0 : Int)) || (!decide ((sget l 0) = truth))))) (optVal (zu 12 14 (by kernel_rfl)) rfl rfl)
   clear zu
   refine WE.go zh ?_
   refine WE.next ?_
   refine WC.cond rfl (fun h15 => ?_) (fun h15 => ?_)
   ·have h15 : ((((l.length : Nat) : Int) : Int) = (0 : Int)) ∨ (¬ ((sget l 0) = truth)) := by simpa using h15
    refine WC.seq (WC.region (WL.asg rfl rfl rfl rfl rfl (WL.nil (WE.next (WC.ret (WE.blockRet (WE.thenRet (WE.ret1 rfl rfl ?_))))))))
    have hb16 : Below w.heap.size w w13 := (bstep hb5 hb14)
    exact ⟨_, rfl, congrArg (Value.int .i64) (by first | exact chk1 (by omega) | exact chk2 (by omega) (by assumption) | exact chk3 (by omega) (by omega) ‹_› hE (by omega) ‹_› | exact chk4 (by omega) (by omega) ‹_› hE (by omega) ‹_› ‹_› | exact chk5 (by omega) (by omega) ‹_› hE (by omega)), hb16⟩
   ·have h15 : ¬ (((((l.length : Nat) : Int) : Int) = (0 : Int)) ∨ (¬ ((sget l 0) = truth))) := by simpa using h15
    refine WC.skip (WE.blockNormal (WE.next (WC.seq (WC.region ?_))))
    refine WL.step (post := NewMapSy w13) rfl rfl rfl (fun za zC zh zk => wp_makeMap_sy rfl (zk)) ?_
    rintro _ w17 ⟨g18, rfl, hg19, ho20, hb21, hz22⟩
    have hl23 : g2 < g18 := by have z1 := hB4.lt; have z2 := (hb14).size; omega
    have hb24 : Below w.heap.size w w13 := (bstep hb5 hb14)
    have hl25 : w.heap.size ≤ g18 := by have z2 := (hb24).size; omega
    refine WL.asg rfl rfl rfl rfl rfl (WL.nil (WE.next (WC.seq (WC.seq (WC.region ?_)))))
    refine WL.val _ rfl rfl rfl (fun za zC zh zk => fld_24_0 rfl (zh.ev rfl) zk) ?_
    have hb27 : Below w1.heap.size w1 w17 := (bstep hb14 hb21)
    have hB26 := hB4.below hb27
    refine WL.val _ rfl rfl rfl (fun za zC zh zk => ld_22 rfl (zh.ev rfl) ((hB26.cell 0).trans rfl) zk) ?_
    refine WL.val (.slice ((slA a 1 3 c)) ((l.length - 1)) ((c - 1))) rfl rfl rfl (fun za zC zh zk => slo_22 (k := 1) rfl (zh.ev rfl) (zh.ev rfl) (by omega) (by omega) zk) ?_
    refine WL.val (.int .i64 ((((l.length - 1) : Nat) : Int))) rfl rfl rfl (fun za zC zh zk => len_22 rfl (zh.ev rfl) zk) ?_
    refine WL.mv rfl rfl rfl rfl rfl (WL.nil (WE.next (WC.block ?_)))
    refine WC.loop (X := Nat) (fun k => l.length - k) (fun k => [(0, .agg #[.slice a l.length c]), (1, .pointer (some ⟨g2, 0, none⟩)), (3, .map ((some g18))), (9, .bool ((decide ((96 : Int) < (((l.length : Nat) : Int) : Int))))), (14, .bool ((((((l.length : Nat) : Int) : Int) == (0 : Int)) || (!decide ((sget l 0) = truth))))), (30, .slice ((slA a 1 3 c)) ((l.length - 1)) ((c - 1))), (31, .int .i64 ((((l.length - 1) : Nat) : Int))), (32, .int .i64 (((k : Nat) : Int)))]) (fun k w28 => k ≤ l.length - 1 ∧ metErr [] (l.drop 1) = metErr ((l.drop 1).take k) ((l.drop 1).drop k) ∧ Below w.heap.size w w28 ∧ Blk w28 g2 24 #[.slice a l.length c] ∧ MapSy w28 g18 ((l.drop 1).take k)) 0 ⟨rfl, rfl, rfl, rfl, rfl, rfl, rfl, rfl, trivial⟩ ?_ ?_
    ·have hb29 : Below w.heap.size w w17 := (bstep hb5 hb27)
     exact ⟨Nat.zero_le _, rfl, hb29, hB26, (by simpa using ho20)⟩
    ·rintro k w28 ⟨hk, hE, hb30, hB31, ho32⟩
     refine WC.seq (WC.region ?_)
     refine WL.val (.bool ((decide ((((k : Nat) : Int) : Int) < ((((l.length - 1) : Nat) : Int) : Int))))) rfl rfl rfl (fun za zC zh zk => lss_3 rfl (zh.ev rfl) (zh.ev rfl) zk) ?_
     refine WL.nil (WE.next (WC.seq ?_))
     refine WC.cond rfl (fun h33 => ?_) (fun h33 => ?_)
     ·have h33 : (((k : Nat) : Int) : Int) < ((((l.length - 1) : Nat) : Int) : Int) := by simpa using h33
      refine WC.skip (WE.next (WC.seq (WC.block (WC.seq (WC.region (WL.mv rfl rfl rfl rfl rfl ?_))))))
      obtain ⟨b34, o35, ha36, hc37⟩ := IsSys.open (IsRow.drop hl (by omega))
      refine WL.val _ rfl rfl rfl (fun za zC zh zk => ix_22 (k := k) rfl (zh.ev rfl) (ha36 k (by first | omega | (simp; omega))) (zh.ev rfl) (by first | omega | (simp; omega)) zk) ?_
      refine WL.val _ rfl rfl rfl (fun za zC zh zk => ld_66 rfl (zh.ev rfl) (bkeeps hb30 _ _ (hc37 k (by first | omega | (simp; omega))).1) (bkeeps hb30 _ _ (hc37 k (by first | omega | (simp; omega))).2.1) (bkeeps hb30 _ _ (hc37 k (by first | omega | (simp; omega))).2.2) zk) ?_
      refine WL.step (post := NewBlk w28 66 #[.string (⟨#[]⟩), .int .i64 0, .bool false]) rfl rfl rfl (fun za zC zh zk => alloc_66 rfl (zk _ _ (newBlk _ _ _))) ?_
      rintro _ w38 ⟨g39, rfl, hg40, hB41, hb42, hz43⟩
      have hl44 : g2 < g39 := by have z1 := hB31.lt; omega
      have hl45 : g18 < g39 := by have z1 := ho32.lt; omega
      have hl46 : w.heap.size ≤ g39 := by have z2 := (hb30).size; omega
      refine WL.asg rfl rfl rfl rfl rfl ?_
      refine WL.step (post := fun _ w' => Upd g39 w38 w' ∧ Blk w' g39 66 #[.string ((sget ((l.drop 1)) k).name), .int .i64 ((sget ((l.drop 1)) k).ar), .bool ((sget ((l.drop 1)) k).pred)]) rfl rfl rfl (fun za zC zh zk => st_66 rfl (zh.ev rfl) (zh.ev rfl) rfl rfl rfl hB41 (by first | decide | simp) (fun v => zk v _ ⟨((Upd.at_ _ _ _ _).trans (Upd.at_ _ _ _ _)).trans (Upd.at_ _ _ _ _), ((hB41.set_ 0 _).set_ 1 _).set_ 2 _⟩)) ?_
      rintro v50 w47 ⟨hu48, hB49⟩
      have hb51 : Below w.heap.size w w38 := (bstep hb30 hb42)
      have hb52 := upd_below hb51 hu48 (by omega)
      have hB53 := hB31.below hb42
      have hB54 := upd_blk hB53 hu48 (by omega)
      have ho55 := ho32.below hb42
      have ho56 := ho55.upd hu48 (by omega)
      refine WL.nil (WE.next (WC.seq (WC.seq (WC.region ?_))))
      refine WL.val _ rfl rfl rfl (fun za zC zh zk => ld_66 rfl (zh.ev rfl) ((hB49.cell 0).trans rfl) ((hB49.cell 1).trans rfl) ((hB49.cell 2).trans rfl) zk) ?_
      refine WL.call rfl rfl rfl (fun za zh zC => wp_call (by kernel_rfl) rfl (hv1 (zh.ev rfl))) (pone_any (sget ((l.drop 1)) k) _ (IsSys.wf (IsRow.drop (k := 1) hl hc) (by simp; omega)).2) ?_
      rintro _ w57 ⟨rfl, hbc⟩
      refine WL.asg rfl rfl rfl rfl rfl (WL.nil (WE.next (WC.seq (WC.region (WL.mv rfl rfl rfl rfl rfl ?_)))))
      refine WL.val (.bool ((((sget ((l.drop 1)) k).one : Int) != (0 : Int)))) rfl rfl rfl (fun za zC zh zk => neq_27 rfl (zh.ev rfl) (zh.ev rfl) zk) ?_
      refine WL.nil (WE.next ?_)
      refine WC.cond rfl (fun h58 => ?_) (fun h58 => ?_)
      ·have h58 : ((sget ((l.drop 1)) k).one : Int) ≠ (0 : Int) := by simpa using h58
       refine WC.seq (WC.region (WL.mv rfl rfl rfl rfl rfl (WL.asg rfl rfl rfl rfl rfl (WL.nil (WE.next (WC.ret (WE.thenRet (WE.blockRet (WE.thenRet (WE.thenRet (WE.blockRet (WE.thenRet (WE.ret1 rfl rfl ?_)))))))))))))
       have hb59 : Below w.heap.size w w57 := (bstep hb52 hbc)
       exact ⟨_, rfl, congrArg (Value.int .i64) (by first | exact chk1 (by omega) | exact chk2 (by omega) (by assumption) | exact chk3 (by omega) (by omega) ‹_› hE (by omega) ‹_› | exact chk4 (by omega) (by omega) ‹_› hE (by omega) ‹_› ‹_› | exact chk5 (by omega) (by omega) ‹_› hE (by omega)), hb59⟩
      ·have h58 : ¬ (((sget ((l.drop 1)) k).one : Int) ≠ (0 : Int)) := by simpa using h58
       refine WC.skip (WE.next (WC.seq (WC.seq (WC.region (WL.mv rfl rfl rfl rfl rfl ?_)))))
       have hB60 := hB49.below hbc
       refine WL.val _ rfl rfl rfl (fun za zC zh zk => ld_66 rfl (zh.ev rfl) ((hB60.cell 0).trans rfl) ((hB60.cell 1).trans rfl) ((hB60.cell 2).trans rfl) zk) ?_
       have ho62 := ho56.below hbc
       refine WL.step (post := fun v w' => ∃ n : Int, v = .tuple #[.int .i64 n, .bool (decide ((sget ((l.drop 1)) k) ∈ ((l.drop 1).take k)))] ∧ w57 = w') rfl rfl rfl (fun za zC zh zk => wp_lookup_sy (s := (sget ((l.drop 1)) k)) rfl (zh.ev rfl) (zh.ev rfl) ho62 (fun n => zk _ _ ⟨n, rfl, rfl⟩)) ?_
       rintro _ _ ⟨n61, rfl, rfl⟩
       refine WL.mv rfl rfl rfl rfl rfl ?_
       refine WL.val (.int .i64 n61) rfl rfl rfl (fun za zC zh zk => ext2_0 rfl (zh.ev rfl) zk) ?_
       refine WL.val (.bool ((decide ((sget ((l.drop 1)) k) ∈ ((l.drop 1).take k))))) rfl rfl rfl (fun za zC zh zk => ext2_1 rfl (zh.ev rfl) zk) ?_
       refine WL.asg rfl rfl rfl rfl rfl (WL.asg rfl rfl rfl rfl rfl (WL.nil (WE.next (WC.seq (WC.region (WL.mv rfl rfl rfl rfl rfl (WL.nil (WE.next ?_))))))))
       refine WC.cond rfl (fun h63 => ?_) (fun h63 => ?_)
       ·have h63 : (sget ((l.drop 1)) k) ∈ ((l.drop 1).take k) := by simpa using h63
        refine WC.seq (WC.region (WL.asg rfl rfl rfl rfl rfl (WL.nil (WE.next (WC.ret (WE.thenRet (WE.blockRet (WE.thenRet (WE.thenRet (WE.blockRet (WE.thenRet (WE.ret1 rfl rfl ?_))))))))))))
        have hb64 : Below w.heap.size w w57 := (bstep hb52 hbc)
        exact ⟨_, rfl, congrArg (Value.int .i64) (by first | exact chk1 (by omega) | exact chk2 (by omega) (by assumption) | exact chk3 (by omega) (by omega) ‹_› hE (by omega) ‹_› | exact chk4 (by omega) (by omega) ‹_› hE (by omega) ‹_› ‹_› | exact chk5 (by omega) (by omega) ‹_› hE (by omega)), hb64⟩
       ·have h63 : ¬ ((sget ((l.drop 1)) k) ∈ ((l.drop 1).take k)) := by simpa using h63
        refine WC.skip (WE.next (WC.region (WL.mv rfl rfl rfl rfl rfl ?_)))
        refine WL.val _ rfl rfl rfl (fun za zC zh zk => ld_66 rfl (zh.ev rfl) ((hB60.cell 0).trans rfl) ((hB60.cell 1).trans rfl) ((hB60.cell 2).trans rfl) zk) ?_
        refine WL.mv rfl rfl rfl rfl rfl ?_
        refine WL.step (post := fun _ w' => MapSy w' g18 (((l.drop 1).take k) ++ [(sget ((l.drop 1)) k)]) ∧ Upd g18 w57 w') rfl rfl rfl (fun za zC zh zk => wp_mapUpdate_sy (s := (sget ((l.drop 1)) k)) rfl (zh.ev rfl) (zh.ev rfl) (zh.ev rfl) ho62 (by assumption) (fun v w' h1 h2 => zk v w' ⟨h1, h2⟩)) ?_
        rintro _ w65 ⟨ho66, hu67⟩
        have hb68 : Below w.heap.size w w57 := (bstep hb52 hbc)
        have hb69 := upd_below hb68 hu67 (by omega)
        have hB70 := hB54.below hbc
        have hB71 := upd_blk hB70 hu67 (by omega)
        have hB72 := upd_blk hB60 hu67 (by omega)
        refine WL.nil (WE.sub (K' := [(0, .agg #[.slice a l.length c]), (1, .pointer (some ⟨g2, 0, none⟩)), (3, .map ((some g18))), (4, .int .i64 (((k : Nat) : Int))), (5, .pointer (some ⟨g39, 0, none⟩)), (6, .int .i64 ((sget ((l.drop 1)) k).one)), (8, .bool ((decide ((sget ((l.drop 1)) k) ∈ ((l.drop 1).take k))))), (9, .bool ((decide ((96 : Int) < (((l.length : Nat) : Int) : Int))))), (14, .bool ((((((l.length : Nat) : Int) : Int) == (0 : Int)) || (!decide ((sget l 0) = truth))))), (30, .slice ((slA a 1 3 c)) ((l.length - 1)) ((c - 1))), (31, .int .i64 ((((l.length - 1) : Nat) : Int))), (32, .int .i64 (((k : Nat) : Int))), (33, .bool ((decide ((((k : Nat) : Int) : Int) < ((((l.length - 1) : Nat) : Int) : Int))))), (40, .bool ((((sget ((l.drop 1)) k).one : Int) != (0 : Int)))), (48, .bool ((decide ((sget ((l.drop 1)) k) ∈ ((l.drop 1).take k)))))]) ⟨rfl, rfl, rfl, rfl, rfl, rfl, rfl, rfl, rfl, rfl, rfl, rfl, rfl, rfl, rfl, trivial⟩ ?_)
        refine WE.blockNormal (WE.next (WC.region ?_))
        refine WL.val (.int .i64 ((((k + 1) : Nat) : Int))) rfl rfl rfl (fun za zC zh zk => addb_3 rfl (zh.ev rfl) (zh.ev rfl) (wrap_eq (by omega) (by omega) (by omega)) zk) ?_
        refine WL.mv rfl rfl rfl rfl rfl (WL.nil ?_)
        refine WE.round (k + 1) ⟨rfl, rfl, rfl, rfl, rfl, rfl, rfl, rfl, trivial⟩ ?_ ?_
        ·exact ⟨by omega, hE.trans (by rw [metErr_step (by simp; omega), if_neg (by simpa using h58), if_neg h63]), hb69, hB71, (take_sget (by simp; omega) ho66)⟩
        ·omega
     ·have h33 : ¬ ((((k : Nat) : Int) : Int) < ((((l.length - 1) : Nat) : Int) : Int)) := by simpa using h33
      refine WC.exit (WE.thenExit (WE.thenExit (WE.blockIs rfl (WE.next (WC.seq (WC.region (WL.asg rfl rfl rfl rfl rfl (WL.nil (WE.next (WC.ret (WE.ret1 rfl rfl ?_)))))))))))
      exact ⟨_, rfl, congrArg (Value.int .i64) (by first | exact chk1 (by omega) | exact chk2 (by omega) (by assumption) | exact chk3 (by omega) (by omega) ‹_› hE (by omega) ‹_› | exact chk4 (by omega) (by omega) ‹_› hE (by omega) ‹_› ‹_› | exact chk5 (by omega) (by omega) ‹_› hE (by omega)), hb30⟩
end Go.Proofs.Ytbohlpfndiiimaa

/- Regions in whatever order in which a row grows by append and is then given to a variable ('l = append(l, f(..))'). -/
namespace Go.Proofs.Ytbohlpfndiiimaa
open Go.RowKit Go
set_option linter.unusedVariables false
set_option linter.unusedSimpArgs false
section
variable {P : Program} {ops : Array Oper}
structure CtxH (ops : Array Oper) (chain : List Nat) (R : Nat → Value → World → Prop) (G : List (Option Value) → World → Prop) (n : Fr) (K Ke : Known) (i : Nat) (o : Oper) (a : Act) (w : World) (vs : List (Option Value)) : Prop where
  now : G vs w
  kn : Kn n K a
  dep : ∀ j d, depB ops o j d = true → chain.contains j = false → R j (a.tmps.getD d undef) w
  len : vs.length = chain.length
  link : ∀ (p c d : Nat), chain[p]? = some c → depB ops o c d = true → vs[p]? = some (some (a.tmps.getD d undef))
  done : ∀ (p c : Nat), chain[p]? = some c → o.after.any (fun e => e.on == c && Region.binds .any e) = true → ∃ v, vs[p]? = some (some v)
  most : ∀ (p c : Nat), chain[p]? = some c → afterB ops c i = true → vs[p]? = some none
  mostT : ∀ (p c : Nat), chain[p]? = some c → (ancL ops c).contains i = true → vs[p]? = some none
  old : ∀ d v, look Ke d = some v → (∀ c, (ops[c]?).bind (·.dst) = some d → (ancL ops c).contains i = true) → a.tmps.getD d undef = v
def SoundH (P : Program) (ops : Array Oper) (Q : Exit → Act → World → Prop) (chain : List Nat) (R : Nat → Value → World → Prop) (Le : World → World → Prop) (G : List (Option Value) → World → Prop) (n : Fr) (K Ke : Known) (i : Nat) (o : Oper) : Prop :=
  (chain.contains i = false ∧ ∃ β, GuardIs R o β ∧ (∀ g b, o.guard = some (g, b) → chain.contains g = false) ∧ (β = false → ∀ w, R i undef w) ∧
    (β = true → ∀ (a : Act) (w : World) (vs : List (Option Value)), CtxH ops chain R G n K Ke i o a w vs →
      o.wpIn (fen n.r) 0 P a w (fun a' w' => ∃ v, a' = Act.put a o.dst v ∧ Le w w' ∧ G vs w' ∧ R i v w') Q)) ∨
  (∃ p, chain[p]? = some i ∧ o.guard = none ∧ ∀ (a : Act) (w : World) (vs : List (Option Value)), CtxH ops chain R G n K Ke i o a w vs → vs[p]? = some none →
      o.wpIn (fen n.r) 0 P a w (fun a' w' => ∃ v, a' = Act.put a o.dst v ∧ Le w w' ∧ G (vs.set p (some v)) w') Q)
def SoundFromH (P : Program) (ops : Array Oper) (Q : Exit → Act → World → Prop) (chain : List Nat) (R : Nat → Value → World → Prop) (Le : World → World → Prop) (G : List (Option Value) → World → Prop) (n : Fr) (K Ke : Known) : Nat → List Oper → Prop
  | _, [] => True
  | k, o :: r => SoundH P ops Q chain R Le G n K Ke k o ∧ SoundFromH P ops Q chain R Le G n K Ke (k + 1) r
theorem SoundFromH.at_ {Q : Exit → Act → World → Prop} {chain : List Nat} {R : Nat → Value → World → Prop} {Le : World → World → Prop} {G : List (Option Value) → World → Prop} {n : Fr} {K Ke : Known} : ∀ {l : List Oper} {k : Nat}, SoundFromH P ops Q chain R Le G n K Ke k l → ∀ i o, l[i]? = some o → SoundH P ops Q chain R Le G n K Ke (k + i) o
  | [], _, _, i, o, h => by simp at h
  | x :: r, k, h, 0, o, ho => by simp at ho; subst ho; exact h.1
  | x :: r, k, h, i + 1, o, ho => by
    have := h.2.at_ i o (by simpa using ho)
    rwa [show k + 1 + i = k + (i + 1) by omega] at this
structure AtH (ops : Array Oper) (chain : List Nat) (R : Nat → Value → World → Prop) (G : List (Option Value) → World → Prop) (n : Fr) (K Ke : Known) (listed : Array Bool) (a : Act) (vs : List (Option Value)) (w : World) : Prop where
  size : listed.size = ops.size
  kn : Kn n K a
  plain : ∀ i d, chain.contains i = false → listed.getD i false = true → (ops[i]?).bind (·.dst) = some d → R i (a.tmps.getD d undef) w
  link : ∀ p c : Nat, chain[p]? = some c → (listed.getD c false = true ↔ ∃ v, vs[p]? = some (some v))
  vals : ∀ (p c d : Nat), chain[p]? = some c → listed.getD c false = true → (ops[c]?).bind (·.dst) = some d → vs[p]? = some (some (a.tmps.getD d undef))
  len : vs.length = chain.length
  closed : ∀ i o, ops[i]? = some o → listed.getD i false = true → ∀ e ∈ o.after, Region.binds .any e = true → listed.getD e.on false = true
  now : G vs w
  old : ∀ d v, look Ke d = some v → (∀ c, (ops[c]?).bind (·.dst) = some d → listed.getD c false = false) → a.tmps.getD d undef = v
end
section
variable {P : Program} {ops : Array Oper} {S : Nat → Prop}
/-- That slot 'd' is not written yet. -/
def earlyB (ops : Array Oper) (i d : Nat) : Bool := (List.range ops.size).all fun c => !((ops[c]?).bind (·.dst) == some d) || (ancL ops c).contains i
theorem earlyB_of {ops : Array Oper} {i d : Nat} (h : earlyB ops i d = true) : ∀ c, (ops[c]?).bind (·.dst) = some d → (ancL ops c).contains i = true := fun c hc => by
  have hlt : c < ops.size := by
    rcases Nat.lt_or_ge c ops.size with h | h
    · exact h
    · simp [Array.getElem?_eq_none h] at hc
  have := List.all_eq_true.1 h c (List.mem_range.2 hlt)
  simpa [hc] using this
structure CtxA3 (ops : Array Oper) (l : List (Bool × SpS S)) (chain : List Nat) (first : Nat) (n : Fr) (K Ke : Known) (w0 : World) (i : Nat) (o : Oper) (a : Act) (w : World) : Prop extends CtxA ops l chain first n K w0 i o a w where
  old : ∀ d v, look Ke d = some v → earlyB ops i d = true → a.tmps.getD d undef = v
def Tail3 (P : Program) (ops : Array Oper) (Q : Exit → Act → World → Prop) (l : List (Bool × SpS S)) (n : Fr) (K Ke : Known) (w0 : World) (p q N : Nat) (GA : Option Addr → Nat → World → Prop) : Nat → List Oper → Prop
  | _, [] => True
  | i, o :: r => (([p, q].contains i = false ∧ ∃ β, GuardIs (optS l) o β ∧ (∀ g b, o.guard = some (g, b) → [p, q].contains g = false) ∧ (β = false → ∀ w, optS l i undef w) ∧
      (β = true → ∀ a w, CtxA3 ops l [p, q] p n K Ke w0 i o a w → o.wp P a w (fun a' w' => ∃ v, a' = Act.put a o.dst v ∧ Below w.heap.size w w' ∧ optS l i v w') Q)) ∨
    (i = p ∧ o.guard = none ∧ ∀ a w, CtxB ops l [p, q] n K w0 o a w → o.wp P a w (fun a' w' => ∃ ra rc, a' = Act.put a o.dst (.slice ra N rc) ∧ GA ra rc w' ∧ Chg S w w') Q) ∨
    (i = q ∧ o.guard = none ∧ ∃ d, depB ops o p d = true ∧ o.op = .assign (.tmp d))) ∧ Tail3 P ops Q l n K Ke w0 p q N GA (i + 1) r
def G3 (S : Nat → Prop) (w0 : World) (N : Nat) (GA : Option Addr → Nat → World → Prop) : List (Option Value) → World → Prop
  | [none, none], w => Below w0.heap.size w0 w
  | [some v, none], w => ∃ ra rc, v = .slice ra N rc ∧ GA ra rc w ∧ Chg S w0 w
  | [some v, some u], w => ∃ ra rc, v = .slice ra N rc ∧ u = .slice ra N rc ∧ GA ra rc w ∧ Chg S w0 w
  | _, _ => False
theorem G3.chg {w0 w : World} {N : Nat} {GA : Option Addr → Nat → World → Prop} : ∀ {vs : List (Option Value)}, G3 S w0 N GA vs w → Chg S w0 w
  | [none, none], h => .ofBelow h
  | [some _, none], h => by obtain ⟨_, _, _, _, h⟩ := h; exact h
  | [some _, some _], h => by obtain ⟨_, _, _, _, _, h⟩ := h; exact h
  | [none, some _], h => h.elim
  | [], h => h.elim
  | [x], h => by cases x <;> exact h.elim
  | _ :: _ :: _ :: _, h => by simp [G3] at h
theorem Tail3.gen {Q : Exit → Act → World → Prop} {l : List (Bool × SpS S)} {n : Fr} {K Ke : Known} {w0 : World} {p q N : Nat} {GA : Option Addr → Nat → World → Prop} (hpq : p ≠ q) (hGA : ∀ ra rc w w', Below w.heap.size w w' → GA ra rc w → GA ra rc w') : ∀ {lo : List Oper} {i : Nat}, Tail3 P ops Q l n K Ke w0 p q N GA i lo →
    SoundFromH P ops Q [p, q] (optS l) (Chg S) (G3 S w0 N GA) n K Ke i lo
  | [], _, _ => trivial
  | o :: r, i, ⟨h, hr⟩ => by
    refine ⟨?_, hr.gen hpq hGA⟩
    rcases h with ⟨hi, β, h1, h2, h3, h4⟩ | ⟨rfl, hg, h4⟩ | ⟨rfl, hg, d, hd, ho⟩
    · refine .inl ⟨hi, β, h1, h2, h3, fun hβ a w vs C => ?_⟩
      refine Oper.wpIn_mono ?_ (wpIn_of (h4 hβ a w ⟨⟨C.now.chg, C.kn, C.dep, fun he => ?_⟩, fun d v hd hb => C.old d v hd (earlyB_of hb)⟩) (by rintro a' w' ⟨v, rfl, _⟩; exact put_defers _ _ _))
      · rintro a' w' ⟨v, rfl, hb, hR⟩
        refine ⟨v, rfl, .ofBelow hb, ?_, hR⟩
        match vs, C.len, C.now with
        | [none, none], _, h => exact bstep h hb
        | [some _, none], _, ⟨ra, rc, e, h, hc⟩ => exact ⟨ra, rc, e, hGA _ _ _ _ hb h, hc.trans (.ofBelow hb)⟩
        | [some _, some _], _, ⟨ra, rc, e, e2, h, hc⟩ => exact ⟨ra, rc, e, e2, hGA _ _ _ _ hb h, hc.trans (.ofBelow hb)⟩
        | [none, some _], _, h => exact h.elim
      · have := C.mostT 0 p rfl he
        match vs, C.len, C.now, this with
        | [none, none], _, h, _ => exact h
        | [none, some _], _, h, _ => exact h.elim
    · refine .inr ⟨0, rfl, hg, fun a w vs C hn => ?_⟩
      match vs, C.len, C.now, hn, C with
      | [none, none], _, h, _, C =>
        refine Oper.wpIn_mono ?_ (wpIn_of (h4 a w ⟨h, C.kn, C.dep⟩) (by rintro a' w' ⟨_, _, rfl, _⟩; exact put_defers _ _ _))
        rintro a' w' ⟨ra, rc, rfl, hG, hc⟩
        exact ⟨_, rfl, hc, ra, rc, rfl, hG, (Chg.ofBelow h).trans hc⟩
      | [none, some _], _, h, _, _ => exact h.elim
    · refine .inr ⟨1, rfl, hg, fun a w vs C hn => ?_⟩
      have hl := C.link 0 p d rfl hd
      match vs, C.len, C.now, hn, hl, C with
      | [some v, none], _, ⟨ra, rc, e, h, hc⟩, _, hl, C =>
        have hv : v = a.tmps.getD d undef := by simpa using hl
        refine Oper.wpIn_mono ?_ (wpIn_of (K := fun a' w' => a' = Act.put a o.dst (.slice ra N rc) ∧ w' = w) (wp_assign ho (show a.tmps.getD d undef = .slice ra N rc from (hv ▸ e)) ⟨rfl, rfl⟩) (by rintro a' w' ⟨rfl, _⟩; exact put_defers _ _ _))
        rintro a' w' ⟨rfl, rfl⟩
        exact ⟨_, rfl, .refl _ _, ra, rc, e, rfl, h, hc⟩
end
end Go.Proofs.Ytbohlpfndiiimaa

namespace Go.Proofs.Ytbohlpfndiiimaa
open Go.RowKit Go
set_option linter.unusedVariables false
set_option linter.unusedSimpArgs false
section
variable {P : Program} {ops : Array Oper}
structure CtxQ (ops : Array Oper) (chain : List Nat) (R : Nat → Value → World → Prop) (G : List (Option Value) → World → Prop) (n : Fr) (K Ke : Known) (i : Nat) (o : Oper) (a : Act) (w : World) (vs : List (Option Value)) : Prop extends CtxH ops chain R G n K Ke i o a w vs where
 anc : ∀ (p c : Nat), chain[p]? = some c → o.after.any (fun e => Region.binds .any e && (ancL ops e.on).contains c) = true → ∃ v, vs[p]? = some (some v)
def SoundQ (P : Program) (ops : Array Oper) (Q : Exit → Act → World → Prop) (chain : List Nat) (R : Nat → Value → World → Prop) (Le : World → World → Prop) (G : List (Option Value) → World → Prop) (n : Fr) (K Ke : Known) (i : Nat) (o : Oper) : Prop :=
 (chain.contains i = false ∧ ∃ β, GuardIs R o β ∧ (∀ g b, o.guard = some (g, b) → chain.contains g = false) ∧ (β = false → ∀ w, R i undef w) ∧
  (β = true → ∀ (a : Act) (w : World) (vs : List (Option Value)), CtxQ ops chain R G n K Ke i o a w vs →
   o.wpIn (fen n.r) 0 P a w (fun a' w' => ∃ v, a' = Act.put a o.dst v ∧ Le w w' ∧ G vs w' ∧ R i v w') Q)) ∨
 (∃ p, chain[p]? = some i ∧ ∃ β, GuardIs R o β ∧ (∀ g b, o.guard = some (g, b) → chain.contains g = false) ∧
  (β = false → ∀ (a : Act) (w : World) (vs : List (Option Value)), CtxQ ops chain R G n K Ke i o a w vs → vs[p]? = some none → G (vs.set p (some undef)) w) ∧
  (β = true → ∀ (a : Act) (w : World) (vs : List (Option Value)), CtxQ ops chain R G n K Ke i o a w vs → vs[p]? = some none →
   o.wpIn (fen n.r) 0 P a w (fun a' w' => ∃ v, a' = Act.put a o.dst v ∧ Le w w' ∧ G (vs.set p (some v)) w') Q))
def SoundFromQ (P : Program) (ops : Array Oper) (Q : Exit → Act → World → Prop) (chain : List Nat) (R : Nat → Value → World → Prop) (Le : World → World → Prop) (G : List (Option Value) → World → Prop) (n : Fr) (K Ke : Known) : Nat → List Oper → Prop
 | _, [] => True
 | k, o :: r => SoundQ P ops Q chain R Le G n K Ke k o ∧ SoundFromQ P ops Q chain R Le G n K Ke (k + 1) r
theorem SoundFromQ.at_ {Q : Exit → Act → World → Prop} {chain : List Nat} {R : Nat → Value → World → Prop} {Le : World → World → Prop} {G : List (Option Value) → World → Prop} {n : Fr} {K Ke : Known} : ∀ {l : List Oper} {k : Nat}, SoundFromQ P ops Q chain R Le G n K Ke k l → ∀ i o, l[i]? = some o → SoundQ P ops Q chain R Le G n K Ke (k + i) o
 | [], _, _, i, o, h => by simp at h
 | x :: r, k, h, 0, o, ho => by simp at ho; subst ho; exact h.1
 | x :: r, k, h, i + 1, o, ho => by
  have := h.2.at_ i o (by simpa using ho)
  rwa [show k + 1 + i = k + (i + 1) by omega] at this
theorem wp_any_genQ {Q : Exit → Act → World → Prop} {n : Fr} {K Ke : Known} (chain : List Nat) (R : Nat → Value → World → Prop) (Le : World → World → Prop) (G : List (Option Value) → World → Prop)
  (hB : opsB ops n.n = true) (hnd : chain.Nodup) (hin : (chain.all fun c => Nat.blt c ops.size) = true) (hclear : clearB ops K = true)
  (hR : ∀ i v w w', R i v w → Le w w' → R i v w')
  (h : SoundFromQ P ops Q chain R Le G n K Ke 0 ops.toList)
  (hQ : ∀ (a : Act) (w : World) (vs : List (Option Value)), Kn n K a → vs.length = chain.length → (∀ p, p < chain.length → ∃ v, vs[p]? = some (some v)) → G vs w → (∀ i d, (ops[i]?).bind (·.dst) = some d → chain.contains i = false → R i (a.tmps.getD d undef) w) → (∀ (p c d : Nat), chain[p]? = some c → (ops[c]?).bind (·.dst) = some d → vs[p]? = some (some (a.tmps.getD d undef))) → Q .normal a w) :
  ∀ (a0 : Act) (w0 : World), Kn n K a0 → Kn n Ke a0 → G (List.replicate chain.length none) w0 → wpAnyIn (fen n.r) 0 P .any ops Q ops.size (Array.replicate ops.size false) a0 w0 := by
 have main : ∀ (fuel : Nat) (listed : Array Bool) (a : Act) (vs : List (Option Value)) (w : World), listed.toList.count false ≤ fuel → AtH ops chain R G n K Ke listed a vs w →
   wpAnyIn (fen n.r) 0 P .any ops Q fuel listed a w := by
  intro fuel
  have done : ∀ (listed : Array Bool) (a : Act) (vs : List (Option Value)) (w : World), Region.ready .any ops listed = [] → AtH ops chain R G n K Ke listed a vs w → Q .normal a w := by
   intro listed a vs w hr H
   have all : ∀ i, i < ops.size → listed.getD i false = true := fun i hi => by
    have := ready_nil hB H.size hr i hi
    have hs := H.size
    simpa [Array.getD, show i < listed.size by omega] using this
   have hin' : ∀ p c, chain[p]? = some c → c < ops.size := fun p c hc => by
    have := List.all_eq_true.1 hin _ (List.mem_of_getElem? hc)
    simpa [Nat.blt_eq] using this
   have lt_of : ∀ i d, (ops[i]?).bind (·.dst) = some d → i < ops.size := fun i d hd => by
    rcases Nat.lt_or_ge i ops.size with h | h
    ·exact h
    ·simp [Array.getElem?_eq_none h] at hd
   exact hQ a w vs H.kn H.len (fun p hp => (H.link p chain[p] (by simp [hp])).1 (all _ (hin' p _ (by simp [hp])))) H.now (fun i d hd hc => H.plain i d hc (all i (lt_of i d hd)) hd) (fun p c d hc hd => H.vals p c d hc (all c (hin' p c hc)) hd)
  induction fuel with
  | zero =>
   intro listed a vs w hc H
   have hr : Region.ready .any ops listed = [] := by
    cases hr : Region.ready .any ops listed with
    | nil => rfl
    | cons i r =>
     have := (mem_ready (md := .any) (ops := ops) (j := i) (listed := listed)).1 (by rw [hr]; simp)
     rw [count_zero hc i] at this
     simp at this
   exact ⟨hr, done listed a vs w hr H⟩
  | succ fuel ih =>
   intro listed a vs w hc H
   refine ⟨fun hr => done listed a vs w hr H, fun i hi => ?_⟩
   obtain ⟨hun, o, ho, haf⟩ := mem_ready.1 hi
   have hilt : i < ops.size := by
    rcases Nat.lt_or_ge i ops.size with h | h
    ·exact h
    ·simp [Array.getElem?_eq_none h] at ho
   have hils : i < listed.size := by have := H.size; omega
   have hun' := getD_false_of hun
   have ok := opsB_spec hB ho
   have hs2 := h.at_ i o (by simpa using ho)
   rw [Nat.zero_add] at hs2
   have after_of : ∀ j d, depB ops o j d = true → listed.getD j false = true ∧ (ops[j]?).bind (·.dst) = some d := by
    intro j d hj
    simp only [depB, Bool.and_eq_true, Array.any_eq_true, beq_iff_eq] at hj
    obtain ⟨⟨k, hk, h1, h2⟩, h3⟩ := hj
    exact ⟨h1 ▸ haf _ (Array.getElem_mem hk) h2, h3⟩
   have ctx : CtxH ops chain R G n K Ke i o a w vs := by
    have opt : ∀ p c, chain[p]? = some c → listed.getD c false = false → vs[p]? = some none := fun p c hc hl => by
     have hp : p < vs.length := by rw [H.len]; exact (List.getElem?_eq_some_iff.1 hc).1
     rw [List.getElem?_eq_getElem hp]
     cases hx : vs[p] with
     | none => rfl
     | some v =>
      have := (H.link p c hc).2 ⟨v, by rw [List.getElem?_eq_getElem hp, hx]⟩
      rw [hl] at this; cases this
    refine ⟨H.now, H.kn, fun j d hj hc => H.plain j d hc (after_of j d hj).1 (after_of j d hj).2, H.len, fun p c d hc hj => H.vals p c d hc (after_of c d hj).1 (after_of c d hj).2, fun p c hc ha => ?_, fun p c hc ha => opt p c hc ?_, fun p c hc ha => opt p c hc ?_, fun d v hd hc => H.old d v hd fun c hcd => ?_⟩
    ·simp only [Array.any_eq_true, Bool.and_eq_true, beq_iff_eq] at ha
     obtain ⟨k, hk, h1, h2⟩ := ha
     exact (H.link p c hc).1 (h1 ▸ haf _ (Array.getElem_mem hk) h2)
    ·cases hl : listed.getD c false with
     | false => rfl
     | true =>
      exfalso
      unfold afterB at ha
      split at ha
      ·rename_i oc hoc
       simp only [Array.any_eq_true, Bool.and_eq_true, beq_iff_eq] at ha
       obtain ⟨k, hk, h1, h2⟩ := ha
       have := H.closed c oc hoc hl _ (Array.getElem_mem hk) h2
       rw [h1, hun'] at this
       cases this
      ·cases ha
    ·cases hl : listed.getD c false with
     | false => rfl
     | true =>
      exfalso
      have := anc_listed H.closed hl i (by simpa using ha)
      rw [hun'] at this
      cases this
    ·cases hl : listed.getD c false with
     | false => rfl
     | true =>
      exfalso
      have := anc_listed H.closed hl i (by simpa using hc c hcd)
      rw [hun'] at this
      cases this
   have ctxQ : CtxQ ops chain R G n K Ke i o a w vs := ⟨ctx, fun p c hc ha => by
    simp only [Array.any_eq_true, Bool.and_eq_true] at ha
    obtain ⟨k, hk, h1, h2⟩ := ha
    exact (H.link p c hc).1 (anc_listed H.closed (haf _ (Array.getElem_mem hk) h1) c (by simpa using h2))⟩
   unfold wpOpIn
   simp only [ho]
   -- what is behind a step
   have step : ∀ (v : Value) (vs' : List (Option Value)) (w' : World), (∀ j u, R j u w → R j u w') → G vs' w' → (∀ d, o.dst = some d → chain.contains i = false → R i v w') →
     ((chain.contains i = false ∧ vs' = vs) ∨ (∃ p, chain[p]? = some i ∧ vs' = vs.set p (some v))) →
     wpAnyIn (fen n.r) 0 P .any ops Q fuel (listed.setIfInBounds i true) (Act.put a o.dst v) w' := by
    intro v vs' w' hle hG hRi hvs
    have hc' := count_set (l := listed) hils hun hc
    have hset : ∀ j, (listed.setIfInBounds i true).getD j false = true ↔ j = i ∨ listed.getD j false = true := by
     intro j
     by_cases hj : j = i
     ·subst hj; simp [getD_set_eq hils]
     ·rw [getD_set_ne false (Ne.symm hj)]; simp [hj]
    have hother : ∀ j k, j ≠ i → (ops[j]?).bind (·.dst) = some k → (Act.put a o.dst v).tmps.getD k undef = a.tmps.getD k undef := by
     intro j k hji hjk
     refine act_put_other (fun hd => ?_)
     have hjlt : j < ops.size := by
      rcases Nat.lt_or_ge j ops.size with h | h
      ·exact h
      ·simp [Array.getElem?_eq_none h] at hjk
     exact hji (ok.own k j hd hjlt hjk).symm
    have hself : ∀ d, (ops[i]?).bind (·.dst) = some d → (Act.put a o.dst v).tmps.getD d undef = v := by
     intro d hd
     rw [ho] at hd
     simp only [Option.bind_some] at hd
     rw [hd]
     exact act_put_self (by rw [H.kn.size]; exact ok.lt d hd)
    refine ih _ _ vs' w' hc' ⟨by simpa using H.size, H.kn.put_clear (fun k hk => clearB_look hclear (mem_dsts ho hk)) v, fun j d hjc hj hjd => ?_, fun p c hpc => ?_, fun p c d hpc hp hcd => ?_, ?_, fun j oj hoj hj e he hb => ?_, hG, fun d u hd hc => ?_⟩
    ·by_cases hji : j = i
     ·subst hji
      rw [hself d hjd]
      rw [ho] at hjd
      exact hRi d hjd hjc
     ·rw [hother j d hji hjd]
      exact hle _ _ (H.plain j d hjc (((hset j).1 hj).resolve_left hji) hjd)
    ·rw [hset]
     rcases hvs with ⟨hci, rfl⟩ | ⟨q, hq, rfl⟩
     ·have : c ≠ i := by
       rintro rfl
       have := List.mem_of_getElem? hpc
       simp [this] at hci
      exact ⟨fun h => (H.link p c hpc).1 (h.resolve_left this), fun h => .inr ((H.link p c hpc).2 h)⟩
     ·have hpl : q < vs.length := by rw [H.len]; exact (List.getElem?_eq_some_iff.1 hq).1
      by_cases hpq : p = q
      ·subst hpq
       rw [hq] at hpc
       simp only [Option.some.injEq] at hpc
       subst hpc
       exact ⟨fun _ => ⟨v, by rw [List.getElem?_set_self hpl]⟩, fun _ => .inl rfl⟩
      ·have hci : c ≠ i := by
        rintro rfl
        exact hpq ((List.getElem?_inj (List.getElem?_eq_some_iff.1 hpc).1 hnd).1 (hpc.trans hq.symm))
       rw [List.getElem?_set_ne (Ne.symm hpq)]
       exact ⟨fun h => (H.link p c hpc).1 (h.resolve_left hci), fun h => .inr ((H.link p c hpc).2 h)⟩
    ·rcases hvs with ⟨hci, rfl⟩ | ⟨q, hq, rfl⟩
     ·have hne : c ≠ i := by
       rintro rfl
       have := List.mem_of_getElem? hpc
       simp [this] at hci
      rw [hother c d hne hcd]
      exact H.vals p c d hpc (((hset c).1 hp).resolve_left hne) hcd
     ·have hpl : q < vs.length := by rw [H.len]; exact (List.getElem?_eq_some_iff.1 hq).1
      by_cases hpq : p = q
      ·subst hpq
       rw [hq] at hpc
       simp only [Option.some.injEq] at hpc
       subst hpc
       rw [hself d hcd, List.getElem?_set_self hpl]
      ·have hne : c ≠ i := by
        rintro rfl
        exact hpq ((List.getElem?_inj (List.getElem?_eq_some_iff.1 hpc).1 hnd).1 (hpc.trans hq.symm))
       rw [hother c d hne hcd, List.getElem?_set_ne (Ne.symm hpq)]
       exact H.vals p c d hpc (((hset c).1 hp).resolve_left hne) hcd
    ·rcases hvs with ⟨hci, rfl⟩ | ⟨q, hq, rfl⟩
     ·exact H.len
     ·rw [List.length_set]; exact H.len
    ·rw [hset]
     by_cases hji : j = i
     ·subst hji
      rw [ho] at hoj
      simp only [Option.some.injEq] at hoj
      subst hoj
      exact .inr (haf e he hb)
     ·exact .inr (H.closed j oj hoj (((hset j).1 hj).resolve_left hji) e he hb)
    ·have hne : o.dst ≠ some d := fun e => by
      have := hc i (by rw [ho]; exact e)
      rw [(hset i).2 (.inl rfl)] at this
      cases this
     rw [act_put_other hne]
     refine H.old d u hd fun c hcd => ?_
     cases hl : listed.getD c false with
     | false => rfl
     | true => have := hc c hcd; rw [(hset c).2 (.inr hl)] at this; cases this
   have known : ∀ {β : Bool}, GuardIs R o β → (∀ g b, o.guard = some (g, b) → chain.contains g = false) → Region.wanted o (yielded ops a.tmps) = β := by
    intro β hg hgc
    have known : ∀ g c d b, o.guard = some (g, b) → (∀ v w, R g v w → (d = true → v = .bool c) ∧ (d = false → v = undef)) → yielded ops a.tmps g = if d then some c else none := by
     intro g c dd b hgb hv
     obtain ⟨⟨e, he, h1, h2⟩, d, hd⟩ := ok.guard g b hgb
     have hv := hv (a.tmps.getD d undef) w (H.plain g d (hgc g b hgb) (h1 ▸ haf e he h2) hd)
     have hdlt : d < a.tmps.size := by
      obtain ⟨og, hog, hgd⟩ := Option.bind_eq_some_iff.1 hd
      rw [H.kn.size]
      exact (opsB_spec hB hog).lt d hgd
     unfold yielded
     rw [hd]
     simp only [Array.getD_eq_getD_getElem?, Array.getElem?_eq_getElem hdlt, Option.getD_some] at hv
     cases dd with
     | true => simp [hdlt, hv.1 rfl]
     | false => simp [hdlt, hv.2 rfl, undef]
    cases hg with
    | none h => unfold Region.wanted; rw [h]
    | @yes g c d h hv => have := known _ _ _ _ h hv; unfold Region.wanted; rw [h]; simp only [this]; cases d <;> simp
    | @no g c d h hv => have := known _ _ _ _ h hv; unfold Region.wanted; rw [h]; simp only [this]; cases d <;> cases c <;> simp
   rcases hs2 with ⟨hci, β, hg, hgc, hs1, hs2⟩ | ⟨p, hp, β, hg, hgc, hs1, hs2⟩
   ·have hwant := known hg hgc
    cases hβ : β with
    | false =>
     rw [hβ] at hwant
     simp only [hwant, Bool.false_eq_true, if_false]
     refine ⟨fun f _ => fen_fn _ f, ?_⟩
     exact step undef vs w (fun _ _ h => h) H.now (fun _ _ _ => hs1 hβ w) (.inl ⟨hci, rfl⟩)
    | true =>
     rw [hβ] at hwant
     simp only [hwant, if_true]
     refine Oper.wpIn_mono ?_ (hs2 hβ a w vs ctxQ)
     rintro a' w' ⟨v, rfl, hle, hG, hRi⟩
     exact step v vs w' (fun j u hj => hR j u _ _ hj hle) hG (fun _ _ _ => hRi) (.inl ⟨hci, rfl⟩)
   ·have hwant := known hg hgc
    have hnone : vs[p]? = some none := by
     have hp' : p < vs.length := by rw [H.len]; exact (List.getElem?_eq_some_iff.1 hp).1
     rw [List.getElem?_eq_getElem hp']
     cases hx : vs[p] with
     | none => rfl
     | some v =>
      have := (H.link p i hp).2 ⟨v, by rw [List.getElem?_eq_getElem hp', hx]⟩
      rw [hun'] at this; cases this
    have hcc : chain.contains i = true := by
     have := List.mem_of_getElem? hp
     simpa using this
    cases hβ : β with
    | false =>
     rw [hβ] at hwant
     simp only [hwant, Bool.false_eq_true, if_false]
     refine ⟨fun f _ => fen_fn _ f, ?_⟩
     exact step undef (vs.set p (some undef)) w (fun _ _ h => h) (hs1 hβ a w vs ctxQ hnone) (fun _ _ h => by rw [hcc] at h; cases h) (.inr ⟨p, hp, rfl⟩)
    | true =>
     rw [hβ] at hwant
     simp only [hwant, if_true]
     refine Oper.wpIn_mono ?_ (hs2 hβ a w vs ctxQ hnone)
     rintro a' w' ⟨v, rfl, hle, hG⟩
     exact step v (vs.set p (some v)) w' (fun j u hj => hR j u _ _ hj hle) hG (fun _ _ h => by rw [hcc] at h; cases h) (.inr ⟨p, hp, rfl⟩)
 intro a0 w0 hk0 hke h0
 have nothing' : ∀ i, (Array.replicate ops.size false).getD i false = false := fun i => by
  by_cases h : i < ops.size <;> simp [Array.getD, h]
 refine main _ _ _ (List.replicate chain.length none) _ (by simp) ⟨by simp, hk0, fun i d _ hi => ?_, fun p c hpc => ?_, fun p c d _ hp => ?_, by simp, fun i o _ hi => ?_, h0, fun d v hd _ => hke.knows d v hd⟩
 ·rw [nothing'] at hi; cases hi
 ·rw [nothing']
  refine ⟨fun h => (by cases h), fun ⟨v, hv⟩ => ?_⟩
  have hp := (List.getElem?_eq_some_iff.1 hpc).1
  simp [hp] at hv
 ·rw [nothing'] at hp; cases hp
 ·rw [nothing'] at hi; cases hi
theorem WC.genQ {id : Nat} {dr : Bool} {Q : Exit → Act → World → Prop} {n : Fr} {K : Known} {w : World} (chain : List Nat) (R : Nat → Value → World → Prop) (Le : World → World → Prop) (G : List (Option Value) → World → Prop) (K0 : Known)
  (hs : subK K0 K) (hclear : clearB ops K0 = true) (hm : P.follows .mixedOrders = true) (hB : opsB ops n.n = true) (hnd : chain.Nodup) (hin : (chain.all fun c => Nat.blt c ops.size) = true)
  (hR : ∀ i v w w', R i v w → Le w w' → R i v w') (h0 : G (List.replicate chain.length none) (bif dr then w.drew else w))
  (h : SoundFromQ P ops Q chain R Le G n K0 K 0 ops.toList)
  (hQ : ∀ (a : Act) (w : World) (vs : List (Option Value)), Kn n K0 a → vs.length = chain.length → (∀ p, p < chain.length → ∃ v, vs[p]? = some (some v)) → G vs w → (∀ i d, (ops[i]?).bind (·.dst) = some d → chain.contains i = false → R i (a.tmps.getD d undef) w) → (∀ (p c d : Nat), chain[p]? = some c → (ops[c]?).bind (·.dst) = some d → vs[p]? = some (some (a.tmps.getD d undef))) → Q .normal a w) :
  WC P n K w (.region id ops dr) Q := by
 intro a ha
 have main := wp_any_genQ (Ke := K) chain R Le G hB hnd hin hclear hR h hQ a
 cases dr with
 | true => exact wpIn_region_any hm (main _ (ha.sub hs) ha h0)
 | false => exact any_start hB (main _ (ha.sub hs) ha h0)
/-! ### Values that are told -/
/-- Which of the operations of the chain are done, and what they have yielded. -/
def Vals (vals : List Value) (m : Nat) : List (Option Value) := vals.map some ++ List.replicate (m - vals.length) none
variable {S : Nat → Prop}
def GH (S : Nat → Prop) (w0 : World) (m : Nat) (cv : List (Option (Bool × Value))) (GV : List Value → World → Prop) (vs : List (Option Value)) (w : World) : Prop :=
 ∃ vals, vals.length ≤ m ∧ vs = Vals vals m ∧ GV vals w ∧ Chg S w0 w ∧ ∀ (q : Nat) b x, cv[q]? = some (some (b, x)) → b = true → ∀ v, vals[q]? = some v → v = x
theorem vals_some {vals : List Value} {m q : Nat} {v : Value} (h : (Vals vals m)[q]? = some (some v)) : vals[q]? = some v := by
 unfold Vals at h
 rcases Nat.lt_or_ge q vals.length with hq | hq
 ·rw [List.getElem?_append_left (by simpa using hq), List.getElem?_map, List.getElem?_eq_getElem hq] at h
  rw [List.getElem?_eq_getElem hq]; simpa using h
 ·rw [List.getElem?_append_right (by simpa using hq), List.getElem?_replicate] at h
  split at h
  ·cases h
  ·cases h
theorem vals_none {vals : List Value} {m q : Nat} (h : (Vals vals m)[q]? = some none) : vals.length ≤ q := by
 unfold Vals at h
 rcases Nat.lt_or_ge q vals.length with hq | hq
 ·rw [List.getElem?_append_left (by simpa using hq), List.getElem?_map, List.getElem?_eq_getElem hq] at h
  cases h
 ·exact hq
theorem vals_set {vals : List Value} {m : Nat} {v : Value} (h : vals.length < m) : (Vals vals m).set vals.length (some v) = Vals (vals ++ [v]) m := by
 unfold Vals
 rw [List.set_append_right _ _ (by simp), List.map_append, List.length_append, List.append_assoc]
 congr 1
 obtain ⟨k, hk⟩ : ∃ k, m - vals.length = k + 1 := ⟨m - vals.length - 1, by omega⟩
 rw [hk, List.replicate_succ, List.length_map, Nat.sub_self, List.set_cons_zero, show m - (vals.length + [v].length) = k by simp; omega]
 rfl
/-- What an operation finds: 'l' says what the others yield, 'cv' what those of the chain do; 'early': where it must come ahead of an operation of the chain. -/
structure CtxV (ops : Array Oper) (S : Nat → Prop) (l : List (Bool × SpS S)) (chain : List Nat) (cv : List (Option (Bool × Value))) (GV : List Value → World → Prop) (n : Fr) (K Ke : Known) (w0 : World) (i : Nat) (o : Oper) (a : Act) (w : World) : Prop where
 chg : Chg S w0 w
 kn : Kn n K a
 dep : ∀ j d, depB ops o j d = true → chain.contains j = false → optS l j (a.tmps.getD d undef) w
 link : ∀ (q c d : Nat) (b : Bool) (x : Value), chain[q]? = some c → depB ops o c d = true → cv[q]? = some (some (b, x)) → b = true → a.tmps.getD d undef = x
 old : ∀ d v, look Ke d = some v → earlyB ops i d = true → a.tmps.getD d undef = v
 early : ∀ (q c : Nat), chain[q]? = some c → (ancL ops c).contains i = true → ∃ vals, vals.length ≤ q ∧ GV vals w ∧ ∀ (q' c' d : Nat), chain[q']? = some c' → depB ops o c' d = true → vals[q']? = some (a.tmps.getD d undef)
/-- .. and an operation of the chain: what was yielded before it. -/
structure CtxW (ops : Array Oper) (S : Nat → Prop) (l : List (Bool × SpS S)) (chain : List Nat) (cv : List (Option (Bool × Value))) (GV : List Value → World → Prop) (n : Fr) (K Ke : Known) (w0 : World) (i p : Nat) (o : Oper) (a : Act) (w : World) (vals : List Value) : Prop extends CtxV ops S l chain cv GV n K Ke w0 i o a w where
 len : vals.length = p
 now : GV vals w
 val : ∀ (q c d : Nat), chain[q]? = some c → depB ops o c d = true → vals[q]? = some (a.tmps.getD d undef)
/-- That the operation 'o' comes behind the one ahead of it in the chain. -/
def behind (ops : Array Oper) (chain : List Nat) (p : Nat) (o : Oper) : Bool := match p with | 0 => true | p + 1 => match chain[p]? with | some c => o.after.any (fun e => Region.binds .any e && (ancL ops e.on).contains c) | none => false
def SeqV (P : Program) (ops : Array Oper) (Q : Exit → Act → World → Prop) (l : List (Bool × SpS S)) (chain : List Nat) (cv : List (Option (Bool × Value))) (GV : List Value → World → Prop) (n : Fr) (K Ke : Known) (w0 : World) : Nat → List Oper → Prop
 | _, [] => True
 | i, o :: r => ((chain.contains i = false ∧ ∃ β, GuardIs (optS l) o β ∧ (∀ g b, o.guard = some (g, b) → chain.contains g = false) ∧ (β = false → ∀ w, optS l i undef w) ∧
   (β = true → ∀ a w, CtxV ops S l chain cv GV n K Ke w0 i o a w → o.wp P a w (fun a' w' => ∃ v, a' = Act.put a o.dst v ∧ Below w.heap.size w w' ∧ optS l i v w') Q)) ∨
  (∃ p, chain[p]? = some i ∧ behind ops chain p o = true ∧ ∃ β, GuardIs (optS l) o β ∧ (∀ g b, o.guard = some (g, b) → chain.contains g = false) ∧
   (β = false → ∀ w vals, vals.length = p → GV vals w → GV (vals ++ [undef]) w ∧ ∀ b x, cv[p]? = some (some (b, x)) → b = true → undef = x) ∧
   (β = true → ∀ a w vals, CtxW ops S l chain cv GV n K Ke w0 i p o a w vals → o.wp P a w (fun a' w' => ∃ v, a' = Act.put a o.dst v ∧ Chg S w w' ∧ GV (vals ++ [v]) w' ∧ ∀ b x, cv[p]? = some (some (b, x)) → b = true → v = x) Q))) ∧ SeqV P ops Q l chain cv GV n K Ke w0 (i + 1) r
theorem cv_snoc {cv : List (Option (Bool × Value))} {vals : List Value} {v : Value} (h : ∀ (q : Nat) b x, cv[q]? = some (some (b, x)) → b = true → ∀ v, vals[q]? = some v → v = x) (hv : ∀ b x, cv[vals.length]? = some (some (b, x)) → b = true → v = x) : ∀ (q : Nat) b x, cv[q]? = some (some (b, x)) → b = true → ∀ u, (vals ++ [v])[q]? = some u → u = x := by
 intro q b x hq hb u hu
 rcases Nat.lt_trichotomy q vals.length with c | c | c
 ·rw [List.getElem?_append_left c] at hu; exact h q b x hq hb u hu
 ·subst c
  rw [List.getElem?_append_right (Nat.le_refl _), Nat.sub_self] at hu
  have : v = u := by simpa using hu
  rw [← this]; exact hv b x hq hb
 ·rw [List.getElem?_append_right (by omega)] at hu
  obtain ⟨k, hk⟩ : ∃ k, q - vals.length = k + 1 := ⟨q - vals.length - 1, by omega⟩
  rw [hk] at hu; cases hu
theorem SeqV.gen {Q : Exit → Act → World → Prop} {l : List (Bool × SpS S)} {chain : List Nat} {cv : List (Option (Bool × Value))} {GV : List Value → World → Prop} {n : Fr} {K Ke : Known} {w0 : World} (hGV : ∀ vals w w', Below w.heap.size w w' → GV vals w → GV vals w') : ∀ {lo : List Oper} {i : Nat}, SeqV P ops Q l chain cv GV n K Ke w0 i lo →
  SoundFromQ P ops Q chain (optS l) (Chg S) (GH S w0 chain.length cv GV) n K Ke i lo
 | [], _, _ => trivial
 | o :: r, i, ⟨h, hr⟩ => by
  refine ⟨?_, hr.gen hGV⟩
  have ctx : ∀ {a w vs vals}, CtxQ ops chain (optS l) (GH S w0 chain.length cv GV) n K Ke i o a w vs → vs = Vals vals chain.length → Chg S w0 w → (∀ (q : Nat) b x, cv[q]? = some (some (b, x)) → b = true → ∀ v, vals[q]? = some v → v = x) → GV vals w → CtxV ops S l chain cv GV n K Ke w0 i o a w := fun {a w vs vals} C e hc hv hg =>
   ⟨hc, C.kn, C.dep, fun q c d b x h1 h2 h3 h4 => hv q b x h3 h4 _ (vals_some (e ▸ C.link q c d h1 h2)), fun d v hd hb => C.old d v hd (earlyB_of hb), fun q c h1 h2 => ⟨vals, vals_none (e ▸ C.mostT q c h1 h2), hg, fun q' c' d h3 h4 => vals_some (e ▸ C.link q' c' d h3 h4)⟩⟩
  rcases h with ⟨hi, β, h1, h2, h3, h4⟩ | ⟨p, hp, hbh, β, h1, h2, h3, h4⟩
  ·refine .inl ⟨hi, β, h1, h2, h3, fun hβ a w vs C => ?_⟩
   obtain ⟨vals, k1, k2, k3, k4, k5⟩ := C.now
   refine Oper.wpIn_mono ?_ (wpIn_of (h4 hβ a w (ctx C k2 k4 k5 k3)) (by rintro a' w' ⟨v, rfl, _⟩; exact put_defers _ _ _))
   rintro a' w' ⟨v, rfl, hb, hR⟩
   exact ⟨v, rfl, .ofBelow hb, ⟨vals, k1, k2, hGV _ _ _ hb k3, k4.trans (.ofBelow hb), k5⟩, hR⟩
  ·have hpl : p < chain.length := (List.getElem?_eq_some_iff.1 hp).1
   have len : ∀ {a w vs vals}, CtxQ ops chain (optS l) (GH S w0 chain.length cv GV) n K Ke i o a w vs → vs = Vals vals chain.length → vs[p]? = some none → vals.length = p := fun {a w vs vals} C e hn => by
    have h5 := vals_none (e ▸ hn)
    cases p with
    | zero => omega
    | succ p =>
     unfold behind at hbh
     obtain ⟨c, hc⟩ : ∃ c, chain[p]? = some c := ⟨chain[p], List.getElem?_eq_getElem (by omega)⟩
     simp only [hc] at hbh
     obtain ⟨v, hv⟩ := C.anc p c hc hbh
     have h6 := vals_some (e ▸ hv)
     have := (List.getElem?_eq_some_iff.1 h6).1
     omega
   refine .inr ⟨p, hp, β, h1, h2, fun hβ a w vs C hn => ?_, fun hβ a w vs C hn => ?_⟩
   ·obtain ⟨vals, k1, k2, k3, k4, k5⟩ := C.now
    have hl := len C k2 hn
    obtain ⟨z1, z2⟩ := h3 hβ w vals hl k3
    refine ⟨vals ++ [undef], by simp; omega, ?_, z1, k4, cv_snoc k5 (hl ▸ z2)⟩
    rw [k2, ← hl, vals_set (by omega)]
   ·obtain ⟨vals, k1, k2, k3, k4, k5⟩ := C.now
    have hl := len C k2 hn
    refine Oper.wpIn_mono ?_ (wpIn_of (h4 hβ a w vals ⟨ctx C k2 k4 k5 k3, hl, k3, fun q c d z1 z2 => vals_some (k2 ▸ C.link q c d z1 z2)⟩) (by rintro a' w' ⟨v, rfl, _⟩; exact put_defers _ _ _))
    rintro a' w' ⟨v, rfl, hc, z1, z2⟩
    refine ⟨v, rfl, hc, vals ++ [v], by simp; omega, ?_, z1, k4.trans hc, cv_snoc k5 (hl ▸ z2)⟩
    rw [k2, ← hl, vals_set (by omega)]
theorem cvIs {v X : Value} {β : Bool} (h : v = X) : ∀ b x, (some (some (β, X)) : Option (Option (Bool × Value))) = some (some (b, x)) → b = true → v = x := fun b x e _ => by cases e; exact h
theorem vlen0 {l : List Value} (h : l.length = 0) : l = [] := List.length_eq_zero_iff.1 h
theorem vlen1 {l : List Value} (h : l.length = 1) : ∃ a, l = [a] := by
 match l, h with
 | [a], _ => exact ⟨a, rfl⟩
theorem WC.seqV {id : Nat} {dr : Bool} {Q : Exit → Act → World → Prop} {n : Fr} {K : Known} {w : World} (l : List (Bool × SpS S)) (K0 : Known) (chain : List Nat) (cv : List (Option (Bool × Value))) (GV : List Value → World → Prop) (hGV : ∀ vals w w', Below w.heap.size w w' → GV vals w → GV vals w') (hnd : chain.Nodup)
  (hs : subK K0 K) (hclear : clearB ops K0 = true) (hm : P.follows .mixedOrders = true) (hB : opsB ops n.n = true) (hin : (chain.all fun c => Nat.blt c ops.size) = true) (h0 : GV [] w)
  (h : SeqV P ops Q l chain cv GV n K0 K w 0 ops.toList)
  (hQ : ∀ (a : Act) (w' : World) (vals : List Value), Kn n K0 a → vals.length = chain.length → GV vals w' → Chg S w w' → (∀ i d, (ops[i]?).bind (·.dst) = some d → chain.contains i = false → optS l i (a.tmps.getD d undef) w') → (∀ (p c d : Nat), chain[p]? = some c → (ops[c]?).bind (·.dst) = some d → vals[p]? = some (a.tmps.getD d undef)) → (∀ (p c d : Nat) b x, chain[p]? = some c → (ops[c]?).bind (·.dst) = some d → cv[p]? = some (some (b, x)) → b = true → a.tmps.getD d undef = x) → Q .normal a w') :
  WC P n K w (.region id ops dr) Q := by
 refine WC.genQ chain (optS l) (Chg S) (GH S w chain.length cv GV) K0 hs hclear hm hB hnd hin (optSKeep l) ?_ (h.gen hGV) (fun a w' vs hk hlen hall hG hu hl => ?_)
 ·refine ⟨[], Nat.zero_le _, by simp [Vals], ?_, ?_, fun q b x _ _ v hv => (nomatch hv)⟩
  ·cases dr with
   | true => exact hGV _ _ _ (Below.refl _ _).drew h0
   | false => exact h0
  ·cases dr with
   | true => exact .ofBelow (Below.refl _ _).drew
   | false => exact .ofBelow (Below.refl _ _)
 ·obtain ⟨vals, k1, k2, k3, k4, k5⟩ := hG
  have hlv : vals.length = chain.length := by
   rcases Nat.lt_or_ge vals.length chain.length with c | c
   ·obtain ⟨v, hv⟩ := hall vals.length c
    have h6 := (List.getElem?_eq_some_iff.1 (vals_some (k2 ▸ hv))).1
    omega
   ·omega
  have hv : ∀ (p c d : Nat), chain[p]? = some c → (ops[c]?).bind (·.dst) = some d → vals[p]? = some (a.tmps.getD d undef) := fun p c d z1 z2 => vals_some (k2 ▸ hl p c d z1 z2)
  exact hQ a w' vals hk hlv k3 k4 hu hv (fun p c d b x z1 z2 z3 z4 => k5 p b x z3 z4 _ (hv p c d z1 z2))
end
end Go.Proofs.Ytbohlpfndiiimaa
