/- What two substitutions do together: the document. -/
import Derived.Test.YtgechlgdnnpoeaaMergePlain
import Derived.Test.YtgechlgdnnpoeaaSubSame
import Derived.Test.YtgechlgdnnpoeaaSubComp
namespace Go.Proofs.Ytgechlgdnnpoeaa
open Go.RowKit Go

set_option maxRecDepth 100000 in
theorem rcompose_any (sA sB : List Bd) (w : World) (pa pb : Option Addr) (ca cb : Nat) (hA : IsSub w sA pa ca) (hB : IsSub w sB pb cb) (hla : sA.length ≤ 1048576) (hlb : sB.length ≤ 1048576) : Calls Try.prog 12 #[.slice pa sA.length ca, .slice pb sB.length cb] w (Ret fun v' w' => CompIs w w' sA sB v' ∧ Below w.heap.size w w') := by
  have hcA := hA.cap
  have hcB := hB.cap
  refine Calls.walk (l := [.slice pa sA.length ca, .slice pb sB.length cb]) Try.func12 rfl (by kernel_rfl) ?_
  refine WC.sub (K' := [(0, .slice pa sA.length ca), (1, .slice pb sB.length cb)]) ⟨rfl, rfl, trivial⟩ ?_
  refine WC.seq ?_
  refine WC.region ?_
  refine WL.val (.slice none 0 0) rfl rfl rfl (fun za zC zh zk => wp_assign rfl (zh.ev rfl) zk) ?_
  refine WL.val (.int .i64 0) rfl rfl rfl (fun za zC zh zk => wp_assign rfl (zh.ev rfl) zk) ?_
  refine WL.nil (WE.sub (K' := [(0, .slice pa sA.length ca), (1, .slice pb sB.length cb), (4, .slice none 0 0), (5, .int .i64 0)]) ⟨rfl, rfl, rfl, rfl, trivial⟩ ?_)
  refine WE.next ?_
  refine WC.seq ?_
  refine WC.seq ?_
  refine WC.region ?_
  refine WL.val (.slice pa sA.length ca) rfl rfl rfl (fun za zC zh zk => wp_move rfl (zh.ev rfl) zk) ?_
  refine WL.call rfl rfl rfl (fun za zh zC => wp_call (by kernel_rfl) rfl (hv1 (zh.ev rfl))) (rcheck_any sA _ _ _ hA.small (hA.below (Below.refl _ _)).rows) ?_
  rintro _ w2 ⟨rfl, hq1⟩
  refine WL.val (.bool ((((subCheck sA) : Int) != (0 : Int)))) rfl rfl rfl (fun za zC zh zk => neq_26 rfl (zh.ev rfl) (zh.ev rfl) zk) ?_
  refine WL.val (.bool ((((subCheck sA) : Int) != (0 : Int)))) rfl rfl rfl (fun za zC zh zk => wp_move rfl (zh.ev rfl) zk) ?_
  refine bool_split ((((subCheck sA) : Int) != (0 : Int))) (fun h3 => ?_) (fun h3 => ?_)
  · refine WL.sub (K' := [(0, .slice pa sA.length ca), (1, .slice pb sB.length cb), (4, .slice none 0 0), (5, .int .i64 0), (10, .slice pa sA.length ca), (11, .int .i64 ((subCheck sA))), (12, .bool ((((subCheck sA) : Int) != (0 : Int)))), (13, .bool true)]) ⟨rfl, rfl, rfl, rfl, rfl, rfl, rfl, (by exact congrArg (fun z => some (Value.bool z)) h3), trivial⟩ ?_
    have h3 : ((subCheck sA) : Int) ≠ (0 : Int) := by simpa using h3
    refine WL.skip (d := 13) rfl rfl rfl rfl rfl ?_
    refine WL.skip (d := 13) rfl rfl rfl rfl rfl ?_
    refine WL.skip (d := 13) rfl rfl rfl rfl rfl ?_
    refine WL.val (.bool true) rfl rfl rfl (fun za zC zh zk => wp_pickT rfl (zh.ev rfl) (zh.ev rfl) zk) ?_
    refine WL.nil (WE.sub (K' := [(0, .slice pa sA.length ca), (1, .slice pb sB.length cb), (4, .slice none 0 0), (5, .int .i64 0), (17, .bool true)]) ⟨rfl, rfl, rfl, rfl, rfl, trivial⟩ ?_)
    refine WE.next ?_
    refine WC.condT rfl rfl ?_
    refine WC.seq ?_
    refine WC.region ?_
    refine WL.val (.slice none 0 0) rfl rfl rfl (fun za zC zh zk => wp_assign rfl (zh.ev rfl) zk) ?_
    refine WL.val (.int .i64 2) rfl rfl rfl (fun za zC zh zk => wp_assign rfl (zh.ev rfl) zk) ?_
    refine WL.nil (WE.sub (K' := [(0, .slice pa sA.length ca), (1, .slice pb sB.length cb), (4, .slice none 0 0), (5, .int .i64 2), (17, .bool true)]) ⟨rfl, rfl, rfl, rfl, rfl, trivial⟩ ?_)
    refine WE.next ?_
    refine WC.ret ?_
    refine WE.thenRet ?_
    refine WE.ret2 rfl rfl rfl ?_
    refine ⟨_, rfl, ?_, hq1⟩
    unfold CompIs
    rw [if_neg (fun h => by first | exact subCheck_no (by assumption) h.1 | exact subCheck_no (by assumption) h.2)]
  · refine WL.sub (K' := [(0, .slice pa sA.length ca), (1, .slice pb sB.length cb), (4, .slice none 0 0), (5, .int .i64 0), (10, .slice pa sA.length ca), (11, .int .i64 ((subCheck sA))), (12, .bool ((((subCheck sA) : Int) != (0 : Int)))), (13, .bool false)]) ⟨rfl, rfl, rfl, rfl, rfl, rfl, rfl, (by exact congrArg (fun z => some (Value.bool z)) h3), trivial⟩ ?_
    have h3 : ¬ (((subCheck sA) : Int) ≠ (0 : Int)) := by simpa using h3
    refine WL.want (d := 13) rfl rfl rfl ?_
    refine WL.val (.slice pb sB.length cb) rfl rfl rfl (fun za zC zh zk => wp_move rfl (zh.ev rfl) zk) ?_
    refine WL.want (d := 13) rfl rfl rfl ?_
    refine WL.call rfl rfl rfl (fun za zh zC => wp_call (by kernel_rfl) rfl (hv1 (zh.ev rfl))) (rcheck_any sB _ _ _ hB.small (hB.below hq1).rows) ?_
    rintro _ w5 ⟨rfl, hq4⟩
    refine WL.want (d := 13) rfl rfl rfl ?_
    refine WL.val (.bool ((((subCheck sB) : Int) != (0 : Int)))) rfl rfl rfl (fun za zC zh zk => neq_26 rfl (zh.ev rfl) (zh.ev rfl) zk) ?_
    refine WL.val (.bool ((((subCheck sB) : Int) != (0 : Int)))) rfl rfl rfl (fun za zC zh zk => wp_pickF rfl (zh.ev rfl) (zh.ev rfl) zk) ?_
    refine WL.nil (WE.sub (K' := [(0, .slice pa sA.length ca), (1, .slice pb sB.length cb), (4, .slice none 0 0), (5, .int .i64 0), (17, .bool ((((subCheck sB) : Int) != (0 : Int))))]) ⟨rfl, rfl, rfl, rfl, rfl, trivial⟩ ?_)
    refine WE.next ?_
    refine WC.cond rfl (fun h6 => ?_) (fun h6 => ?_)
    · have h6 : ((subCheck sB) : Int) ≠ (0 : Int) := by simpa using h6
      refine WC.seq ?_
      refine WC.region ?_
      refine WL.val (.slice none 0 0) rfl rfl rfl (fun za zC zh zk => wp_assign rfl (zh.ev rfl) zk) ?_
      refine WL.val (.int .i64 2) rfl rfl rfl (fun za zC zh zk => wp_assign rfl (zh.ev rfl) zk) ?_
      refine WL.nil (WE.sub (K' := [(0, .slice pa sA.length ca), (1, .slice pb sB.length cb), (4, .slice none 0 0), (5, .int .i64 2), (17, .bool ((((subCheck sB) : Int) != (0 : Int))))]) ⟨rfl, rfl, rfl, rfl, rfl, trivial⟩ ?_)
      refine WE.next ?_
      refine WC.ret ?_
      refine WE.thenRet ?_
      refine WE.ret2 rfl rfl rfl ?_
      have hb7 : Below w.heap.size w w5 := (bstep hq1 hq4)
      refine ⟨_, rfl, ?_, hb7⟩
      unfold CompIs
      rw [if_neg (fun h => by first | exact subCheck_no (by assumption) h.1 | exact subCheck_no (by assumption) h.2)]
    · have h6 : ¬ (((subCheck sB) : Int) ≠ (0 : Int)) := by simpa using h6
      refine WC.skip ?_
      refine WE.next ?_
      refine WC.seq ?_
      refine WC.region ?_
      refine WL.val (.slice none 0 0) rfl rfl rfl (fun za zC zh zk => wp_assign rfl (zh.ev rfl) zk) ?_
      refine WL.nil (WE.sub (K' := [(0, .slice pa sA.length ca), (1, .slice pb sB.length cb), (4, .slice none 0 0), (5, .int .i64 0), (6, .slice none 0 0), (17, .bool ((((subCheck sB) : Int) != (0 : Int))))]) ⟨rfl, rfl, rfl, rfl, rfl, rfl, trivial⟩ ?_)
      refine WE.next ?_
      refine WC.seq ?_
      refine WC.region ?_
      refine WL.val (.int .i64 0) rfl rfl rfl (fun za zC zh zk => wp_assign rfl (zh.ev rfl) zk) ?_
      refine WL.val (.int .i64 0) rfl rfl rfl (fun za zC zh zk => wp_assign rfl (zh.ev rfl) zk) ?_
      refine WL.nil (WE.sub (K' := [(0, .slice pa sA.length ca), (1, .slice pb sB.length cb), (4, .slice none 0 0), (5, .int .i64 0), (6, .slice none 0 0), (7, .int .i64 0), (8, .int .i64 0), (17, .bool ((((subCheck sB) : Int) != (0 : Int))))]) ⟨rfl, rfl, rfl, rfl, rfl, rfl, rfl, rfl, trivial⟩ ?_)
      refine WE.next ?_
      refine WC.seq ?_
      refine WC.block ?_
      have hb9 : Below w.heap.size w w5 := (bstep hq1 hq4)
      have hl8 : w.heap.size ≤ w5.heap.size := (hb9).size
      have hR10 : RowE eltB w5 w5.heap.size 56 none 0 0 [] := RowE.nil
      have hokA := subCheck_ok h3
      have hokB := subCheck_ok h6
      have sA' := sorted_of (subOk_sorted sA _ hokA).2
      have sB' := sorted_of (subOk_sorted sB _ hokB).2
      refine WC.loop (X := Option Addr × Nat × Nat × Nat × Nat × List Bd) (fun x => (sA.length - x.2.2.2.1) + (sB.length - x.2.2.2.2.1)) (fun x => [(0, .slice pa sA.length ca), (1, .slice pb sB.length cb), (4, .slice none 0 0), (5, .int .i64 0), (6, .slice x.1 x.2.2.1 x.2.1), (7, .int .i64 (((x.2.2.2.1 : Nat) : Int))), (8, .int .i64 (((x.2.2.2.2.1 : Nat) : Int))), (17, .bool ((((subCheck sB) : Int) != (0 : Int))))]) (fun x w11 => w5.heap.size ≤ (w11).heap.size ∧ MInv sA sB x.2.2.2.1 x.2.2.2.2.1 x.2.2.2.2.2 ∧ Below w.heap.size w w11 ∧ RowE eltB (w11) w5.heap.size 56 x.1 x.2.1 x.2.2.1 x.2.2.2.2.2) ((none, 0, 0, 0, 0, [])) ⟨rfl, rfl, rfl, rfl, rfl, rfl, rfl, rfl, trivial⟩ ?_ ?_
      · exact ⟨Nat.le_refl _, MInv.start, hb9, hR10⟩
      · rintro x w11 ⟨hBw, hM, hb12, ho13⟩
        have hMl := hM.len
        have hM1 := hM.le1
        have hM2 := hM.le2
        have hRl := ho13.len
        refine WC.seq ?_
        refine WC.seq ?_
        refine WC.opt [(true, .val (.int .i64 (((x.2.2.2.1 : Nat) : Int)))), (true, .val (.slice pa sA.length ca)), (true, .val (.int .i64 (((sA.length : Nat) : Int)))), (true, .val (.bool ((decide ((((x.2.2.2.1 : Nat) : Int) : Int) < (((sA.length : Nat) : Int) : Int)))))), (true, .val (.bool ((decide ((((x.2.2.2.1 : Nat) : Int) : Int) < (((sA.length : Nat) : Int) : Int)))))), ((true && !(decide ((((x.2.2.2.1 : Nat) : Int) : Int) < (((sA.length : Nat) : Int) : Int)))), .val (.int .i64 (((x.2.2.2.2.1 : Nat) : Int)))), ((true && !(decide ((((x.2.2.2.1 : Nat) : Int) : Int) < (((sA.length : Nat) : Int) : Int)))), .val (.slice pb sB.length cb)), ((true && !(decide ((((x.2.2.2.1 : Nat) : Int) : Int) < (((sA.length : Nat) : Int) : Int)))), .val (.int .i64 (((sB.length : Nat) : Int)))), ((true && !(decide ((((x.2.2.2.1 : Nat) : Int) : Int) < (((sA.length : Nat) : Int) : Int)))), .val (.bool ((decide ((((x.2.2.2.2.1 : Nat) : Int) : Int) < (((sB.length : Nat) : Int) : Int)))))), (true, .val (.bool (((decide ((((x.2.2.2.1 : Nat) : Int) : Int) < (((sA.length : Nat) : Int) : Int))) || (decide ((((x.2.2.2.2.1 : Nat) : Int) : Int) < (((sB.length : Nat) : Int) : Int)))))))] [(0, .slice pa sA.length ca), (1, .slice pb sB.length cb), (4, .slice none 0 0), (5, .int .i64 0), (6, .slice x.1 x.2.2.1 x.2.1), (7, .int .i64 (((x.2.2.2.1 : Nat) : Int))), (8, .int .i64 (((x.2.2.2.2.1 : Nat) : Int))), (17, .bool ((((subCheck sB) : Int) != (0 : Int))))] ⟨rfl, rfl, rfl, rfl, rfl, rfl, rfl, rfl, trivial⟩ (by kernel_rfl) (by kernel_rfl) (by kernel_rfl) ?_ ?_
        · refine ⟨⟨true, .none rfl, fun h w => optUndef h, fun zβ za zw zc => ?_⟩, ?_⟩
          · exact wp_move rfl (zc.kn.ev rfl) ⟨_, rfl, Below.refl _ _, optDef zβ rfl⟩
          refine ⟨⟨true, .none rfl, fun h w => optUndef h, fun zβ za zw zc => ?_⟩, ?_⟩
          · exact wp_move rfl (zc.kn.ev rfl) ⟨_, rfl, Below.refl _ _, optDef zβ rfl⟩
          refine ⟨⟨true, .none rfl, fun h w => optUndef h, fun zβ za zw zc => ?_⟩, ?_⟩
          · exact len_23 rfl ((show za.eval (.tmp 19) = za.tmps.getD 19 undef from rfl).trans (optVal (zc.dep 1 19 (by kernel_rfl)) rfl rfl)) ⟨_, rfl, Below.refl _ _, optDef zβ rfl⟩
          refine ⟨⟨true, .none rfl, fun h w => optUndef h, fun zβ za zw zc => ?_⟩, ?_⟩
          · exact lss_3 rfl ((show za.eval (.tmp 18) = za.tmps.getD 18 undef from rfl).trans (optVal (zc.dep 0 18 (by kernel_rfl)) rfl rfl)) ((show za.eval (.tmp 20) = za.tmps.getD 20 undef from rfl).trans (optVal (zc.dep 2 20 (by kernel_rfl)) rfl rfl)) ⟨_, rfl, Below.refl _ _, optDef zβ rfl⟩
          refine ⟨⟨true, .none rfl, fun h w => optUndef h, fun zβ za zw zc => ?_⟩, ?_⟩
          · exact wp_move rfl ((show za.eval (.tmp 21) = za.tmps.getD 21 undef from rfl).trans (optVal (zc.dep 3 21 (by kernel_rfl)) rfl rfl)) ⟨_, rfl, Below.refl _ _, optDef zβ rfl⟩
          refine ⟨⟨(true && !(decide ((((x.2.2.2.1 : Nat) : Int) : Int) < (((sA.length : Nat) : Int) : Int)))), .no (c := (decide ((((x.2.2.2.1 : Nat) : Int) : Int) < (((sA.length : Nat) : Int) : Int)))) (d := true) rfl (fun v w h => h), fun h w => optUndef h, fun zβ za zw zc => ?_⟩, ?_⟩
          · exact wp_move rfl (zc.kn.ev rfl) ⟨_, rfl, Below.refl _ _, optDef zβ rfl⟩
          refine ⟨⟨(true && !(decide ((((x.2.2.2.1 : Nat) : Int) : Int) < (((sA.length : Nat) : Int) : Int)))), .no (c := (decide ((((x.2.2.2.1 : Nat) : Int) : Int) < (((sA.length : Nat) : Int) : Int)))) (d := true) rfl (fun v w h => h), fun h w => optUndef h, fun zβ za zw zc => ?_⟩, ?_⟩
          · exact wp_move rfl (zc.kn.ev rfl) ⟨_, rfl, Below.refl _ _, optDef zβ rfl⟩
          refine ⟨⟨(true && !(decide ((((x.2.2.2.1 : Nat) : Int) : Int) < (((sA.length : Nat) : Int) : Int)))), .no (c := (decide ((((x.2.2.2.1 : Nat) : Int) : Int) < (((sA.length : Nat) : Int) : Int)))) (d := true) rfl (fun v w h => h), fun h w => optUndef h, fun zβ za zw zc => ?_⟩, ?_⟩
          · exact len_23 rfl ((show za.eval (.tmp 24) = za.tmps.getD 24 undef from rfl).trans (optVal (zc.dep 6 24 (by kernel_rfl)) rfl zβ)) ⟨_, rfl, Below.refl _ _, optDef zβ rfl⟩
          refine ⟨⟨(true && !(decide ((((x.2.2.2.1 : Nat) : Int) : Int) < (((sA.length : Nat) : Int) : Int)))), .no (c := (decide ((((x.2.2.2.1 : Nat) : Int) : Int) < (((sA.length : Nat) : Int) : Int)))) (d := true) rfl (fun v w h => h), fun h w => optUndef h, fun zβ za zw zc => ?_⟩, ?_⟩
          · exact lss_3 rfl ((show za.eval (.tmp 23) = za.tmps.getD 23 undef from rfl).trans (optVal (zc.dep 5 23 (by kernel_rfl)) rfl zβ)) ((show za.eval (.tmp 25) = za.tmps.getD 25 undef from rfl).trans (optVal (zc.dep 7 25 (by kernel_rfl)) rfl zβ)) ⟨_, rfl, Below.refl _ _, optDef zβ rfl⟩
          refine ⟨⟨true, .none rfl, fun h w => optUndef h, fun zβ za zw zc => ?_⟩, ?_⟩
          · exact wp_or rfl ((show za.eval (.tmp 22) = za.tmps.getD 22 undef from rfl).trans (optVal (zc.dep 4 22 (by kernel_rfl)) rfl rfl)) (fun hp => ((show za.eval (.tmp 26) = za.tmps.getD 26 undef from rfl).trans (optVal (zc.dep 8 26 (by kernel_rfl)) rfl (bMkN zβ hp)))) ⟨_, rfl, Below.refl _ _, optDef zβ rfl⟩
          exact trivial
        · intro za w14 zh hb15 zu
          have zh := zh.cons (d := 27) (v := .bool (((decide ((((x.2.2.2.1 : Nat) : Int) : Int) < (((sA.length : Nat) : Int) : Int))) || (decide ((((x.2.2.2.2.1 : Nat) : Int) : Int) < (((sB.length : Nat) : Int) : Int)))))) (optVal (zu 9 27 (by kernel_rfl)) rfl rfl)
          clear zu
          refine (show WE _ [(0, .slice pa sA.length ca), (1, .slice pb sB.length cb), (4, .slice none 0 0), (5, .int .i64 0), (6, .slice x.1 x.2.2.1 x.2.1), (7, .int .i64 (((x.2.2.2.1 : Nat) : Int))), (8, .int .i64 (((x.2.2.2.2.1 : Nat) : Int))), (17, .bool ((((subCheck sB) : Int) != (0 : Int)))), (27, .bool (((decide ((((x.2.2.2.1 : Nat) : Int) : Int) < (((sA.length : Nat) : Int) : Int))) || (decide ((((x.2.2.2.2.1 : Nat) : Int) : Int) < (((sB.length : Nat) : Int) : Int))))))] w14 _ .normal from ?_) za (zh.sub ⟨rfl, rfl, rfl, rfl, rfl, rfl, rfl, rfl, rfl, trivial⟩)
          refine WE.next ?_
          refine WC.cond rfl (fun h16 => ?_) (fun h16 => ?_)
          · have h16 : ((((x.2.2.2.1 : Nat) : Int) : Int) < (((sA.length : Nat) : Int) : Int)) ∨ ((((x.2.2.2.2.1 : Nat) : Int) : Int) < (((sB.length : Nat) : Int) : Int)) := by simpa using h16
            refine WC.skip ?_
            refine WE.next ?_
            refine WC.block ?_
            refine WC.seq ?_
            refine WC.region ?_
            refine WL.val (.agg #[.int .i64 0, .int .i64 0, .slice none 0 0]) rfl rfl rfl (fun za zC zh zk => build_56_ rfl  zk) ?_
            refine WL.step (post := NewBlk w14 56 #[.int .i64 0, .int .i64 0, .slice none 0 0]) rfl rfl rfl (fun za zC zh zk => alloc_56 rfl (zk _ _ (newBlk _ _ _))) ?_
            rintro _ w17 ⟨g18, rfl, hg19, hB20, hb21, hz22⟩
            have hb23 : Below w.heap.size w w14 := (bstep hb12 hb15)
            have hl24 : w.heap.size ≤ g18 := by have z2 := (hb23).size; omega
            have hl25 : w11.heap.size ≤ g18 := by have z2 := (hb15).size; omega
            refine WL.step (post := fun _ w' => Upd g18 w17 w' ∧ Blk w' g18 56 #[.int .i64 0, .int .i64 0, .slice none 0 0]) rfl rfl rfl (fun za zC zh zk => st_56 rfl (zh.ev rfl) (zh.ev rfl) rfl rfl rfl hB20 (by first | decide | simp) (fun v => zk v _ ⟨((Upd.at_ _ _ _ _).trans (Upd.at_ _ _ _ _)).trans (Upd.at_ _ _ _ _), ((hB20.set_ 0 _).set_ 1 _).set_ 2 _⟩)) ?_
            rintro v29 w26 ⟨hu27, hB28⟩
            have hb30 : Below w.heap.size w w17 := (bstep hb23 hb21)
            have hb31 : Below w11.heap.size w11 w17 := (bstep hb15 hb21)
            have hb32 := upd_below hb30 hu27 (by omega)
            have hb33 := upd_below hb31 hu27 (by omega)
            refine WL.nil (WE.sub (K' := [(0, .slice pa sA.length ca), (1, .slice pb sB.length cb), (4, .slice none 0 0), (5, .int .i64 0), (6, .slice x.1 x.2.2.1 x.2.1), (7, .int .i64 (((x.2.2.2.1 : Nat) : Int))), (8, .int .i64 (((x.2.2.2.2.1 : Nat) : Int))), (9, .pointer (some ⟨g18, 0, none⟩)), (17, .bool ((((subCheck sB) : Int) != (0 : Int)))), (27, .bool (((decide ((((x.2.2.2.1 : Nat) : Int) : Int) < (((sA.length : Nat) : Int) : Int))) || (decide ((((x.2.2.2.2.1 : Nat) : Int) : Int) < (((sB.length : Nat) : Int) : Int))))))]) ⟨rfl, rfl, rfl, rfl, rfl, rfl, rfl, rfl, rfl, rfl, trivial⟩ ?_)
            refine WE.next ?_
            refine WC.seq ?_
            refine WC.seq ?_
            obtain ⟨b34, o35, A36, C37, ha38, hc39⟩ := InRow.openB hA.rows
            obtain ⟨b40, o41, A42, C43, ha44, hc45⟩ := InRow.openB hB.rows
            refine WC.opt [(true, .val (.int .i64 (((x.2.2.2.2.1 : Nat) : Int)))), (true, .val (.slice pb sB.length cb)), (true, .val (.int .i64 (((sB.length : Nat) : Int)))), (true, .val (.bool ((decide ((((sB.length : Nat) : Int) : Int) ≤ (((x.2.2.2.2.1 : Nat) : Int) : Int)))))), (true, .val (.bool ((decide ((((sB.length : Nat) : Int) : Int) ≤ (((x.2.2.2.2.1 : Nat) : Int) : Int)))))), ((true && !(decide ((((sB.length : Nat) : Int) : Int) ≤ (((x.2.2.2.2.1 : Nat) : Int) : Int)))), .val (.int .i64 (((x.2.2.2.1 : Nat) : Int)))), ((true && !(decide ((((sB.length : Nat) : Int) : Int) ≤ (((x.2.2.2.2.1 : Nat) : Int) : Int)))), .val (.slice pa sA.length ca)), ((true && !(decide ((((sB.length : Nat) : Int) : Int) ≤ (((x.2.2.2.2.1 : Nat) : Int) : Int)))), .val (.int .i64 (((sA.length : Nat) : Int)))), ((true && !(decide ((((sB.length : Nat) : Int) : Int) ≤ (((x.2.2.2.2.1 : Nat) : Int) : Int)))), .val (.bool ((decide ((((x.2.2.2.1 : Nat) : Int) : Int) < (((sA.length : Nat) : Int) : Int)))))), ((true && !(decide ((((sB.length : Nat) : Int) : Int) ≤ (((x.2.2.2.2.1 : Nat) : Int) : Int)))), .val (.bool ((decide ((((x.2.2.2.1 : Nat) : Int) : Int) < (((sA.length : Nat) : Int) : Int)))))), (((true && !(decide ((((sB.length : Nat) : Int) : Int) ≤ (((x.2.2.2.2.1 : Nat) : Int) : Int)))) && (decide ((((x.2.2.2.1 : Nat) : Int) : Int) < (((sA.length : Nat) : Int) : Int)))), .val (.slice pa sA.length ca)), (((true && !(decide ((((sB.length : Nat) : Int) : Int) ≤ (((x.2.2.2.2.1 : Nat) : Int) : Int)))) && (decide ((((x.2.2.2.1 : Nat) : Int) : Int) < (((sA.length : Nat) : Int) : Int)))), .val (.int .i64 (((x.2.2.2.1 : Nat) : Int)))), (((true && !(decide ((((sB.length : Nat) : Int) : Int) ≤ (((x.2.2.2.2.1 : Nat) : Int) : Int)))) && (decide ((((x.2.2.2.1 : Nat) : Int) : Int) < (((sA.length : Nat) : Int) : Int)))), .val (.pointer (some ⟨b34, o35 + x.2.2.2.1 * 3, none⟩))), (((true && !(decide ((((sB.length : Nat) : Int) : Int) ≤ (((x.2.2.2.2.1 : Nat) : Int) : Int)))) && (decide ((((x.2.2.2.1 : Nat) : Int) : Int) < (((sA.length : Nat) : Int) : Int)))), .val (.pointer (some ⟨b34, o35 + x.2.2.2.1 * 3, none⟩))), (((true && !(decide ((((sB.length : Nat) : Int) : Int) ≤ (((x.2.2.2.2.1 : Nat) : Int) : Int)))) && (decide ((((x.2.2.2.1 : Nat) : Int) : Int) < (((sA.length : Nat) : Int) : Int)))), .val (.int .i64 ((dget sA x.2.2.2.1).var))), (((true && !(decide ((((sB.length : Nat) : Int) : Int) ≤ (((x.2.2.2.2.1 : Nat) : Int) : Int)))) && (decide ((((x.2.2.2.1 : Nat) : Int) : Int) < (((sA.length : Nat) : Int) : Int)))), .val (.slice pb sB.length cb)), (((true && !(decide ((((sB.length : Nat) : Int) : Int) ≤ (((x.2.2.2.2.1 : Nat) : Int) : Int)))) && (decide ((((x.2.2.2.1 : Nat) : Int) : Int) < (((sA.length : Nat) : Int) : Int)))), .val (.int .i64 (((x.2.2.2.2.1 : Nat) : Int)))), (((true && !(decide ((((sB.length : Nat) : Int) : Int) ≤ (((x.2.2.2.2.1 : Nat) : Int) : Int)))) && (decide ((((x.2.2.2.1 : Nat) : Int) : Int) < (((sA.length : Nat) : Int) : Int)))), .val (.pointer (some ⟨b40, o41 + x.2.2.2.2.1 * 3, none⟩))), (((true && !(decide ((((sB.length : Nat) : Int) : Int) ≤ (((x.2.2.2.2.1 : Nat) : Int) : Int)))) && (decide ((((x.2.2.2.1 : Nat) : Int) : Int) < (((sA.length : Nat) : Int) : Int)))), .val (.pointer (some ⟨b40, o41 + x.2.2.2.2.1 * 3, none⟩))), (((true && !(decide ((((sB.length : Nat) : Int) : Int) ≤ (((x.2.2.2.2.1 : Nat) : Int) : Int)))) && (decide ((((x.2.2.2.1 : Nat) : Int) : Int) < (((sA.length : Nat) : Int) : Int)))), .val (.int .i64 ((dget sB x.2.2.2.2.1).var))), (((true && !(decide ((((sB.length : Nat) : Int) : Int) ≤ (((x.2.2.2.2.1 : Nat) : Int) : Int)))) && (decide ((((x.2.2.2.1 : Nat) : Int) : Int) < (((sA.length : Nat) : Int) : Int)))), .val (.bool ((decide (((dget sA x.2.2.2.1).var : Int) ≤ ((dget sB x.2.2.2.2.1).var : Int)))))), ((true && !(decide ((((sB.length : Nat) : Int) : Int) ≤ (((x.2.2.2.2.1 : Nat) : Int) : Int)))), .val (.bool (((decide ((((x.2.2.2.1 : Nat) : Int) : Int) < (((sA.length : Nat) : Int) : Int))) && (decide (((dget sA x.2.2.2.1).var : Int) ≤ ((dget sB x.2.2.2.2.1).var : Int))))))), (true, .val (.bool (((decide ((((sB.length : Nat) : Int) : Int) ≤ (((x.2.2.2.2.1 : Nat) : Int) : Int))) || ((decide ((((x.2.2.2.1 : Nat) : Int) : Int) < (((sA.length : Nat) : Int) : Int))) && (decide (((dget sA x.2.2.2.1).var : Int) ≤ ((dget sB x.2.2.2.2.1).var : Int))))))))] [(0, .slice pa sA.length ca), (1, .slice pb sB.length cb), (4, .slice none 0 0), (5, .int .i64 0), (6, .slice x.1 x.2.2.1 x.2.1), (7, .int .i64 (((x.2.2.2.1 : Nat) : Int))), (8, .int .i64 (((x.2.2.2.2.1 : Nat) : Int))), (9, .pointer (some ⟨g18, 0, none⟩)), (17, .bool ((((subCheck sB) : Int) != (0 : Int)))), (27, .bool (((decide ((((x.2.2.2.1 : Nat) : Int) : Int) < (((sA.length : Nat) : Int) : Int))) || (decide ((((x.2.2.2.2.1 : Nat) : Int) : Int) < (((sB.length : Nat) : Int) : Int))))))] ⟨rfl, rfl, rfl, rfl, rfl, rfl, rfl, rfl, rfl, rfl, trivial⟩ (by kernel_rfl) (by kernel_rfl) (by kernel_rfl) ?_ ?_
            · refine ⟨⟨true, .none rfl, fun h w => optUndef h, fun zβ za zw zc => ?_⟩, ?_⟩
              · exact wp_move rfl (zc.kn.ev rfl) ⟨_, rfl, Below.refl _ _, optDef zβ rfl⟩
              refine ⟨⟨true, .none rfl, fun h w => optUndef h, fun zβ za zw zc => ?_⟩, ?_⟩
              · exact wp_move rfl (zc.kn.ev rfl) ⟨_, rfl, Below.refl _ _, optDef zβ rfl⟩
              refine ⟨⟨true, .none rfl, fun h w => optUndef h, fun zβ za zw zc => ?_⟩, ?_⟩
              · exact len_23 rfl ((show za.eval (.tmp 30) = za.tmps.getD 30 undef from rfl).trans (optVal (zc.dep 1 30 (by kernel_rfl)) rfl rfl)) ⟨_, rfl, Below.refl _ _, optDef zβ rfl⟩
              refine ⟨⟨true, .none rfl, fun h w => optUndef h, fun zβ za zw zc => ?_⟩, ?_⟩
              · exact geq_3 rfl ((show za.eval (.tmp 29) = za.tmps.getD 29 undef from rfl).trans (optVal (zc.dep 0 29 (by kernel_rfl)) rfl rfl)) ((show za.eval (.tmp 31) = za.tmps.getD 31 undef from rfl).trans (optVal (zc.dep 2 31 (by kernel_rfl)) rfl rfl)) ⟨_, rfl, Below.refl _ _, optDef zβ rfl⟩
              refine ⟨⟨true, .none rfl, fun h w => optUndef h, fun zβ za zw zc => ?_⟩, ?_⟩
              · exact wp_move rfl ((show za.eval (.tmp 32) = za.tmps.getD 32 undef from rfl).trans (optVal (zc.dep 3 32 (by kernel_rfl)) rfl rfl)) ⟨_, rfl, Below.refl _ _, optDef zβ rfl⟩
              refine ⟨⟨(true && !(decide ((((sB.length : Nat) : Int) : Int) ≤ (((x.2.2.2.2.1 : Nat) : Int) : Int)))), .no (c := (decide ((((sB.length : Nat) : Int) : Int) ≤ (((x.2.2.2.2.1 : Nat) : Int) : Int)))) (d := true) rfl (fun v w h => h), fun h w => optUndef h, fun zβ za zw zc => ?_⟩, ?_⟩
              · exact wp_move rfl (zc.kn.ev rfl) ⟨_, rfl, Below.refl _ _, optDef zβ rfl⟩
              refine ⟨⟨(true && !(decide ((((sB.length : Nat) : Int) : Int) ≤ (((x.2.2.2.2.1 : Nat) : Int) : Int)))), .no (c := (decide ((((sB.length : Nat) : Int) : Int) ≤ (((x.2.2.2.2.1 : Nat) : Int) : Int)))) (d := true) rfl (fun v w h => h), fun h w => optUndef h, fun zβ za zw zc => ?_⟩, ?_⟩
              · exact wp_move rfl (zc.kn.ev rfl) ⟨_, rfl, Below.refl _ _, optDef zβ rfl⟩
              refine ⟨⟨(true && !(decide ((((sB.length : Nat) : Int) : Int) ≤ (((x.2.2.2.2.1 : Nat) : Int) : Int)))), .no (c := (decide ((((sB.length : Nat) : Int) : Int) ≤ (((x.2.2.2.2.1 : Nat) : Int) : Int)))) (d := true) rfl (fun v w h => h), fun h w => optUndef h, fun zβ za zw zc => ?_⟩, ?_⟩
              · exact len_23 rfl ((show za.eval (.tmp 35) = za.tmps.getD 35 undef from rfl).trans (optVal (zc.dep 6 35 (by kernel_rfl)) rfl zβ)) ⟨_, rfl, Below.refl _ _, optDef zβ rfl⟩
              refine ⟨⟨(true && !(decide ((((sB.length : Nat) : Int) : Int) ≤ (((x.2.2.2.2.1 : Nat) : Int) : Int)))), .no (c := (decide ((((sB.length : Nat) : Int) : Int) ≤ (((x.2.2.2.2.1 : Nat) : Int) : Int)))) (d := true) rfl (fun v w h => h), fun h w => optUndef h, fun zβ za zw zc => ?_⟩, ?_⟩
              · exact lss_3 rfl ((show za.eval (.tmp 34) = za.tmps.getD 34 undef from rfl).trans (optVal (zc.dep 5 34 (by kernel_rfl)) rfl zβ)) ((show za.eval (.tmp 36) = za.tmps.getD 36 undef from rfl).trans (optVal (zc.dep 7 36 (by kernel_rfl)) rfl zβ)) ⟨_, rfl, Below.refl _ _, optDef zβ rfl⟩
              refine ⟨⟨(true && !(decide ((((sB.length : Nat) : Int) : Int) ≤ (((x.2.2.2.2.1 : Nat) : Int) : Int)))), .no (c := (decide ((((sB.length : Nat) : Int) : Int) ≤ (((x.2.2.2.2.1 : Nat) : Int) : Int)))) (d := true) rfl (fun v w h => h), fun h w => optUndef h, fun zβ za zw zc => ?_⟩, ?_⟩
              · exact wp_move rfl ((show za.eval (.tmp 37) = za.tmps.getD 37 undef from rfl).trans (optVal (zc.dep 8 37 (by kernel_rfl)) rfl zβ)) ⟨_, rfl, Below.refl _ _, optDef zβ rfl⟩
              refine ⟨⟨((true && !(decide ((((sB.length : Nat) : Int) : Int) ≤ (((x.2.2.2.2.1 : Nat) : Int) : Int)))) && (decide ((((x.2.2.2.1 : Nat) : Int) : Int) < (((sA.length : Nat) : Int) : Int)))), .yes (c := (decide ((((x.2.2.2.1 : Nat) : Int) : Int) < (((sA.length : Nat) : Int) : Int)))) (d := (true && !(decide ((((sB.length : Nat) : Int) : Int) ≤ (((x.2.2.2.2.1 : Nat) : Int) : Int))))) rfl (fun v w h => h), fun h w => optUndef h, fun zβ za zw zc => ?_⟩, ?_⟩
              · exact wp_move rfl (zc.kn.ev rfl) ⟨_, rfl, Below.refl _ _, optDef zβ rfl⟩
              refine ⟨⟨((true && !(decide ((((sB.length : Nat) : Int) : Int) ≤ (((x.2.2.2.2.1 : Nat) : Int) : Int)))) && (decide ((((x.2.2.2.1 : Nat) : Int) : Int) < (((sA.length : Nat) : Int) : Int)))), .yes (c := (decide ((((x.2.2.2.1 : Nat) : Int) : Int) < (((sA.length : Nat) : Int) : Int)))) (d := (true && !(decide ((((sB.length : Nat) : Int) : Int) ≤ (((x.2.2.2.2.1 : Nat) : Int) : Int))))) rfl (fun v w h => h), fun h w => optUndef h, fun zβ za zw zc => ?_⟩, ?_⟩
              · exact wp_move rfl (zc.kn.ev rfl) ⟨_, rfl, Below.refl _ _, optDef zβ rfl⟩
              refine ⟨⟨((true && !(decide ((((sB.length : Nat) : Int) : Int) ≤ (((x.2.2.2.2.1 : Nat) : Int) : Int)))) && (decide ((((x.2.2.2.1 : Nat) : Int) : Int) < (((sA.length : Nat) : Int) : Int)))), .yes (c := (decide ((((x.2.2.2.1 : Nat) : Int) : Int) < (((sA.length : Nat) : Int) : Int)))) (d := (true && !(decide ((((sB.length : Nat) : Int) : Int) ≤ (((x.2.2.2.2.1 : Nat) : Int) : Int))))) rfl (fun v w h => h), fun h w => optUndef h, fun zβ za zw zc => ?_⟩, ?_⟩
              · exact ix_23 (k := x.2.2.2.1) rfl ((show za.eval (.tmp 39) = za.tmps.getD 39 undef from rfl).trans (optVal (zc.dep 10 39 (by kernel_rfl)) rfl zβ)) (ha38 x.2.2.2.1 (by first | omega | (have zz := zβ; simp only [Bool.and_eq_true, Bool.or_eq_true, Bool.true_and, Bool.not_eq_true', Bool.or_eq_false_iff, Bool.and_eq_false_iff, beq_eq_false_iff_ne, ne_eq, beq_iff_eq, decide_eq_true_eq, decide_eq_false_iff_not, bne_iff_ne] at zz; omega))) ((show za.eval (.tmp 40) = za.tmps.getD 40 undef from rfl).trans (optVal (zc.dep 11 40 (by kernel_rfl)) rfl zβ)) (by first | omega | (have zz := zβ; simp only [Bool.and_eq_true, Bool.or_eq_true, Bool.true_and, Bool.not_eq_true', Bool.or_eq_false_iff, Bool.and_eq_false_iff, beq_eq_false_iff_ne, ne_eq, beq_iff_eq, decide_eq_true_eq, decide_eq_false_iff_not, bne_iff_ne] at zz; omega)) ⟨_, rfl, Below.refl _ _, optDef zβ rfl⟩
              refine ⟨⟨((true && !(decide ((((sB.length : Nat) : Int) : Int) ≤ (((x.2.2.2.2.1 : Nat) : Int) : Int)))) && (decide ((((x.2.2.2.1 : Nat) : Int) : Int) < (((sA.length : Nat) : Int) : Int)))), .yes (c := (decide ((((x.2.2.2.1 : Nat) : Int) : Int) < (((sA.length : Nat) : Int) : Int)))) (d := (true && !(decide ((((sB.length : Nat) : Int) : Int) ≤ (((x.2.2.2.2.1 : Nat) : Int) : Int))))) rfl (fun v w h => h), fun h w => optUndef h, fun zβ za zw zc => ?_⟩, ?_⟩
              · exact fld_56_0 rfl ((show za.eval (.tmp 41) = za.tmps.getD 41 undef from rfl).trans (optVal (zc.dep 12 41 (by kernel_rfl)) rfl zβ)) ⟨_, rfl, Below.refl _ _, optDef zβ rfl⟩
              refine ⟨⟨((true && !(decide ((((sB.length : Nat) : Int) : Int) ≤ (((x.2.2.2.2.1 : Nat) : Int) : Int)))) && (decide ((((x.2.2.2.1 : Nat) : Int) : Int) < (((sA.length : Nat) : Int) : Int)))), .yes (c := (decide ((((x.2.2.2.1 : Nat) : Int) : Int) < (((sA.length : Nat) : Int) : Int)))) (d := (true && !(decide ((((sB.length : Nat) : Int) : Int) ≤ (((x.2.2.2.2.1 : Nat) : Int) : Int))))) rfl (fun v w h => h), fun h w => optUndef h, fun zβ za zw zc => ?_⟩, ?_⟩
              · exact ld_3 rfl ((show za.eval (.tmp 42) = za.tmps.getD 42 undef from rfl).trans (optVal (zc.dep 13 42 (by kernel_rfl)) rfl zβ)) (bkeeps (bstep hb32 zc.below) _ _ (hc39 x.2.2.2.1 (by first | omega | (have zz := zβ; simp only [Bool.and_eq_true, Bool.or_eq_true, Bool.true_and, Bool.not_eq_true', Bool.or_eq_false_iff, Bool.and_eq_false_iff, beq_eq_false_iff_ne, ne_eq, beq_iff_eq, decide_eq_true_eq, decide_eq_false_iff_not, bne_iff_ne] at zz; omega))).1) ⟨_, rfl, Below.refl _ _, optDef zβ rfl⟩
              refine ⟨⟨((true && !(decide ((((sB.length : Nat) : Int) : Int) ≤ (((x.2.2.2.2.1 : Nat) : Int) : Int)))) && (decide ((((x.2.2.2.1 : Nat) : Int) : Int) < (((sA.length : Nat) : Int) : Int)))), .yes (c := (decide ((((x.2.2.2.1 : Nat) : Int) : Int) < (((sA.length : Nat) : Int) : Int)))) (d := (true && !(decide ((((sB.length : Nat) : Int) : Int) ≤ (((x.2.2.2.2.1 : Nat) : Int) : Int))))) rfl (fun v w h => h), fun h w => optUndef h, fun zβ za zw zc => ?_⟩, ?_⟩
              · exact wp_move rfl (zc.kn.ev rfl) ⟨_, rfl, Below.refl _ _, optDef zβ rfl⟩
              refine ⟨⟨((true && !(decide ((((sB.length : Nat) : Int) : Int) ≤ (((x.2.2.2.2.1 : Nat) : Int) : Int)))) && (decide ((((x.2.2.2.1 : Nat) : Int) : Int) < (((sA.length : Nat) : Int) : Int)))), .yes (c := (decide ((((x.2.2.2.1 : Nat) : Int) : Int) < (((sA.length : Nat) : Int) : Int)))) (d := (true && !(decide ((((sB.length : Nat) : Int) : Int) ≤ (((x.2.2.2.2.1 : Nat) : Int) : Int))))) rfl (fun v w h => h), fun h w => optUndef h, fun zβ za zw zc => ?_⟩, ?_⟩
              · exact wp_move rfl (zc.kn.ev rfl) ⟨_, rfl, Below.refl _ _, optDef zβ rfl⟩
              refine ⟨⟨((true && !(decide ((((sB.length : Nat) : Int) : Int) ≤ (((x.2.2.2.2.1 : Nat) : Int) : Int)))) && (decide ((((x.2.2.2.1 : Nat) : Int) : Int) < (((sA.length : Nat) : Int) : Int)))), .yes (c := (decide ((((x.2.2.2.1 : Nat) : Int) : Int) < (((sA.length : Nat) : Int) : Int)))) (d := (true && !(decide ((((sB.length : Nat) : Int) : Int) ≤ (((x.2.2.2.2.1 : Nat) : Int) : Int))))) rfl (fun v w h => h), fun h w => optUndef h, fun zβ za zw zc => ?_⟩, ?_⟩
              · exact ix_23 (k := x.2.2.2.2.1) rfl ((show za.eval (.tmp 44) = za.tmps.getD 44 undef from rfl).trans (optVal (zc.dep 15 44 (by kernel_rfl)) rfl zβ)) (ha44 x.2.2.2.2.1 (by first | omega | (have zz := zβ; simp only [Bool.and_eq_true, Bool.or_eq_true, Bool.true_and, Bool.not_eq_true', Bool.or_eq_false_iff, Bool.and_eq_false_iff, beq_eq_false_iff_ne, ne_eq, beq_iff_eq, decide_eq_true_eq, decide_eq_false_iff_not, bne_iff_ne] at zz; omega))) ((show za.eval (.tmp 45) = za.tmps.getD 45 undef from rfl).trans (optVal (zc.dep 16 45 (by kernel_rfl)) rfl zβ)) (by first | omega | (have zz := zβ; simp only [Bool.and_eq_true, Bool.or_eq_true, Bool.true_and, Bool.not_eq_true', Bool.or_eq_false_iff, Bool.and_eq_false_iff, beq_eq_false_iff_ne, ne_eq, beq_iff_eq, decide_eq_true_eq, decide_eq_false_iff_not, bne_iff_ne] at zz; omega)) ⟨_, rfl, Below.refl _ _, optDef zβ rfl⟩
              refine ⟨⟨((true && !(decide ((((sB.length : Nat) : Int) : Int) ≤ (((x.2.2.2.2.1 : Nat) : Int) : Int)))) && (decide ((((x.2.2.2.1 : Nat) : Int) : Int) < (((sA.length : Nat) : Int) : Int)))), .yes (c := (decide ((((x.2.2.2.1 : Nat) : Int) : Int) < (((sA.length : Nat) : Int) : Int)))) (d := (true && !(decide ((((sB.length : Nat) : Int) : Int) ≤ (((x.2.2.2.2.1 : Nat) : Int) : Int))))) rfl (fun v w h => h), fun h w => optUndef h, fun zβ za zw zc => ?_⟩, ?_⟩
              · exact fld_56_0 rfl ((show za.eval (.tmp 46) = za.tmps.getD 46 undef from rfl).trans (optVal (zc.dep 17 46 (by kernel_rfl)) rfl zβ)) ⟨_, rfl, Below.refl _ _, optDef zβ rfl⟩
              refine ⟨⟨((true && !(decide ((((sB.length : Nat) : Int) : Int) ≤ (((x.2.2.2.2.1 : Nat) : Int) : Int)))) && (decide ((((x.2.2.2.1 : Nat) : Int) : Int) < (((sA.length : Nat) : Int) : Int)))), .yes (c := (decide ((((x.2.2.2.1 : Nat) : Int) : Int) < (((sA.length : Nat) : Int) : Int)))) (d := (true && !(decide ((((sB.length : Nat) : Int) : Int) ≤ (((x.2.2.2.2.1 : Nat) : Int) : Int))))) rfl (fun v w h => h), fun h w => optUndef h, fun zβ za zw zc => ?_⟩, ?_⟩
              · exact ld_3 rfl ((show za.eval (.tmp 47) = za.tmps.getD 47 undef from rfl).trans (optVal (zc.dep 18 47 (by kernel_rfl)) rfl zβ)) (bkeeps (bstep hb32 zc.below) _ _ (hc45 x.2.2.2.2.1 (by first | omega | (have zz := zβ; simp only [Bool.and_eq_true, Bool.or_eq_true, Bool.true_and, Bool.not_eq_true', Bool.or_eq_false_iff, Bool.and_eq_false_iff, beq_eq_false_iff_ne, ne_eq, beq_iff_eq, decide_eq_true_eq, decide_eq_false_iff_not, bne_iff_ne] at zz; omega))).1) ⟨_, rfl, Below.refl _ _, optDef zβ rfl⟩
              refine ⟨⟨((true && !(decide ((((sB.length : Nat) : Int) : Int) ≤ (((x.2.2.2.2.1 : Nat) : Int) : Int)))) && (decide ((((x.2.2.2.1 : Nat) : Int) : Int) < (((sA.length : Nat) : Int) : Int)))), .yes (c := (decide ((((x.2.2.2.1 : Nat) : Int) : Int) < (((sA.length : Nat) : Int) : Int)))) (d := (true && !(decide ((((sB.length : Nat) : Int) : Int) ≤ (((x.2.2.2.2.1 : Nat) : Int) : Int))))) rfl (fun v w h => h), fun h w => optUndef h, fun zβ za zw zc => ?_⟩, ?_⟩
              · exact leq_3 rfl ((show za.eval (.tmp 43) = za.tmps.getD 43 undef from rfl).trans (optVal (zc.dep 14 43 (by kernel_rfl)) rfl zβ)) ((show za.eval (.tmp 48) = za.tmps.getD 48 undef from rfl).trans (optVal (zc.dep 19 48 (by kernel_rfl)) rfl zβ)) ⟨_, rfl, Below.refl _ _, optDef zβ rfl⟩
              refine ⟨⟨(true && !(decide ((((sB.length : Nat) : Int) : Int) ≤ (((x.2.2.2.2.1 : Nat) : Int) : Int)))), .no (c := (decide ((((sB.length : Nat) : Int) : Int) ≤ (((x.2.2.2.2.1 : Nat) : Int) : Int)))) (d := true) rfl (fun v w h => h), fun h w => optUndef h, fun zβ za zw zc => ?_⟩, ?_⟩
              · exact wp_and rfl ((show za.eval (.tmp 38) = za.tmps.getD 38 undef from rfl).trans (optVal (zc.dep 9 38 (by kernel_rfl)) rfl zβ)) (fun hp => ((show za.eval (.tmp 49) = za.tmps.getD 49 undef from rfl).trans (optVal (zc.dep 20 49 (by kernel_rfl)) rfl (bMk zβ hp)))) ⟨_, rfl, Below.refl _ _, optDef zβ rfl⟩
              refine ⟨⟨true, .none rfl, fun h w => optUndef h, fun zβ za zw zc => ?_⟩, ?_⟩
              · exact wp_or rfl ((show za.eval (.tmp 33) = za.tmps.getD 33 undef from rfl).trans (optVal (zc.dep 4 33 (by kernel_rfl)) rfl rfl)) (fun hp => ((show za.eval (.tmp 50) = za.tmps.getD 50 undef from rfl).trans (optVal (zc.dep 21 50 (by kernel_rfl)) rfl (bMkN zβ hp)))) ⟨_, rfl, Below.refl _ _, optDef zβ rfl⟩
              exact trivial
            · intro za w46 zh hb47 zu
              have zh := zh.cons (d := 51) (v := .bool (((decide ((((sB.length : Nat) : Int) : Int) ≤ (((x.2.2.2.2.1 : Nat) : Int) : Int))) || ((decide ((((x.2.2.2.1 : Nat) : Int) : Int) < (((sA.length : Nat) : Int) : Int))) && (decide (((dget sA x.2.2.2.1).var : Int) ≤ ((dget sB x.2.2.2.2.1).var : Int))))))) (optVal (zu 22 51 (by kernel_rfl)) rfl rfl)
              clear zu
              refine (show WE _ [(0, .slice pa sA.length ca), (1, .slice pb sB.length cb), (4, .slice none 0 0), (5, .int .i64 0), (6, .slice x.1 x.2.2.1 x.2.1), (7, .int .i64 (((x.2.2.2.1 : Nat) : Int))), (8, .int .i64 (((x.2.2.2.2.1 : Nat) : Int))), (9, .pointer (some ⟨g18, 0, none⟩)), (17, .bool ((((subCheck sB) : Int) != (0 : Int)))), (27, .bool (((decide ((((x.2.2.2.1 : Nat) : Int) : Int) < (((sA.length : Nat) : Int) : Int))) || (decide ((((x.2.2.2.2.1 : Nat) : Int) : Int) < (((sB.length : Nat) : Int) : Int)))))), (51, .bool (((decide ((((sB.length : Nat) : Int) : Int) ≤ (((x.2.2.2.2.1 : Nat) : Int) : Int))) || ((decide ((((x.2.2.2.1 : Nat) : Int) : Int) < (((sA.length : Nat) : Int) : Int))) && (decide (((dget sA x.2.2.2.1).var : Int) ≤ ((dget sB x.2.2.2.2.1).var : Int)))))))] w46 _ .normal from ?_) za (zh.sub ⟨rfl, rfl, rfl, rfl, rfl, rfl, rfl, rfl, rfl, rfl, rfl, trivial⟩)
              refine WE.next ?_
              refine WC.cond rfl (fun h48 => ?_) (fun h48 => ?_)
              · have h48 : ((((sB.length : Nat) : Int) : Int) ≤ (((x.2.2.2.2.1 : Nat) : Int) : Int)) ∨ (((((x.2.2.2.1 : Nat) : Int) : Int) < (((sA.length : Nat) : Int) : Int)) ∧ (((dget sA x.2.2.2.1).var : Int) ≤ ((dget sB x.2.2.2.2.1).var : Int))) := by simpa using h48
                refine WC.seq ?_
                have hB49 := hB28.below hb47
                have hb50 : Below w.heap.size w w46 := (bstep hb32 hb47)
                have hi64 := (hc39 x.2.2.2.1 (by first | omega | (simp; omega))).2.2.2.2
                have hSlt : ∀ b, (fun b => b = g18) b → b < w46.heap.size := fun b e => e ▸ hB49.lt
                have hgl : g18 < w46.heap.size := hB49.lt
                refine WC.tail1 (S := ((fun b => b = g18))) [(true, .val (.slice pa sA.length ca)), (true, .val (.int .i64 (((x.2.2.2.1 : Nat) : Int)))), (true, .val (.pointer (some ⟨b34, o35 + x.2.2.2.1 * 3, none⟩))), (true, .val (.pointer (some ⟨b34, o35 + x.2.2.2.1 * 3, none⟩))), (true, .val (.int .i64 ((dget sA x.2.2.2.1).var))), (true, .val (.slice pb sB.length cb)), (true, .val (.slice pa sA.length ca)), (true, .val (.int .i64 (((x.2.2.2.1 : Nat) : Int)))), (true, .val (.pointer (some ⟨b34, o35 + x.2.2.2.1 * 3, none⟩))), (true, .val (.pointer (some ⟨b34, o35 + x.2.2.2.1 * 3 + 1, none⟩))), (true, .val (.agg #[.int .i64 ((dget sA x.2.2.2.1).t.f), .slice ((A36 x.2.2.2.1)) ((dget sA x.2.2.2.1).t.args.length) ((C37 x.2.2.2.1))])), (true, .mem (fun v w' => NewT w46 w' (((dget sA x.2.2.2.1).t.app sB)) v) (fun v w w' hc h => InT.chg h hc (fun b hb hs => by have z := hSlt b hs; omega))), (true, .mem (fun v w' => ∃ a c, v = .agg #[.int .i64 ((dget sA x.2.2.2.1).ap sB).var, .int .i64 ((dget sA x.2.2.2.1).ap sB).t.f, .slice a ((dget sA x.2.2.2.1).ap sB).t.args.length c] ∧ I64 ((dget sA x.2.2.2.1).ap sB).var ∧ InT (fun b => w46.heap.size ≤ b) w' ((dget sA x.2.2.2.1).ap sB).t (.agg #[.int .i64 ((dget sA x.2.2.2.1).ap sB).t.f, .slice a ((dget sA x.2.2.2.1).ap sB).t.args.length c])) (fun v w w' hc h => (by obtain ⟨a, c, h1, h0, h2⟩ := h; exact ⟨a, c, h1, h0, InT.chg h2 hc (fun b hb hs => by have z := hSlt b hs; omega)⟩))), (true, .val undef)] [(0, .slice pa sA.length ca), (1, .slice pb sB.length cb), (4, .slice none 0 0), (5, .int .i64 0), (6, .slice x.1 x.2.2.1 x.2.1), (7, .int .i64 (((x.2.2.2.1 : Nat) : Int))), (8, .int .i64 (((x.2.2.2.2.1 : Nat) : Int))), (9, .pointer (some ⟨g18, 0, none⟩)), (17, .bool ((((subCheck sB) : Int) != (0 : Int)))), (27, .bool (((decide ((((x.2.2.2.1 : Nat) : Int) : Int) < (((sA.length : Nat) : Int) : Int))) || (decide ((((x.2.2.2.2.1 : Nat) : Int) : Int) < (((sB.length : Nat) : Int) : Int)))))), (51, .bool (((decide ((((sB.length : Nat) : Int) : Int) ≤ (((x.2.2.2.2.1 : Nat) : Int) : Int))) || ((decide ((((x.2.2.2.1 : Nat) : Int) : Int) < (((sA.length : Nat) : Int) : Int))) && (decide (((dget sA x.2.2.2.1).var : Int) ≤ ((dget sB x.2.2.2.2.1).var : Int)))))))] 13 (fun w => ∃ a c, Blk w g18 56 #[.int .i64 ((dget sA x.2.2.2.1).ap sB).var, .int .i64 ((dget sA x.2.2.2.1).ap sB).t.f, .slice a ((dget sA x.2.2.2.1).ap sB).t.args.length c] ∧ InT (fun b => w46.heap.size ≤ b) w ((dget sA x.2.2.2.1).ap sB).t (.agg #[.int .i64 ((dget sA x.2.2.2.1).ap sB).t.f, .slice a ((dget sA x.2.2.2.1).ap sB).t.args.length c])) (fun w w' hb h => (by obtain ⟨a, c, h1, h2⟩ := h; exact ⟨a, c, h1.below hb, InT.below hb h2⟩)) ⟨rfl, rfl, rfl, rfl, rfl, rfl, rfl, rfl, rfl, rfl, rfl, trivial⟩ (by kernel_rfl) (by kernel_rfl) (by kernel_rfl) (by kernel_rfl) ?_ ?_
                · refine ⟨.inl ⟨rfl, true, .none rfl, (fun gg b h => by cases h), fun h w => optUndef h, fun zβ za zw zc => ?_⟩, ?_⟩
                  · exact wp_move rfl (zc.kn.ev rfl) ⟨_, rfl, Below.refl _ _, optDef zβ rfl⟩
                  refine ⟨.inl ⟨rfl, true, .none rfl, (fun gg b h => by cases h), fun h w => optUndef h, fun zβ za zw zc => ?_⟩, ?_⟩
                  · exact wp_move rfl (zc.kn.ev rfl) ⟨_, rfl, Below.refl _ _, optDef zβ rfl⟩
                  refine ⟨.inl ⟨rfl, true, .none rfl, (fun gg b h => by cases h), fun h w => optUndef h, fun zβ za zw zc => ?_⟩, ?_⟩
                  · exact ix_23 (k := x.2.2.2.1) rfl ((show za.eval (.tmp 52) = za.tmps.getD 52 undef from rfl).trans (optSVal (zc.dep 0 52 (by kernel_rfl) (by decide)) rfl rfl)) (ha38 x.2.2.2.1 (by first | omega | (simp; omega))) ((show za.eval (.tmp 53) = za.tmps.getD 53 undef from rfl).trans (optSVal (zc.dep 1 53 (by kernel_rfl) (by decide)) rfl rfl)) (by first | omega | (simp; omega)) ⟨_, rfl, Below.refl _ _, optDef zβ rfl⟩
                  refine ⟨.inl ⟨rfl, true, .none rfl, (fun gg b h => by cases h), fun h w => optUndef h, fun zβ za zw zc => ?_⟩, ?_⟩
                  · exact fld_56_0 rfl ((show za.eval (.tmp 54) = za.tmps.getD 54 undef from rfl).trans (optSVal (zc.dep 2 54 (by kernel_rfl) (by decide)) rfl rfl)) ⟨_, rfl, Below.refl _ _, optDef zβ rfl⟩
                  refine ⟨.inl ⟨rfl, true, .none rfl, (fun gg b h => by cases h), fun h w => optUndef h, fun zβ za zw zc => ?_⟩, ?_⟩
                  · exact ld_3 rfl ((show za.eval (.tmp 55) = za.tmps.getD 55 undef from rfl).trans (optSVal (zc.dep 3 55 (by kernel_rfl) (by decide)) rfl rfl)) (bkeeps (bstep hb50 (zc.early (by kernel_rfl))) _ _ (hc39 x.2.2.2.1 (by first | omega | (simp; omega))).1) ⟨_, rfl, Below.refl _ _, optDef zβ rfl⟩
                  refine ⟨.inl ⟨rfl, true, .none rfl, (fun gg b h => by cases h), fun h w => optUndef h, fun zβ za zw zc => ?_⟩, ?_⟩
                  · exact wp_move rfl (zc.kn.ev rfl) ⟨_, rfl, Below.refl _ _, optDef zβ rfl⟩
                  refine ⟨.inl ⟨rfl, true, .none rfl, (fun gg b h => by cases h), fun h w => optUndef h, fun zβ za zw zc => ?_⟩, ?_⟩
                  · exact wp_move rfl (zc.kn.ev rfl) ⟨_, rfl, Below.refl _ _, optDef zβ rfl⟩
                  refine ⟨.inl ⟨rfl, true, .none rfl, (fun gg b h => by cases h), fun h w => optUndef h, fun zβ za zw zc => ?_⟩, ?_⟩
                  · exact wp_move rfl (zc.kn.ev rfl) ⟨_, rfl, Below.refl _ _, optDef zβ rfl⟩
                  refine ⟨.inl ⟨rfl, true, .none rfl, (fun gg b h => by cases h), fun h w => optUndef h, fun zβ za zw zc => ?_⟩, ?_⟩
                  · exact ix_23 (k := x.2.2.2.1) rfl ((show za.eval (.tmp 58) = za.tmps.getD 58 undef from rfl).trans (optSVal (zc.dep 6 58 (by kernel_rfl) (by decide)) rfl rfl)) (ha38 x.2.2.2.1 (by first | omega | (simp; omega))) ((show za.eval (.tmp 59) = za.tmps.getD 59 undef from rfl).trans (optSVal (zc.dep 7 59 (by kernel_rfl) (by decide)) rfl rfl)) (by first | omega | (simp; omega)) ⟨_, rfl, Below.refl _ _, optDef zβ rfl⟩
                  refine ⟨.inl ⟨rfl, true, .none rfl, (fun gg b h => by cases h), fun h w => optUndef h, fun zβ za zw zc => ?_⟩, ?_⟩
                  · exact fld_56_1 rfl ((show za.eval (.tmp 60) = za.tmps.getD 60 undef from rfl).trans (optSVal (zc.dep 8 60 (by kernel_rfl) (by decide)) rfl rfl)) ⟨_, rfl, Below.refl _ _, optDef zβ rfl⟩
                  refine ⟨.inl ⟨rfl, true, .none rfl, (fun gg b h => by cases h), fun h w => optUndef h, fun zβ za zw zc => ?_⟩, ?_⟩
                  · exact ld_32 rfl ((show za.eval (.tmp 61) = za.tmps.getD 61 undef from rfl).trans (optSVal (zc.dep 9 61 (by kernel_rfl) (by decide)) rfl rfl)) (bkeeps (bstep hb50 (zc.early (by kernel_rfl))) _ _ (hc39 x.2.2.2.1 (by first | omega | (simp; omega))).2.1) (bkeeps (bstep hb50 (zc.early (by kernel_rfl))) _ _ (hc39 x.2.2.2.1 (by first | omega | (simp; omega))).2.2.1) ⟨_, rfl, Below.refl _ _, optDef zβ rfl⟩
                  refine ⟨.inl ⟨rfl, true, .none rfl, (fun gg b h => by cases h), fun h w => optUndef h, fun zβ za zw zc => ?_⟩, ?_⟩
                  · exact wp_call (by kernel_rfl) rfl (hv2 ((show za.eval (.tmp 57) = za.tmps.getD 57 undef from rfl).trans (optSVal (zc.dep 5 57 (by kernel_rfl) (by decide)) rfl rfl)) ((show za.eval (.tmp 62) = za.tmps.getD 62 undef from rfl).trans (optSVal (zc.dep 10 62 (by kernel_rfl) (by decide)) rfl rfl))) (rapply_any sB _ _ (dget sA x.2.2.2.1).t _ _ (hA.parts _ (dget_mem (by omega))) (IsT.below (bstep hb50 (zc.early (by kernel_rfl))) (InT.isT (hc39 x.2.2.2.1 (by first | omega | (simp; omega))).2.2.2.1)) (hB.below (bstep hb50 (zc.early (by kernel_rfl))))) (fun v w' h => ⟨v, rfl, h.2, optDef zβ (InT.mono (fun b hb _ => Nat.le_trans (zc.early (by kernel_rfl)).size hb) h.1)⟩)
                  refine ⟨.inl ⟨rfl, true, .none rfl, (fun gg b h => by cases h), fun h w => optUndef h, fun zβ za zw zc => ?_⟩, ?_⟩
                  · have zv := (optSMem (zc.dep 11 63 (by kernel_rfl) (by decide)) rfl rfl)
                    obtain ⟨_, a1, c1, e1, _⟩ := zv.form
                    rw [e1] at zv
                    exact build_56_0_1 rfl ((show za.eval (.tmp 56) = za.tmps.getD 56 undef from rfl).trans (optSVal (zc.dep 4 56 (by kernel_rfl) (by decide)) rfl rfl)) ((show za.eval (.tmp 63) = za.tmps.getD 63 undef from rfl).trans e1) ⟨_, rfl, Below.refl _ _, optDef zβ ⟨_, _, rfl, hi64, zv⟩⟩
                  refine ⟨.inr ⟨rfl, rfl, fun za zw zc => ?_⟩, ?_⟩
                  · have zv := (optSMem (zc.dep 12 64 (by kernel_rfl) (by decide)) rfl rfl)
                    obtain ⟨a1, c1, e1, zi, zv⟩ := zv
                    exact st_56 rfl (zc.kn.ev rfl) ((show za.eval (.tmp 64) = za.tmps.getD 64 undef from rfl).trans e1) rfl rfl rfl (hB49.below zc.below) (by first | decide | simp) (fun v => ⟨v, rfl, ⟨a1, c1, (((hB49.below zc.below).set_ 0 _).set_ 1 _).set_ 2 _, InT.chg zv (.ofUpd (S := fun b => b = g18) (((Upd.at_ _ _ _ _).trans (Upd.at_ _ _ _ _)).trans (Upd.at_ _ _ _ _)) rfl) (fun b hb e => by (try dsimp only at *); omega)⟩, .ofUpd (((Upd.at_ _ _ _ _).trans (Upd.at_ _ _ _ _)).trans (Upd.at_ _ _ _ _)) rfl⟩)
                  exact trivial
                · intro za w51 zh hG52 hc53 zu
                  have hb54 : Below w11.heap.size w11 w46 := (bstep hb33 hb47)
                  have hb55 := chg_below hb50 hc53 (fun b hb => (fun h => by (try dsimp only at *); omega))
                  have hb56 := chg_below hb54 hc53 (fun b hb => (fun h => by (try dsimp only at *); omega))
                  obtain ⟨a57, c58, hB59, hT60⟩ := hG52
                  clear zu
                  refine (show WE _ [(0, .slice pa sA.length ca), (1, .slice pb sB.length cb), (4, .slice none 0 0), (5, .int .i64 0), (6, .slice x.1 x.2.2.1 x.2.1), (7, .int .i64 (((x.2.2.2.1 : Nat) : Int))), (8, .int .i64 (((x.2.2.2.2.1 : Nat) : Int))), (9, .pointer (some ⟨g18, 0, none⟩)), (17, .bool ((((subCheck sB) : Int) != (0 : Int)))), (27, .bool (((decide ((((x.2.2.2.1 : Nat) : Int) : Int) < (((sA.length : Nat) : Int) : Int))) || (decide ((((x.2.2.2.2.1 : Nat) : Int) : Int) < (((sB.length : Nat) : Int) : Int)))))), (51, .bool (((decide ((((sB.length : Nat) : Int) : Int) ≤ (((x.2.2.2.2.1 : Nat) : Int) : Int))) || ((decide ((((x.2.2.2.1 : Nat) : Int) : Int) < (((sA.length : Nat) : Int) : Int))) && (decide (((dget sA x.2.2.2.1).var : Int) ≤ ((dget sB x.2.2.2.2.1).var : Int)))))))] w51 _ .normal from ?_) za (zh.sub ⟨rfl, rfl, rfl, rfl, rfl, rfl, rfl, rfl, rfl, rfl, rfl, trivial⟩)
                  refine WE.next ?_
                  refine WC.seq ?_
                  refine WC.seq ?_
                  refine WC.opt [(true, .val (.int .i64 (((x.2.2.2.2.1 : Nat) : Int)))), (true, .val (.slice pb sB.length cb)), (true, .val (.int .i64 (((sB.length : Nat) : Int)))), (true, .val (.bool ((decide ((((x.2.2.2.2.1 : Nat) : Int) : Int) < (((sB.length : Nat) : Int) : Int)))))), (true, .val (.bool ((decide ((((x.2.2.2.2.1 : Nat) : Int) : Int) < (((sB.length : Nat) : Int) : Int)))))), ((true && (decide ((((x.2.2.2.2.1 : Nat) : Int) : Int) < (((sB.length : Nat) : Int) : Int)))), .val (.slice pb sB.length cb)), ((true && (decide ((((x.2.2.2.2.1 : Nat) : Int) : Int) < (((sB.length : Nat) : Int) : Int)))), .val (.int .i64 (((x.2.2.2.2.1 : Nat) : Int)))), ((true && (decide ((((x.2.2.2.2.1 : Nat) : Int) : Int) < (((sB.length : Nat) : Int) : Int)))), .val (.pointer (some ⟨b40, o41 + x.2.2.2.2.1 * 3, none⟩))), ((true && (decide ((((x.2.2.2.2.1 : Nat) : Int) : Int) < (((sB.length : Nat) : Int) : Int)))), .val (.pointer (some ⟨b40, o41 + x.2.2.2.2.1 * 3, none⟩))), ((true && (decide ((((x.2.2.2.2.1 : Nat) : Int) : Int) < (((sB.length : Nat) : Int) : Int)))), .val (.int .i64 ((dget sB x.2.2.2.2.1).var))), ((true && (decide ((((x.2.2.2.2.1 : Nat) : Int) : Int) < (((sB.length : Nat) : Int) : Int)))), .val (.slice pa sA.length ca)), ((true && (decide ((((x.2.2.2.2.1 : Nat) : Int) : Int) < (((sB.length : Nat) : Int) : Int)))), .val (.int .i64 (((x.2.2.2.1 : Nat) : Int)))), ((true && (decide ((((x.2.2.2.2.1 : Nat) : Int) : Int) < (((sB.length : Nat) : Int) : Int)))), .val (.pointer (some ⟨b34, o35 + x.2.2.2.1 * 3, none⟩))), ((true && (decide ((((x.2.2.2.2.1 : Nat) : Int) : Int) < (((sB.length : Nat) : Int) : Int)))), .val (.pointer (some ⟨b34, o35 + x.2.2.2.1 * 3, none⟩))), ((true && (decide ((((x.2.2.2.2.1 : Nat) : Int) : Int) < (((sB.length : Nat) : Int) : Int)))), .val (.int .i64 ((dget sA x.2.2.2.1).var))), ((true && (decide ((((x.2.2.2.2.1 : Nat) : Int) : Int) < (((sB.length : Nat) : Int) : Int)))), .val (.bool ((((dget sB x.2.2.2.2.1).var : Int) == ((dget sA x.2.2.2.1).var : Int))))), (true, .val (.bool (((decide ((((x.2.2.2.2.1 : Nat) : Int) : Int) < (((sB.length : Nat) : Int) : Int))) && (((dget sB x.2.2.2.2.1).var : Int) == ((dget sA x.2.2.2.1).var : Int))))))] [(0, .slice pa sA.length ca), (1, .slice pb sB.length cb), (4, .slice none 0 0), (5, .int .i64 0), (6, .slice x.1 x.2.2.1 x.2.1), (7, .int .i64 (((x.2.2.2.1 : Nat) : Int))), (8, .int .i64 (((x.2.2.2.2.1 : Nat) : Int))), (9, .pointer (some ⟨g18, 0, none⟩)), (17, .bool ((((subCheck sB) : Int) != (0 : Int)))), (27, .bool (((decide ((((x.2.2.2.1 : Nat) : Int) : Int) < (((sA.length : Nat) : Int) : Int))) || (decide ((((x.2.2.2.2.1 : Nat) : Int) : Int) < (((sB.length : Nat) : Int) : Int)))))), (51, .bool (((decide ((((sB.length : Nat) : Int) : Int) ≤ (((x.2.2.2.2.1 : Nat) : Int) : Int))) || ((decide ((((x.2.2.2.1 : Nat) : Int) : Int) < (((sA.length : Nat) : Int) : Int))) && (decide (((dget sA x.2.2.2.1).var : Int) ≤ ((dget sB x.2.2.2.2.1).var : Int)))))))] ⟨rfl, rfl, rfl, rfl, rfl, rfl, rfl, rfl, rfl, rfl, rfl, trivial⟩ (by kernel_rfl) (by kernel_rfl) (by kernel_rfl) ?_ ?_
                  · refine ⟨⟨true, .none rfl, fun h w => optUndef h, fun zβ za zw zc => ?_⟩, ?_⟩
                    · exact wp_move rfl (zc.kn.ev rfl) ⟨_, rfl, Below.refl _ _, optDef zβ rfl⟩
                    refine ⟨⟨true, .none rfl, fun h w => optUndef h, fun zβ za zw zc => ?_⟩, ?_⟩
                    · exact wp_move rfl (zc.kn.ev rfl) ⟨_, rfl, Below.refl _ _, optDef zβ rfl⟩
                    refine ⟨⟨true, .none rfl, fun h w => optUndef h, fun zβ za zw zc => ?_⟩, ?_⟩
                    · exact len_23 rfl ((show za.eval (.tmp 66) = za.tmps.getD 66 undef from rfl).trans (optVal (zc.dep 1 66 (by kernel_rfl)) rfl rfl)) ⟨_, rfl, Below.refl _ _, optDef zβ rfl⟩
                    refine ⟨⟨true, .none rfl, fun h w => optUndef h, fun zβ za zw zc => ?_⟩, ?_⟩
                    · exact lss_3 rfl ((show za.eval (.tmp 65) = za.tmps.getD 65 undef from rfl).trans (optVal (zc.dep 0 65 (by kernel_rfl)) rfl rfl)) ((show za.eval (.tmp 67) = za.tmps.getD 67 undef from rfl).trans (optVal (zc.dep 2 67 (by kernel_rfl)) rfl rfl)) ⟨_, rfl, Below.refl _ _, optDef zβ rfl⟩
                    refine ⟨⟨true, .none rfl, fun h w => optUndef h, fun zβ za zw zc => ?_⟩, ?_⟩
                    · exact wp_move rfl ((show za.eval (.tmp 68) = za.tmps.getD 68 undef from rfl).trans (optVal (zc.dep 3 68 (by kernel_rfl)) rfl rfl)) ⟨_, rfl, Below.refl _ _, optDef zβ rfl⟩
                    refine ⟨⟨(true && (decide ((((x.2.2.2.2.1 : Nat) : Int) : Int) < (((sB.length : Nat) : Int) : Int)))), .yes (c := (decide ((((x.2.2.2.2.1 : Nat) : Int) : Int) < (((sB.length : Nat) : Int) : Int)))) (d := true) rfl (fun v w h => h), fun h w => optUndef h, fun zβ za zw zc => ?_⟩, ?_⟩
                    · exact wp_move rfl (zc.kn.ev rfl) ⟨_, rfl, Below.refl _ _, optDef zβ rfl⟩
                    refine ⟨⟨(true && (decide ((((x.2.2.2.2.1 : Nat) : Int) : Int) < (((sB.length : Nat) : Int) : Int)))), .yes (c := (decide ((((x.2.2.2.2.1 : Nat) : Int) : Int) < (((sB.length : Nat) : Int) : Int)))) (d := true) rfl (fun v w h => h), fun h w => optUndef h, fun zβ za zw zc => ?_⟩, ?_⟩
                    · exact wp_move rfl (zc.kn.ev rfl) ⟨_, rfl, Below.refl _ _, optDef zβ rfl⟩
                    refine ⟨⟨(true && (decide ((((x.2.2.2.2.1 : Nat) : Int) : Int) < (((sB.length : Nat) : Int) : Int)))), .yes (c := (decide ((((x.2.2.2.2.1 : Nat) : Int) : Int) < (((sB.length : Nat) : Int) : Int)))) (d := true) rfl (fun v w h => h), fun h w => optUndef h, fun zβ za zw zc => ?_⟩, ?_⟩
                    · exact ix_23 (k := x.2.2.2.2.1) rfl ((show za.eval (.tmp 70) = za.tmps.getD 70 undef from rfl).trans (optVal (zc.dep 5 70 (by kernel_rfl)) rfl zβ)) (ha44 x.2.2.2.2.1 (by first | omega | (have zz := zβ; simp only [Bool.and_eq_true, Bool.or_eq_true, Bool.true_and, Bool.not_eq_true', Bool.or_eq_false_iff, Bool.and_eq_false_iff, beq_eq_false_iff_ne, ne_eq, beq_iff_eq, decide_eq_true_eq, decide_eq_false_iff_not, bne_iff_ne] at zz; omega))) ((show za.eval (.tmp 71) = za.tmps.getD 71 undef from rfl).trans (optVal (zc.dep 6 71 (by kernel_rfl)) rfl zβ)) (by first | omega | (have zz := zβ; simp only [Bool.and_eq_true, Bool.or_eq_true, Bool.true_and, Bool.not_eq_true', Bool.or_eq_false_iff, Bool.and_eq_false_iff, beq_eq_false_iff_ne, ne_eq, beq_iff_eq, decide_eq_true_eq, decide_eq_false_iff_not, bne_iff_ne] at zz; omega)) ⟨_, rfl, Below.refl _ _, optDef zβ rfl⟩
                    refine ⟨⟨(true && (decide ((((x.2.2.2.2.1 : Nat) : Int) : Int) < (((sB.length : Nat) : Int) : Int)))), .yes (c := (decide ((((x.2.2.2.2.1 : Nat) : Int) : Int) < (((sB.length : Nat) : Int) : Int)))) (d := true) rfl (fun v w h => h), fun h w => optUndef h, fun zβ za zw zc => ?_⟩, ?_⟩
                    · exact fld_56_0 rfl ((show za.eval (.tmp 72) = za.tmps.getD 72 undef from rfl).trans (optVal (zc.dep 7 72 (by kernel_rfl)) rfl zβ)) ⟨_, rfl, Below.refl _ _, optDef zβ rfl⟩
                    refine ⟨⟨(true && (decide ((((x.2.2.2.2.1 : Nat) : Int) : Int) < (((sB.length : Nat) : Int) : Int)))), .yes (c := (decide ((((x.2.2.2.2.1 : Nat) : Int) : Int) < (((sB.length : Nat) : Int) : Int)))) (d := true) rfl (fun v w h => h), fun h w => optUndef h, fun zβ za zw zc => ?_⟩, ?_⟩
                    · exact ld_3 rfl ((show za.eval (.tmp 73) = za.tmps.getD 73 undef from rfl).trans (optVal (zc.dep 8 73 (by kernel_rfl)) rfl zβ)) (bkeeps (bstep hb55 zc.below) _ _ (hc45 x.2.2.2.2.1 (by first | omega | (have zz := zβ; simp only [Bool.and_eq_true, Bool.or_eq_true, Bool.true_and, Bool.not_eq_true', Bool.or_eq_false_iff, Bool.and_eq_false_iff, beq_eq_false_iff_ne, ne_eq, beq_iff_eq, decide_eq_true_eq, decide_eq_false_iff_not, bne_iff_ne] at zz; omega))).1) ⟨_, rfl, Below.refl _ _, optDef zβ rfl⟩
                    refine ⟨⟨(true && (decide ((((x.2.2.2.2.1 : Nat) : Int) : Int) < (((sB.length : Nat) : Int) : Int)))), .yes (c := (decide ((((x.2.2.2.2.1 : Nat) : Int) : Int) < (((sB.length : Nat) : Int) : Int)))) (d := true) rfl (fun v w h => h), fun h w => optUndef h, fun zβ za zw zc => ?_⟩, ?_⟩
                    · exact wp_move rfl (zc.kn.ev rfl) ⟨_, rfl, Below.refl _ _, optDef zβ rfl⟩
                    refine ⟨⟨(true && (decide ((((x.2.2.2.2.1 : Nat) : Int) : Int) < (((sB.length : Nat) : Int) : Int)))), .yes (c := (decide ((((x.2.2.2.2.1 : Nat) : Int) : Int) < (((sB.length : Nat) : Int) : Int)))) (d := true) rfl (fun v w h => h), fun h w => optUndef h, fun zβ za zw zc => ?_⟩, ?_⟩
                    · exact wp_move rfl (zc.kn.ev rfl) ⟨_, rfl, Below.refl _ _, optDef zβ rfl⟩
                    refine ⟨⟨(true && (decide ((((x.2.2.2.2.1 : Nat) : Int) : Int) < (((sB.length : Nat) : Int) : Int)))), .yes (c := (decide ((((x.2.2.2.2.1 : Nat) : Int) : Int) < (((sB.length : Nat) : Int) : Int)))) (d := true) rfl (fun v w h => h), fun h w => optUndef h, fun zβ za zw zc => ?_⟩, ?_⟩
                    · exact ix_23 (k := x.2.2.2.1) rfl ((show za.eval (.tmp 75) = za.tmps.getD 75 undef from rfl).trans (optVal (zc.dep 10 75 (by kernel_rfl)) rfl zβ)) (ha38 x.2.2.2.1 (by first | omega | (have zz := zβ; simp only [Bool.and_eq_true, Bool.or_eq_true, Bool.true_and, Bool.not_eq_true', Bool.or_eq_false_iff, Bool.and_eq_false_iff, beq_eq_false_iff_ne, ne_eq, beq_iff_eq, decide_eq_true_eq, decide_eq_false_iff_not, bne_iff_ne] at zz; omega))) ((show za.eval (.tmp 76) = za.tmps.getD 76 undef from rfl).trans (optVal (zc.dep 11 76 (by kernel_rfl)) rfl zβ)) (by first | omega | (have zz := zβ; simp only [Bool.and_eq_true, Bool.or_eq_true, Bool.true_and, Bool.not_eq_true', Bool.or_eq_false_iff, Bool.and_eq_false_iff, beq_eq_false_iff_ne, ne_eq, beq_iff_eq, decide_eq_true_eq, decide_eq_false_iff_not, bne_iff_ne] at zz; omega)) ⟨_, rfl, Below.refl _ _, optDef zβ rfl⟩
                    refine ⟨⟨(true && (decide ((((x.2.2.2.2.1 : Nat) : Int) : Int) < (((sB.length : Nat) : Int) : Int)))), .yes (c := (decide ((((x.2.2.2.2.1 : Nat) : Int) : Int) < (((sB.length : Nat) : Int) : Int)))) (d := true) rfl (fun v w h => h), fun h w => optUndef h, fun zβ za zw zc => ?_⟩, ?_⟩
                    · exact fld_56_0 rfl ((show za.eval (.tmp 77) = za.tmps.getD 77 undef from rfl).trans (optVal (zc.dep 12 77 (by kernel_rfl)) rfl zβ)) ⟨_, rfl, Below.refl _ _, optDef zβ rfl⟩
                    refine ⟨⟨(true && (decide ((((x.2.2.2.2.1 : Nat) : Int) : Int) < (((sB.length : Nat) : Int) : Int)))), .yes (c := (decide ((((x.2.2.2.2.1 : Nat) : Int) : Int) < (((sB.length : Nat) : Int) : Int)))) (d := true) rfl (fun v w h => h), fun h w => optUndef h, fun zβ za zw zc => ?_⟩, ?_⟩
                    · exact ld_3 rfl ((show za.eval (.tmp 78) = za.tmps.getD 78 undef from rfl).trans (optVal (zc.dep 13 78 (by kernel_rfl)) rfl zβ)) (bkeeps (bstep hb55 zc.below) _ _ (hc39 x.2.2.2.1 (by first | omega | (have zz := zβ; simp only [Bool.and_eq_true, Bool.or_eq_true, Bool.true_and, Bool.not_eq_true', Bool.or_eq_false_iff, Bool.and_eq_false_iff, beq_eq_false_iff_ne, ne_eq, beq_iff_eq, decide_eq_true_eq, decide_eq_false_iff_not, bne_iff_ne] at zz; omega))).1) ⟨_, rfl, Below.refl _ _, optDef zβ rfl⟩
                    refine ⟨⟨(true && (decide ((((x.2.2.2.2.1 : Nat) : Int) : Int) < (((sB.length : Nat) : Int) : Int)))), .yes (c := (decide ((((x.2.2.2.2.1 : Nat) : Int) : Int) < (((sB.length : Nat) : Int) : Int)))) (d := true) rfl (fun v w h => h), fun h w => optUndef h, fun zβ za zw zc => ?_⟩, ?_⟩
                    · exact eql_3 rfl ((show za.eval (.tmp 74) = za.tmps.getD 74 undef from rfl).trans (optVal (zc.dep 9 74 (by kernel_rfl)) rfl zβ)) ((show za.eval (.tmp 79) = za.tmps.getD 79 undef from rfl).trans (optVal (zc.dep 14 79 (by kernel_rfl)) rfl zβ)) ⟨_, rfl, Below.refl _ _, optDef zβ rfl⟩
                    refine ⟨⟨true, .none rfl, fun h w => optUndef h, fun zβ za zw zc => ?_⟩, ?_⟩
                    · exact wp_and rfl ((show za.eval (.tmp 69) = za.tmps.getD 69 undef from rfl).trans (optVal (zc.dep 4 69 (by kernel_rfl)) rfl rfl)) (fun hp => ((show za.eval (.tmp 80) = za.tmps.getD 80 undef from rfl).trans (optVal (zc.dep 15 80 (by kernel_rfl)) rfl (bMk zβ hp)))) ⟨_, rfl, Below.refl _ _, optDef zβ rfl⟩
                    exact trivial
                  · intro za w61 zh hb62 zu
                    have zh := zh.cons (d := 81) (v := .bool (((decide ((((x.2.2.2.2.1 : Nat) : Int) : Int) < (((sB.length : Nat) : Int) : Int))) && (((dget sB x.2.2.2.2.1).var : Int) == ((dget sA x.2.2.2.1).var : Int))))) (optVal (zu 16 81 (by kernel_rfl)) rfl rfl)
                    clear zu
                    refine (show WE _ [(0, .slice pa sA.length ca), (1, .slice pb sB.length cb), (4, .slice none 0 0), (5, .int .i64 0), (6, .slice x.1 x.2.2.1 x.2.1), (7, .int .i64 (((x.2.2.2.1 : Nat) : Int))), (8, .int .i64 (((x.2.2.2.2.1 : Nat) : Int))), (9, .pointer (some ⟨g18, 0, none⟩)), (17, .bool ((((subCheck sB) : Int) != (0 : Int)))), (27, .bool (((decide ((((x.2.2.2.1 : Nat) : Int) : Int) < (((sA.length : Nat) : Int) : Int))) || (decide ((((x.2.2.2.2.1 : Nat) : Int) : Int) < (((sB.length : Nat) : Int) : Int)))))), (51, .bool (((decide ((((sB.length : Nat) : Int) : Int) ≤ (((x.2.2.2.2.1 : Nat) : Int) : Int))) || ((decide ((((x.2.2.2.1 : Nat) : Int) : Int) < (((sA.length : Nat) : Int) : Int))) && (decide (((dget sA x.2.2.2.1).var : Int) ≤ ((dget sB x.2.2.2.2.1).var : Int))))))), (81, .bool (((decide ((((x.2.2.2.2.1 : Nat) : Int) : Int) < (((sB.length : Nat) : Int) : Int))) && (((dget sB x.2.2.2.2.1).var : Int) == ((dget sA x.2.2.2.1).var : Int)))))] w61 _ .normal from ?_) za (zh.sub ⟨rfl, rfl, rfl, rfl, rfl, rfl, rfl, rfl, rfl, rfl, rfl, rfl, trivial⟩)
                    refine WE.next ?_
                    refine WC.cond rfl (fun h63 => ?_) (fun h63 => ?_)
                    · have h63 : ((((x.2.2.2.2.1 : Nat) : Int) : Int) < (((sB.length : Nat) : Int) : Int)) ∧ (((dget sB x.2.2.2.2.1).var : Int) = ((dget sA x.2.2.2.1).var : Int)) := by simpa using h63
                      refine WC.region ?_
                      refine WL.val (.int .i64 (((x.2.2.2.2.1 : Nat) : Int))) rfl rfl rfl (fun za zC zh zk => wp_move rfl (zh.ev rfl) zk) ?_
                      refine WL.val (.int .i64 ((((x.2.2.2.2.1 + 1) : Nat) : Int))) rfl rfl rfl (fun za zC zh zk => addb_3 rfl (zh.ev rfl) (zh.ev rfl) (wrap_eq (by omega) (by omega) (by omega)) zk) ?_
                      refine WL.val (.int .i64 ((((x.2.2.2.2.1 + 1) : Nat) : Int))) rfl rfl rfl (fun za zC zh zk => wp_assign rfl (zh.ev rfl) zk) ?_
                      refine WL.nil (WE.sub (K' := [(0, .slice pa sA.length ca), (1, .slice pb sB.length cb), (4, .slice none 0 0), (5, .int .i64 0), (6, .slice x.1 x.2.2.1 x.2.1), (7, .int .i64 (((x.2.2.2.1 : Nat) : Int))), (8, .int .i64 ((((x.2.2.2.2.1 + 1) : Nat) : Int))), (9, .pointer (some ⟨g18, 0, none⟩)), (17, .bool ((((subCheck sB) : Int) != (0 : Int)))), (27, .bool (((decide ((((x.2.2.2.1 : Nat) : Int) : Int) < (((sA.length : Nat) : Int) : Int))) || (decide ((((x.2.2.2.2.1 : Nat) : Int) : Int) < (((sB.length : Nat) : Int) : Int)))))), (51, .bool (((decide ((((sB.length : Nat) : Int) : Int) ≤ (((x.2.2.2.2.1 : Nat) : Int) : Int))) || ((decide ((((x.2.2.2.1 : Nat) : Int) : Int) < (((sA.length : Nat) : Int) : Int))) && (decide (((dget sA x.2.2.2.1).var : Int) ≤ ((dget sB x.2.2.2.2.1).var : Int))))))), (81, .bool (((decide ((((x.2.2.2.2.1 : Nat) : Int) : Int) < (((sB.length : Nat) : Int) : Int))) && (((dget sB x.2.2.2.2.1).var : Int) == ((dget sA x.2.2.2.1).var : Int)))))]) ⟨rfl, rfl, rfl, rfl, rfl, rfl, rfl, rfl, rfl, rfl, rfl, rfl, trivial⟩ ?_)
                      refine WE.next ?_
                      refine WC.region ?_
                      refine WL.val (.int .i64 (((x.2.2.2.1 : Nat) : Int))) rfl rfl rfl (fun za zC zh zk => wp_move rfl (zh.ev rfl) zk) ?_
                      refine WL.val (.int .i64 ((((x.2.2.2.1 + 1) : Nat) : Int))) rfl rfl rfl (fun za zC zh zk => addb_3 rfl (zh.ev rfl) (zh.ev rfl) (wrap_eq (by omega) (by omega) (by omega)) zk) ?_
                      refine WL.val (.int .i64 ((((x.2.2.2.1 + 1) : Nat) : Int))) rfl rfl rfl (fun za zC zh zk => wp_assign rfl (zh.ev rfl) zk) ?_
                      refine WL.nil (WE.sub (K' := [(0, .slice pa sA.length ca), (1, .slice pb sB.length cb), (4, .slice none 0 0), (5, .int .i64 0), (6, .slice x.1 x.2.2.1 x.2.1), (7, .int .i64 ((((x.2.2.2.1 + 1) : Nat) : Int))), (8, .int .i64 ((((x.2.2.2.2.1 + 1) : Nat) : Int))), (9, .pointer (some ⟨g18, 0, none⟩)), (17, .bool ((((subCheck sB) : Int) != (0 : Int)))), (27, .bool (((decide ((((x.2.2.2.1 : Nat) : Int) : Int) < (((sA.length : Nat) : Int) : Int))) || (decide ((((x.2.2.2.2.1 : Nat) : Int) : Int) < (((sB.length : Nat) : Int) : Int)))))), (51, .bool (((decide ((((sB.length : Nat) : Int) : Int) ≤ (((x.2.2.2.2.1 : Nat) : Int) : Int))) || ((decide ((((x.2.2.2.1 : Nat) : Int) : Int) < (((sA.length : Nat) : Int) : Int))) && (decide (((dget sA x.2.2.2.1).var : Int) ≤ ((dget sB x.2.2.2.2.1).var : Int))))))), (81, .bool (((decide ((((x.2.2.2.2.1 : Nat) : Int) : Int) < (((sB.length : Nat) : Int) : Int))) && (((dget sB x.2.2.2.2.1).var : Int) == ((dget sA x.2.2.2.1).var : Int)))))]) ⟨rfl, rfl, rfl, rfl, rfl, rfl, rfl, rfl, rfl, rfl, rfl, rfl, trivial⟩ ?_)
                      refine WE.next ?_
                      refine WC.seq ?_
                      refine WC.region ?_
                      refine WL.val (.pointer (some ⟨g18, 1, none⟩)) rfl rfl rfl (fun za zC zh zk => fld_56_1 rfl (zh.ev rfl) zk) ?_
                      have hB64 := hB59.below hb62
                      refine WL.val (.agg #[.int .i64 (((dget sA x.2.2.2.1).ap sB).t.f), .slice a57 (((dget sA x.2.2.2.1).ap sB).t.args.length) c58]) rfl rfl rfl (fun za zC zh zk => ld_32 rfl (zh.ev rfl) ((hB64.cell 1).trans rfl) ((hB64.cell 2).trans rfl) zk) ?_
                      refine WL.val (.pointer (some ⟨g18, 0, none⟩)) rfl rfl rfl (fun za zC zh zk => fld_56_0 rfl (zh.ev rfl) zk) ?_
                      refine WL.val (.int .i64 (((dget sA x.2.2.2.1).ap sB).var)) rfl rfl rfl (fun za zC zh zk => ld_3 rfl (zh.ev rfl) ((hB64.cell 0).trans rfl) zk) ?_
                      refine WL.call rfl rfl rfl (fun za zh zC => wp_call (by kernel_rfl) rfl (hv2 (zh.ev rfl) (zh.ev rfl))) (ritself_any ((dget sA x.2.2.2.1).ap sB) _ _ hi64 (IsT.below hb62 (InT.isT hT60))) ?_
                      rintro _ w66 ⟨rfl, hbi65⟩
                      refine WL.val (.bool ((!((dget sA x.2.2.2.1).ap sB).itself))) rfl rfl rfl (fun za zC zh zk => wp_not rfl (zh.ev rfl) zk) ?_
                      refine WL.nil (WE.sub (K' := [(0, .slice pa sA.length ca), (1, .slice pb sB.length cb), (4, .slice none 0 0), (5, .int .i64 0), (6, .slice x.1 x.2.2.1 x.2.1), (7, .int .i64 ((((x.2.2.2.1 + 1) : Nat) : Int))), (8, .int .i64 ((((x.2.2.2.2.1 + 1) : Nat) : Int))), (9, .pointer (some ⟨g18, 0, none⟩)), (17, .bool ((((subCheck sB) : Int) != (0 : Int)))), (27, .bool (((decide ((((x.2.2.2.1 : Nat) : Int) : Int) < (((sA.length : Nat) : Int) : Int))) || (decide ((((x.2.2.2.2.1 : Nat) : Int) : Int) < (((sB.length : Nat) : Int) : Int)))))), (51, .bool (((decide ((((sB.length : Nat) : Int) : Int) ≤ (((x.2.2.2.2.1 : Nat) : Int) : Int))) || ((decide ((((x.2.2.2.1 : Nat) : Int) : Int) < (((sA.length : Nat) : Int) : Int))) && (decide (((dget sA x.2.2.2.1).var : Int) ≤ ((dget sB x.2.2.2.2.1).var : Int))))))), (81, .bool (((decide ((((x.2.2.2.2.1 : Nat) : Int) : Int) < (((sB.length : Nat) : Int) : Int))) && (((dget sB x.2.2.2.2.1).var : Int) == ((dget sA x.2.2.2.1).var : Int))))), (105, .bool ((!((dget sA x.2.2.2.1).ap sB).itself)))]) ⟨rfl, rfl, rfl, rfl, rfl, rfl, rfl, rfl, rfl, rfl, rfl, rfl, rfl, trivial⟩ ?_)
                      refine WE.next ?_
                      refine WC.cond rfl (fun h67 => ?_) (fun h67 => ?_)
                      · have h67 : ¬ (((dget sA x.2.2.2.1).ap sB).itself = true) := by simpa using h67
                        refine WC.region ?_
                        refine WL.val (.slice x.1 x.2.2.1 x.2.1) rfl rfl rfl (fun za zC zh zk => wp_move rfl (zh.ev rfl) zk) ?_
                        have hB68 := hB64.below hbi65
                        refine WL.val (.agg #[.int .i64 (((dget sA x.2.2.2.1).ap sB).var), .int .i64 (((dget sA x.2.2.2.1).ap sB).t.f), .slice a57 (((dget sA x.2.2.2.1).ap sB).t.args.length) c58]) rfl rfl rfl (fun za zC zh zk => ld_56 rfl (zh.ev rfl) ((hB68.cell 0).trans rfl) ((hB68.cell 1).trans rfl) ((hB68.cell 2).trans rfl) zk) ?_
                        refine WL.step (post := NewRow w66 56 #[.int .i64 (((dget sA x.2.2.2.1).ap sB).var), .int .i64 (((dget sA x.2.2.2.1).ap sB).t.f), .slice a57 (((dget sA x.2.2.2.1).ap sB).t.args.length) c58] 1) rfl rfl rfl (fun za zC zh zk => row_23_1 rfl (zh.ev rfl) (zk _ _ (newRow _ _ _ _))) ?_
                        rintro _ w69 ⟨g70, rfl, hg71, hB72, hb73, hz74⟩
                        have hl75 : g18 < g70 := by have z1 := hB68.lt; omega
                        have hb76 : Below w.heap.size w w66 := (bstep (bstep hb55 hb62) hbi65)
                        have hl77 : w.heap.size ≤ g70 := by have z2 := (hb76).size; omega
                        have hb78 : Below w11.heap.size w11 w66 := (bstep (bstep hb56 hb62) hbi65)
                        have hl79 : w11.heap.size ≤ g70 := by have z2 := (hb78).size; omega
                        have hSlo : ∀ b, (Value.slice x.1 x.2.2.1 x.2.1).ownBlock = some b → w5.heap.size ≤ b ∧ b < w11.heap.size := fun b h => ho13.lt b h
                        have hb81 : Below w11.heap.size w11 w69 := (bstep hb78 hb73)
                        have ho80 := ho13.below hb81
                        have hWB : w5.heap.size ≤ w11.heap.size := by have z1 := hBw; omega
                        have hW2 : w11.heap.size ≤ w46.heap.size := hb54.size
                        have hW3 : w11.heap.size ≤ w69.heap.size := hb81.size
                        have hb87 : Below w51.heap.size w51 w69 := (bstep (bstep hb62 hbi65) hb73)
                        refine WL.step (post := fun v w' => ∃ ra rc, v = .slice ra (x.2.2.1 + 1) rc ∧ RowE eltB w' w5.heap.size 56 ra rc (x.2.2.1 + 1) (x.2.2.2.2.2 ++ [((dget sA x.2.2.2.1).ap sB)]) ∧ Chg (fun b => (Value.slice x.1 x.2.2.1 x.2.1).ownBlock = some b) w69 w') rfl rfl rfl (fun za zC zh zk => wp_appE (E := eltB) (size := 3) (bytes := 40) (z := .agg #[.int .i64 0, .int .i64 0, .slice none 0 0]) (cs := [.int .i64 (((dget sA x.2.2.2.1).ap sB).var), .int .i64 (((dget sA x.2.2.2.1).ap sB).t.f), .slice a57 (((dget sA x.2.2.2.1).ap sB).t.args.length) c58]) rfl Try.underlying23 (by kernel_rfl) rfl (by decide) rfl (zh.ev rfl) (zh.ev rfl) ho80 hB72 ⟨_, _, rfl, hi64, InT.mono (fun b hb _ => ⟨by omega, fun e => by have z := (hSlo b e).2; omega⟩) (InT.below hb87 hT60)⟩ (by omega) (by omega) (by omega) (fun ra rc w' h1 h2 _ => zk _ _ ⟨ra, rc, rfl, h1, h2⟩)) ?_
                        rintro _ w82 ⟨ra83, rc84, rfl, hr85, hc86⟩
                        have hb88 : Below w.heap.size w w69 := (bstep hb12 hb81)
                        have hB89 := hB68.below hb73
                        have hb90 := chg_below hb88 hc86 (fun b hb => (fun h => by have h := hSlo _ h; (try dsimp only at *); omega))
                        have hB91 := chg_blk hB89 hc86 (fun h => by have h := hSlo _ h; (try dsimp only at *); omega)
                        have hB92 := chg_blk hB72 hc86 (fun h => by have h := hSlo _ h; (try dsimp only at *); omega)
                        refine WL.val (.slice ra83 ((x.2.2.1 + 1)) rc84) rfl rfl rfl (fun za zC zh zk => wp_assign rfl (zh.ev rfl) zk) ?_
                        refine WL.nil (WE.sub (K' := [(0, .slice pa sA.length ca), (1, .slice pb sB.length cb), (4, .slice none 0 0), (5, .int .i64 0), (6, .slice ra83 ((x.2.2.1 + 1)) rc84), (7, .int .i64 ((((x.2.2.2.1 + 1) : Nat) : Int))), (8, .int .i64 ((((x.2.2.2.2.1 + 1) : Nat) : Int))), (9, .pointer (some ⟨g18, 0, none⟩)), (17, .bool ((((subCheck sB) : Int) != (0 : Int)))), (27, .bool (((decide ((((x.2.2.2.1 : Nat) : Int) : Int) < (((sA.length : Nat) : Int) : Int))) || (decide ((((x.2.2.2.2.1 : Nat) : Int) : Int) < (((sB.length : Nat) : Int) : Int)))))), (51, .bool (((decide ((((sB.length : Nat) : Int) : Int) ≤ (((x.2.2.2.2.1 : Nat) : Int) : Int))) || ((decide ((((x.2.2.2.1 : Nat) : Int) : Int) < (((sA.length : Nat) : Int) : Int))) && (decide (((dget sA x.2.2.2.1).var : Int) ≤ ((dget sB x.2.2.2.2.1).var : Int))))))), (81, .bool (((decide ((((x.2.2.2.2.1 : Nat) : Int) : Int) < (((sB.length : Nat) : Int) : Int))) && (((dget sB x.2.2.2.2.1).var : Int) == ((dget sA x.2.2.2.1).var : Int))))), (105, .bool ((!((dget sA x.2.2.2.1).ap sB).itself)))]) ⟨rfl, rfl, rfl, rfl, rfl, rfl, rfl, rfl, rfl, rfl, rfl, rfl, rfl, trivial⟩ ?_)
                        refine WE.blockNormal ?_
                        refine WE.round ((ra83, rc84, (x.2.2.1 + 1), (x.2.2.2.1 + 1), (x.2.2.2.2.1 + 1), (x.2.2.2.2.2 ++ [((dget sA x.2.2.2.1).ap sB)]))) ⟨rfl, rfl, rfl, rfl, rfl, rfl, rfl, rfl, trivial⟩ ?_ ?_
                        · exact ⟨(Nat.le_trans (Nat.le_trans hBw hb81.size) hc86.size), by rw [← addB_no (show ((dget sA x.2.2.2.1).ap sB).itself = false by simpa using h67)]; exact hM.stepE sA' sB' (by omega) (by omega) (by omega), hb90, hr85⟩
                        · dsimp only; omega
                      · have h67 : ¬ (¬ (((dget sA x.2.2.2.1).ap sB).itself = true)) := by simpa using h67
                        refine WC.skip ?_
                        refine WE.blockNormal ?_
                        refine WE.round ((x.1, x.2.1, x.2.2.1, (x.2.2.2.1 + 1), (x.2.2.2.2.1 + 1), x.2.2.2.2.2)) ⟨rfl, rfl, rfl, rfl, rfl, rfl, rfl, rfl, trivial⟩ ?_ ?_
                        · have hb93 : Below w.heap.size w w66 := (bstep (bstep hb55 hb62) hbi65)
                          have hb95 : Below w11.heap.size w11 w66 := (bstep (bstep hb56 hb62) hbi65)
                          have ho94 := ho13.below hb95
                          exact ⟨(Nat.le_trans (Nat.le_trans (Nat.le_trans hBw hb56.size) hb62.size) hbi65.size), by have z := hM.stepE sA' sB' (by omega) (by omega) (by omega); rwa [addB_yes (show ((dget sA x.2.2.2.1).ap sB).itself = true by simpa using h67)] at z, hb93, ho94⟩
                        · dsimp only; omega
                    · have h63 : ¬ (((((x.2.2.2.2.1 : Nat) : Int) : Int) < (((sB.length : Nat) : Int) : Int)) ∧ (((dget sB x.2.2.2.2.1).var : Int) = ((dget sA x.2.2.2.1).var : Int))) := by simpa using h63
                      refine WC.skip ?_
                      refine WE.next ?_
                      refine WC.region ?_
                      refine WL.val (.int .i64 (((x.2.2.2.1 : Nat) : Int))) rfl rfl rfl (fun za zC zh zk => wp_move rfl (zh.ev rfl) zk) ?_
                      refine WL.val (.int .i64 ((((x.2.2.2.1 + 1) : Nat) : Int))) rfl rfl rfl (fun za zC zh zk => addb_3 rfl (zh.ev rfl) (zh.ev rfl) (wrap_eq (by omega) (by omega) (by omega)) zk) ?_
                      refine WL.val (.int .i64 ((((x.2.2.2.1 + 1) : Nat) : Int))) rfl rfl rfl (fun za zC zh zk => wp_assign rfl (zh.ev rfl) zk) ?_
                      refine WL.nil (WE.sub (K' := [(0, .slice pa sA.length ca), (1, .slice pb sB.length cb), (4, .slice none 0 0), (5, .int .i64 0), (6, .slice x.1 x.2.2.1 x.2.1), (7, .int .i64 ((((x.2.2.2.1 + 1) : Nat) : Int))), (8, .int .i64 (((x.2.2.2.2.1 : Nat) : Int))), (9, .pointer (some ⟨g18, 0, none⟩)), (17, .bool ((((subCheck sB) : Int) != (0 : Int)))), (27, .bool (((decide ((((x.2.2.2.1 : Nat) : Int) : Int) < (((sA.length : Nat) : Int) : Int))) || (decide ((((x.2.2.2.2.1 : Nat) : Int) : Int) < (((sB.length : Nat) : Int) : Int)))))), (51, .bool (((decide ((((sB.length : Nat) : Int) : Int) ≤ (((x.2.2.2.2.1 : Nat) : Int) : Int))) || ((decide ((((x.2.2.2.1 : Nat) : Int) : Int) < (((sA.length : Nat) : Int) : Int))) && (decide (((dget sA x.2.2.2.1).var : Int) ≤ ((dget sB x.2.2.2.2.1).var : Int))))))), (81, .bool (((decide ((((x.2.2.2.2.1 : Nat) : Int) : Int) < (((sB.length : Nat) : Int) : Int))) && (((dget sB x.2.2.2.2.1).var : Int) == ((dget sA x.2.2.2.1).var : Int)))))]) ⟨rfl, rfl, rfl, rfl, rfl, rfl, rfl, rfl, rfl, rfl, rfl, rfl, trivial⟩ ?_)
                      refine WE.next ?_
                      refine WC.seq ?_
                      refine WC.region ?_
                      refine WL.val (.pointer (some ⟨g18, 1, none⟩)) rfl rfl rfl (fun za zC zh zk => fld_56_1 rfl (zh.ev rfl) zk) ?_
                      have hB96 := hB59.below hb62
                      refine WL.val (.agg #[.int .i64 (((dget sA x.2.2.2.1).ap sB).t.f), .slice a57 (((dget sA x.2.2.2.1).ap sB).t.args.length) c58]) rfl rfl rfl (fun za zC zh zk => ld_32 rfl (zh.ev rfl) ((hB96.cell 1).trans rfl) ((hB96.cell 2).trans rfl) zk) ?_
                      refine WL.val (.pointer (some ⟨g18, 0, none⟩)) rfl rfl rfl (fun za zC zh zk => fld_56_0 rfl (zh.ev rfl) zk) ?_
                      refine WL.val (.int .i64 (((dget sA x.2.2.2.1).ap sB).var)) rfl rfl rfl (fun za zC zh zk => ld_3 rfl (zh.ev rfl) ((hB96.cell 0).trans rfl) zk) ?_
                      refine WL.call rfl rfl rfl (fun za zh zC => wp_call (by kernel_rfl) rfl (hv2 (zh.ev rfl) (zh.ev rfl))) (ritself_any ((dget sA x.2.2.2.1).ap sB) _ _ hi64 (IsT.below hb62 (InT.isT hT60))) ?_
                      rintro _ w98 ⟨rfl, hbi97⟩
                      refine WL.val (.bool ((!((dget sA x.2.2.2.1).ap sB).itself))) rfl rfl rfl (fun za zC zh zk => wp_not rfl (zh.ev rfl) zk) ?_
                      refine WL.nil (WE.sub (K' := [(0, .slice pa sA.length ca), (1, .slice pb sB.length cb), (4, .slice none 0 0), (5, .int .i64 0), (6, .slice x.1 x.2.2.1 x.2.1), (7, .int .i64 ((((x.2.2.2.1 + 1) : Nat) : Int))), (8, .int .i64 (((x.2.2.2.2.1 : Nat) : Int))), (9, .pointer (some ⟨g18, 0, none⟩)), (17, .bool ((((subCheck sB) : Int) != (0 : Int)))), (27, .bool (((decide ((((x.2.2.2.1 : Nat) : Int) : Int) < (((sA.length : Nat) : Int) : Int))) || (decide ((((x.2.2.2.2.1 : Nat) : Int) : Int) < (((sB.length : Nat) : Int) : Int)))))), (51, .bool (((decide ((((sB.length : Nat) : Int) : Int) ≤ (((x.2.2.2.2.1 : Nat) : Int) : Int))) || ((decide ((((x.2.2.2.1 : Nat) : Int) : Int) < (((sA.length : Nat) : Int) : Int))) && (decide (((dget sA x.2.2.2.1).var : Int) ≤ ((dget sB x.2.2.2.2.1).var : Int))))))), (81, .bool (((decide ((((x.2.2.2.2.1 : Nat) : Int) : Int) < (((sB.length : Nat) : Int) : Int))) && (((dget sB x.2.2.2.2.1).var : Int) == ((dget sA x.2.2.2.1).var : Int))))), (105, .bool ((!((dget sA x.2.2.2.1).ap sB).itself)))]) ⟨rfl, rfl, rfl, rfl, rfl, rfl, rfl, rfl, rfl, rfl, rfl, rfl, rfl, trivial⟩ ?_)
                      refine WE.next ?_
                      refine WC.cond rfl (fun h99 => ?_) (fun h99 => ?_)
                      · have h99 : ¬ (((dget sA x.2.2.2.1).ap sB).itself = true) := by simpa using h99
                        refine WC.region ?_
                        refine WL.val (.slice x.1 x.2.2.1 x.2.1) rfl rfl rfl (fun za zC zh zk => wp_move rfl (zh.ev rfl) zk) ?_
                        have hB100 := hB96.below hbi97
                        refine WL.val (.agg #[.int .i64 (((dget sA x.2.2.2.1).ap sB).var), .int .i64 (((dget sA x.2.2.2.1).ap sB).t.f), .slice a57 (((dget sA x.2.2.2.1).ap sB).t.args.length) c58]) rfl rfl rfl (fun za zC zh zk => ld_56 rfl (zh.ev rfl) ((hB100.cell 0).trans rfl) ((hB100.cell 1).trans rfl) ((hB100.cell 2).trans rfl) zk) ?_
                        refine WL.step (post := NewRow w98 56 #[.int .i64 (((dget sA x.2.2.2.1).ap sB).var), .int .i64 (((dget sA x.2.2.2.1).ap sB).t.f), .slice a57 (((dget sA x.2.2.2.1).ap sB).t.args.length) c58] 1) rfl rfl rfl (fun za zC zh zk => row_23_1 rfl (zh.ev rfl) (zk _ _ (newRow _ _ _ _))) ?_
                        rintro _ w101 ⟨g102, rfl, hg103, hB104, hb105, hz106⟩
                        have hl107 : g18 < g102 := by have z1 := hB100.lt; omega
                        have hb108 : Below w.heap.size w w98 := (bstep (bstep hb55 hb62) hbi97)
                        have hl109 : w.heap.size ≤ g102 := by have z2 := (hb108).size; omega
                        have hb110 : Below w11.heap.size w11 w98 := (bstep (bstep hb56 hb62) hbi97)
                        have hl111 : w11.heap.size ≤ g102 := by have z2 := (hb110).size; omega
                        have hSlo : ∀ b, (Value.slice x.1 x.2.2.1 x.2.1).ownBlock = some b → w5.heap.size ≤ b ∧ b < w11.heap.size := fun b h => ho13.lt b h
                        have hb113 : Below w11.heap.size w11 w101 := (bstep hb110 hb105)
                        have ho112 := ho13.below hb113
                        have hWB : w5.heap.size ≤ w11.heap.size := by have z1 := hBw; omega
                        have hW2 : w11.heap.size ≤ w46.heap.size := hb54.size
                        have hW3 : w11.heap.size ≤ w101.heap.size := hb113.size
                        have hb119 : Below w51.heap.size w51 w101 := (bstep (bstep hb62 hbi97) hb105)
                        refine WL.step (post := fun v w' => ∃ ra rc, v = .slice ra (x.2.2.1 + 1) rc ∧ RowE eltB w' w5.heap.size 56 ra rc (x.2.2.1 + 1) (x.2.2.2.2.2 ++ [((dget sA x.2.2.2.1).ap sB)]) ∧ Chg (fun b => (Value.slice x.1 x.2.2.1 x.2.1).ownBlock = some b) w101 w') rfl rfl rfl (fun za zC zh zk => wp_appE (E := eltB) (size := 3) (bytes := 40) (z := .agg #[.int .i64 0, .int .i64 0, .slice none 0 0]) (cs := [.int .i64 (((dget sA x.2.2.2.1).ap sB).var), .int .i64 (((dget sA x.2.2.2.1).ap sB).t.f), .slice a57 (((dget sA x.2.2.2.1).ap sB).t.args.length) c58]) rfl Try.underlying23 (by kernel_rfl) rfl (by decide) rfl (zh.ev rfl) (zh.ev rfl) ho112 hB104 ⟨_, _, rfl, hi64, InT.mono (fun b hb _ => ⟨by omega, fun e => by have z := (hSlo b e).2; omega⟩) (InT.below hb119 hT60)⟩ (by omega) (by omega) (by omega) (fun ra rc w' h1 h2 _ => zk _ _ ⟨ra, rc, rfl, h1, h2⟩)) ?_
                        rintro _ w114 ⟨ra115, rc116, rfl, hr117, hc118⟩
                        have hb120 : Below w.heap.size w w101 := (bstep hb12 hb113)
                        have hB121 := hB100.below hb105
                        have hb122 := chg_below hb120 hc118 (fun b hb => (fun h => by have h := hSlo _ h; (try dsimp only at *); omega))
                        have hB123 := chg_blk hB121 hc118 (fun h => by have h := hSlo _ h; (try dsimp only at *); omega)
                        have hB124 := chg_blk hB104 hc118 (fun h => by have h := hSlo _ h; (try dsimp only at *); omega)
                        refine WL.val (.slice ra115 ((x.2.2.1 + 1)) rc116) rfl rfl rfl (fun za zC zh zk => wp_assign rfl (zh.ev rfl) zk) ?_
                        refine WL.nil (WE.sub (K' := [(0, .slice pa sA.length ca), (1, .slice pb sB.length cb), (4, .slice none 0 0), (5, .int .i64 0), (6, .slice ra115 ((x.2.2.1 + 1)) rc116), (7, .int .i64 ((((x.2.2.2.1 + 1) : Nat) : Int))), (8, .int .i64 (((x.2.2.2.2.1 : Nat) : Int))), (9, .pointer (some ⟨g18, 0, none⟩)), (17, .bool ((((subCheck sB) : Int) != (0 : Int)))), (27, .bool (((decide ((((x.2.2.2.1 : Nat) : Int) : Int) < (((sA.length : Nat) : Int) : Int))) || (decide ((((x.2.2.2.2.1 : Nat) : Int) : Int) < (((sB.length : Nat) : Int) : Int)))))), (51, .bool (((decide ((((sB.length : Nat) : Int) : Int) ≤ (((x.2.2.2.2.1 : Nat) : Int) : Int))) || ((decide ((((x.2.2.2.1 : Nat) : Int) : Int) < (((sA.length : Nat) : Int) : Int))) && (decide (((dget sA x.2.2.2.1).var : Int) ≤ ((dget sB x.2.2.2.2.1).var : Int))))))), (81, .bool (((decide ((((x.2.2.2.2.1 : Nat) : Int) : Int) < (((sB.length : Nat) : Int) : Int))) && (((dget sB x.2.2.2.2.1).var : Int) == ((dget sA x.2.2.2.1).var : Int))))), (105, .bool ((!((dget sA x.2.2.2.1).ap sB).itself)))]) ⟨rfl, rfl, rfl, rfl, rfl, rfl, rfl, rfl, rfl, rfl, rfl, rfl, rfl, trivial⟩ ?_)
                        refine WE.blockNormal ?_
                        refine WE.round ((ra115, rc116, (x.2.2.1 + 1), (x.2.2.2.1 + 1), x.2.2.2.2.1, (x.2.2.2.2.2 ++ [((dget sA x.2.2.2.1).ap sB)]))) ⟨rfl, rfl, rfl, rfl, rfl, rfl, rfl, rfl, trivial⟩ ?_ ?_
                        · exact ⟨(Nat.le_trans (Nat.le_trans hBw hb113.size) hc118.size), by rw [← addB_no (show ((dget sA x.2.2.2.1).ap sB).itself = false by simpa using h99)]; exact hM.stepA sA' sB' (by omega) (fun hj => by omega), hb122, hr117⟩
                        · dsimp only; omega
                      · have h99 : ¬ (¬ (((dget sA x.2.2.2.1).ap sB).itself = true)) := by simpa using h99
                        refine WC.skip ?_
                        refine WE.blockNormal ?_
                        refine WE.round ((x.1, x.2.1, x.2.2.1, (x.2.2.2.1 + 1), x.2.2.2.2.1, x.2.2.2.2.2)) ⟨rfl, rfl, rfl, rfl, rfl, rfl, rfl, rfl, trivial⟩ ?_ ?_
                        · have hb125 : Below w.heap.size w w98 := (bstep (bstep hb55 hb62) hbi97)
                          have hb127 : Below w11.heap.size w11 w98 := (bstep (bstep hb56 hb62) hbi97)
                          have ho126 := ho13.below hb127
                          exact ⟨(Nat.le_trans (Nat.le_trans (Nat.le_trans hBw hb56.size) hb62.size) hbi97.size), by have z := hM.stepA sA' sB' (by omega) (fun hj => by omega); rwa [addB_yes (show ((dget sA x.2.2.2.1).ap sB).itself = true by simpa using h99)] at z, hb125, ho126⟩
                        · dsimp only; omega
              · have h48 : ¬ (((((sB.length : Nat) : Int) : Int) ≤ (((x.2.2.2.2.1 : Nat) : Int) : Int)) ∨ (((((x.2.2.2.1 : Nat) : Int) : Int) < (((sA.length : Nat) : Int) : Int)) ∧ (((dget sA x.2.2.2.1).var : Int) ≤ ((dget sB x.2.2.2.2.1).var : Int)))) := by simpa using h48
                refine WC.seq ?_
                have hB128 := hB28.below hb47
                have hb129 : Below w.heap.size w w46 := (bstep hb32 hb47)
                have hi64 := (hc45 x.2.2.2.2.1 (by first | omega | (simp; omega))).2.2.2.2
                have hSlt : ∀ b, (fun b => b = g18) b → b < w46.heap.size := fun b e => e ▸ hB128.lt
                have hgl : g18 < w46.heap.size := hB128.lt
                refine WC.tail1 (S := ((fun b => b = g18))) [(true, .val (.slice pb sB.length cb)), (true, .val (.int .i64 (((x.2.2.2.2.1 : Nat) : Int)))), (true, .val (.pointer (some ⟨b40, o41 + x.2.2.2.2.1 * 3, none⟩))), (true, .val (.pointer (some ⟨b40, o41 + x.2.2.2.2.1 * 3, none⟩))), (true, .val (.int .i64 ((dget sB x.2.2.2.2.1).var))), (true, .val (.slice pb sB.length cb)), (true, .val (.int .i64 (((x.2.2.2.2.1 : Nat) : Int)))), (true, .val (.pointer (some ⟨b40, o41 + x.2.2.2.2.1 * 3, none⟩))), (true, .val (.pointer (some ⟨b40, o41 + x.2.2.2.2.1 * 3 + 1, none⟩))), (true, .val (.agg #[.int .i64 ((dget sB x.2.2.2.2.1).t.f), .slice ((A42 x.2.2.2.2.1)) ((dget sB x.2.2.2.2.1).t.args.length) ((C43 x.2.2.2.2.1))])), (true, .mem (fun v w' => NewT w46 w' ((dget sB x.2.2.2.2.1).t) v) (fun v w w' hc h => InT.chg h hc (fun b hb hs => by have z := hSlt b hs; omega))), (true, .mem (fun v w' => ∃ a c, v = .agg #[.int .i64 (dget sB x.2.2.2.2.1).var, .int .i64 (dget sB x.2.2.2.2.1).t.f, .slice a (dget sB x.2.2.2.2.1).t.args.length c] ∧ I64 (dget sB x.2.2.2.2.1).var ∧ InT (fun b => w46.heap.size ≤ b) w' (dget sB x.2.2.2.2.1).t (.agg #[.int .i64 (dget sB x.2.2.2.2.1).t.f, .slice a (dget sB x.2.2.2.2.1).t.args.length c])) (fun v w w' hc h => (by obtain ⟨a, c, h1, h0, h2⟩ := h; exact ⟨a, c, h1, h0, InT.chg h2 hc (fun b hb hs => by have z := hSlt b hs; omega)⟩))), (true, .val undef)] [(0, .slice pa sA.length ca), (1, .slice pb sB.length cb), (4, .slice none 0 0), (5, .int .i64 0), (6, .slice x.1 x.2.2.1 x.2.1), (7, .int .i64 (((x.2.2.2.1 : Nat) : Int))), (8, .int .i64 (((x.2.2.2.2.1 : Nat) : Int))), (9, .pointer (some ⟨g18, 0, none⟩)), (17, .bool ((((subCheck sB) : Int) != (0 : Int)))), (27, .bool (((decide ((((x.2.2.2.1 : Nat) : Int) : Int) < (((sA.length : Nat) : Int) : Int))) || (decide ((((x.2.2.2.2.1 : Nat) : Int) : Int) < (((sB.length : Nat) : Int) : Int)))))), (51, .bool (((decide ((((sB.length : Nat) : Int) : Int) ≤ (((x.2.2.2.2.1 : Nat) : Int) : Int))) || ((decide ((((x.2.2.2.1 : Nat) : Int) : Int) < (((sA.length : Nat) : Int) : Int))) && (decide (((dget sA x.2.2.2.1).var : Int) ≤ ((dget sB x.2.2.2.2.1).var : Int)))))))] 12 (fun w => ∃ a c, Blk w g18 56 #[.int .i64 (dget sB x.2.2.2.2.1).var, .int .i64 (dget sB x.2.2.2.2.1).t.f, .slice a (dget sB x.2.2.2.2.1).t.args.length c] ∧ InT (fun b => w46.heap.size ≤ b) w (dget sB x.2.2.2.2.1).t (.agg #[.int .i64 (dget sB x.2.2.2.2.1).t.f, .slice a (dget sB x.2.2.2.2.1).t.args.length c])) (fun w w' hb h => (by obtain ⟨a, c, h1, h2⟩ := h; exact ⟨a, c, h1.below hb, InT.below hb h2⟩)) ⟨rfl, rfl, rfl, rfl, rfl, rfl, rfl, rfl, rfl, rfl, rfl, trivial⟩ (by kernel_rfl) (by kernel_rfl) (by kernel_rfl) (by kernel_rfl) ?_ ?_
                · refine ⟨.inl ⟨rfl, true, .none rfl, (fun gg b h => by cases h), fun h w => optUndef h, fun zβ za zw zc => ?_⟩, ?_⟩
                  · exact wp_move rfl (zc.kn.ev rfl) ⟨_, rfl, Below.refl _ _, optDef zβ rfl⟩
                  refine ⟨.inl ⟨rfl, true, .none rfl, (fun gg b h => by cases h), fun h w => optUndef h, fun zβ za zw zc => ?_⟩, ?_⟩
                  · exact wp_move rfl (zc.kn.ev rfl) ⟨_, rfl, Below.refl _ _, optDef zβ rfl⟩
                  refine ⟨.inl ⟨rfl, true, .none rfl, (fun gg b h => by cases h), fun h w => optUndef h, fun zβ za zw zc => ?_⟩, ?_⟩
                  · exact ix_23 (k := x.2.2.2.2.1) rfl ((show za.eval (.tmp 86) = za.tmps.getD 86 undef from rfl).trans (optSVal (zc.dep 0 86 (by kernel_rfl) (by decide)) rfl rfl)) (ha44 x.2.2.2.2.1 (by first | omega | (simp; omega))) ((show za.eval (.tmp 87) = za.tmps.getD 87 undef from rfl).trans (optSVal (zc.dep 1 87 (by kernel_rfl) (by decide)) rfl rfl)) (by first | omega | (simp; omega)) ⟨_, rfl, Below.refl _ _, optDef zβ rfl⟩
                  refine ⟨.inl ⟨rfl, true, .none rfl, (fun gg b h => by cases h), fun h w => optUndef h, fun zβ za zw zc => ?_⟩, ?_⟩
                  · exact fld_56_0 rfl ((show za.eval (.tmp 88) = za.tmps.getD 88 undef from rfl).trans (optSVal (zc.dep 2 88 (by kernel_rfl) (by decide)) rfl rfl)) ⟨_, rfl, Below.refl _ _, optDef zβ rfl⟩
                  refine ⟨.inl ⟨rfl, true, .none rfl, (fun gg b h => by cases h), fun h w => optUndef h, fun zβ za zw zc => ?_⟩, ?_⟩
                  · exact ld_3 rfl ((show za.eval (.tmp 89) = za.tmps.getD 89 undef from rfl).trans (optSVal (zc.dep 3 89 (by kernel_rfl) (by decide)) rfl rfl)) (bkeeps (bstep hb129 (zc.early (by kernel_rfl))) _ _ (hc45 x.2.2.2.2.1 (by first | omega | (simp; omega))).1) ⟨_, rfl, Below.refl _ _, optDef zβ rfl⟩
                  refine ⟨.inl ⟨rfl, true, .none rfl, (fun gg b h => by cases h), fun h w => optUndef h, fun zβ za zw zc => ?_⟩, ?_⟩
                  · exact wp_move rfl (zc.kn.ev rfl) ⟨_, rfl, Below.refl _ _, optDef zβ rfl⟩
                  refine ⟨.inl ⟨rfl, true, .none rfl, (fun gg b h => by cases h), fun h w => optUndef h, fun zβ za zw zc => ?_⟩, ?_⟩
                  · exact wp_move rfl (zc.kn.ev rfl) ⟨_, rfl, Below.refl _ _, optDef zβ rfl⟩
                  refine ⟨.inl ⟨rfl, true, .none rfl, (fun gg b h => by cases h), fun h w => optUndef h, fun zβ za zw zc => ?_⟩, ?_⟩
                  · exact ix_23 (k := x.2.2.2.2.1) rfl ((show za.eval (.tmp 91) = za.tmps.getD 91 undef from rfl).trans (optSVal (zc.dep 5 91 (by kernel_rfl) (by decide)) rfl rfl)) (ha44 x.2.2.2.2.1 (by first | omega | (simp; omega))) ((show za.eval (.tmp 92) = za.tmps.getD 92 undef from rfl).trans (optSVal (zc.dep 6 92 (by kernel_rfl) (by decide)) rfl rfl)) (by first | omega | (simp; omega)) ⟨_, rfl, Below.refl _ _, optDef zβ rfl⟩
                  refine ⟨.inl ⟨rfl, true, .none rfl, (fun gg b h => by cases h), fun h w => optUndef h, fun zβ za zw zc => ?_⟩, ?_⟩
                  · exact fld_56_1 rfl ((show za.eval (.tmp 93) = za.tmps.getD 93 undef from rfl).trans (optSVal (zc.dep 7 93 (by kernel_rfl) (by decide)) rfl rfl)) ⟨_, rfl, Below.refl _ _, optDef zβ rfl⟩
                  refine ⟨.inl ⟨rfl, true, .none rfl, (fun gg b h => by cases h), fun h w => optUndef h, fun zβ za zw zc => ?_⟩, ?_⟩
                  · exact ld_32 rfl ((show za.eval (.tmp 94) = za.tmps.getD 94 undef from rfl).trans (optSVal (zc.dep 8 94 (by kernel_rfl) (by decide)) rfl rfl)) (bkeeps (bstep hb129 (zc.early (by kernel_rfl))) _ _ (hc45 x.2.2.2.2.1 (by first | omega | (simp; omega))).2.1) (bkeeps (bstep hb129 (zc.early (by kernel_rfl))) _ _ (hc45 x.2.2.2.2.1 (by first | omega | (simp; omega))).2.2.1) ⟨_, rfl, Below.refl _ _, optDef zβ rfl⟩
                  refine ⟨.inl ⟨rfl, true, .none rfl, (fun gg b h => by cases h), fun h w => optUndef h, fun zβ za zw zc => ?_⟩, ?_⟩
                  · exact wp_call (by kernel_rfl) rfl (hv1 ((show za.eval (.tmp 95) = za.tmps.getD 95 undef from rfl).trans (optSVal (zc.dep 9 95 (by kernel_rfl) (by decide)) rfl rfl))) (rcopy_any (dget sB x.2.2.2.2.1).t _ _ (hB.parts _ (dget_mem (by omega))) (IsT.below (bstep hb129 (zc.early (by kernel_rfl))) (InT.isT (hc45 x.2.2.2.2.1 (by first | omega | (simp; omega))).2.2.2.1))) (fun v w' h => ⟨v, rfl, h.2, optDef zβ (InT.mono (fun b hb _ => Nat.le_trans (zc.early (by kernel_rfl)).size hb) h.1)⟩)
                  refine ⟨.inl ⟨rfl, true, .none rfl, (fun gg b h => by cases h), fun h w => optUndef h, fun zβ za zw zc => ?_⟩, ?_⟩
                  · have zv := (optSMem (zc.dep 10 96 (by kernel_rfl) (by decide)) rfl rfl)
                    obtain ⟨_, a1, c1, e1, _⟩ := zv.form
                    rw [e1] at zv
                    exact build_56_0_1 rfl ((show za.eval (.tmp 90) = za.tmps.getD 90 undef from rfl).trans (optSVal (zc.dep 4 90 (by kernel_rfl) (by decide)) rfl rfl)) ((show za.eval (.tmp 96) = za.tmps.getD 96 undef from rfl).trans e1) ⟨_, rfl, Below.refl _ _, optDef zβ ⟨_, _, rfl, hi64, zv⟩⟩
                  refine ⟨.inr ⟨rfl, rfl, fun za zw zc => ?_⟩, ?_⟩
                  · have zv := (optSMem (zc.dep 11 97 (by kernel_rfl) (by decide)) rfl rfl)
                    obtain ⟨a1, c1, e1, zi, zv⟩ := zv
                    exact st_56 rfl (zc.kn.ev rfl) ((show za.eval (.tmp 97) = za.tmps.getD 97 undef from rfl).trans e1) rfl rfl rfl (hB128.below zc.below) (by first | decide | simp) (fun v => ⟨v, rfl, ⟨a1, c1, (((hB128.below zc.below).set_ 0 _).set_ 1 _).set_ 2 _, InT.chg zv (.ofUpd (S := fun b => b = g18) (((Upd.at_ _ _ _ _).trans (Upd.at_ _ _ _ _)).trans (Upd.at_ _ _ _ _)) rfl) (fun b hb e => by (try dsimp only at *); omega)⟩, .ofUpd (((Upd.at_ _ _ _ _).trans (Upd.at_ _ _ _ _)).trans (Upd.at_ _ _ _ _)) rfl⟩)
                  exact trivial
                · intro za w130 zh hG131 hc132 zu
                  have hb133 : Below w11.heap.size w11 w46 := (bstep hb33 hb47)
                  have hb134 := chg_below hb129 hc132 (fun b hb => (fun h => by (try dsimp only at *); omega))
                  have hb135 := chg_below hb133 hc132 (fun b hb => (fun h => by (try dsimp only at *); omega))
                  obtain ⟨a136, c137, hB138, hT139⟩ := hG131
                  clear zu
                  refine (show WE _ [(0, .slice pa sA.length ca), (1, .slice pb sB.length cb), (4, .slice none 0 0), (5, .int .i64 0), (6, .slice x.1 x.2.2.1 x.2.1), (7, .int .i64 (((x.2.2.2.1 : Nat) : Int))), (8, .int .i64 (((x.2.2.2.2.1 : Nat) : Int))), (9, .pointer (some ⟨g18, 0, none⟩)), (17, .bool ((((subCheck sB) : Int) != (0 : Int)))), (27, .bool (((decide ((((x.2.2.2.1 : Nat) : Int) : Int) < (((sA.length : Nat) : Int) : Int))) || (decide ((((x.2.2.2.2.1 : Nat) : Int) : Int) < (((sB.length : Nat) : Int) : Int)))))), (51, .bool (((decide ((((sB.length : Nat) : Int) : Int) ≤ (((x.2.2.2.2.1 : Nat) : Int) : Int))) || ((decide ((((x.2.2.2.1 : Nat) : Int) : Int) < (((sA.length : Nat) : Int) : Int))) && (decide (((dget sA x.2.2.2.1).var : Int) ≤ ((dget sB x.2.2.2.2.1).var : Int)))))))] w130 _ .normal from ?_) za (zh.sub ⟨rfl, rfl, rfl, rfl, rfl, rfl, rfl, rfl, rfl, rfl, rfl, trivial⟩)
                  refine WE.next ?_
                  refine WC.region ?_
                  refine WL.val (.int .i64 (((x.2.2.2.2.1 : Nat) : Int))) rfl rfl rfl (fun za zC zh zk => wp_move rfl (zh.ev rfl) zk) ?_
                  refine WL.val (.int .i64 ((((x.2.2.2.2.1 + 1) : Nat) : Int))) rfl rfl rfl (fun za zC zh zk => addb_3 rfl (zh.ev rfl) (zh.ev rfl) (wrap_eq (by omega) (by omega) (by omega)) zk) ?_
                  refine WL.val (.int .i64 ((((x.2.2.2.2.1 + 1) : Nat) : Int))) rfl rfl rfl (fun za zC zh zk => wp_assign rfl (zh.ev rfl) zk) ?_
                  refine WL.nil (WE.sub (K' := [(0, .slice pa sA.length ca), (1, .slice pb sB.length cb), (4, .slice none 0 0), (5, .int .i64 0), (6, .slice x.1 x.2.2.1 x.2.1), (7, .int .i64 (((x.2.2.2.1 : Nat) : Int))), (8, .int .i64 ((((x.2.2.2.2.1 + 1) : Nat) : Int))), (9, .pointer (some ⟨g18, 0, none⟩)), (17, .bool ((((subCheck sB) : Int) != (0 : Int)))), (27, .bool (((decide ((((x.2.2.2.1 : Nat) : Int) : Int) < (((sA.length : Nat) : Int) : Int))) || (decide ((((x.2.2.2.2.1 : Nat) : Int) : Int) < (((sB.length : Nat) : Int) : Int)))))), (51, .bool (((decide ((((sB.length : Nat) : Int) : Int) ≤ (((x.2.2.2.2.1 : Nat) : Int) : Int))) || ((decide ((((x.2.2.2.1 : Nat) : Int) : Int) < (((sA.length : Nat) : Int) : Int))) && (decide (((dget sA x.2.2.2.1).var : Int) ≤ ((dget sB x.2.2.2.2.1).var : Int)))))))]) ⟨rfl, rfl, rfl, rfl, rfl, rfl, rfl, rfl, rfl, rfl, rfl, trivial⟩ ?_)
                  refine WE.next ?_
                  refine WC.seq ?_
                  refine WC.region ?_
                  refine WL.val (.pointer (some ⟨g18, 1, none⟩)) rfl rfl rfl (fun za zC zh zk => fld_56_1 rfl (zh.ev rfl) zk) ?_
                  refine WL.val (.agg #[.int .i64 ((dget sB x.2.2.2.2.1).t.f), .slice a136 ((dget sB x.2.2.2.2.1).t.args.length) c137]) rfl rfl rfl (fun za zC zh zk => ld_32 rfl (zh.ev rfl) ((hB138.cell 1).trans rfl) ((hB138.cell 2).trans rfl) zk) ?_
                  refine WL.val (.pointer (some ⟨g18, 0, none⟩)) rfl rfl rfl (fun za zC zh zk => fld_56_0 rfl (zh.ev rfl) zk) ?_
                  refine WL.val (.int .i64 ((dget sB x.2.2.2.2.1).var)) rfl rfl rfl (fun za zC zh zk => ld_3 rfl (zh.ev rfl) ((hB138.cell 0).trans rfl) zk) ?_
                  refine WL.call rfl rfl rfl (fun za zh zC => wp_call (by kernel_rfl) rfl (hv2 (zh.ev rfl) (zh.ev rfl))) (ritself_any (dget sB x.2.2.2.2.1) _ _ hi64 (IsT.below (Below.refl _ _) (InT.isT hT139))) ?_
                  rintro _ w141 ⟨rfl, hbi140⟩
                  refine WL.val (.bool ((!(dget sB x.2.2.2.2.1).itself))) rfl rfl rfl (fun za zC zh zk => wp_not rfl (zh.ev rfl) zk) ?_
                  refine WL.nil (WE.sub (K' := [(0, .slice pa sA.length ca), (1, .slice pb sB.length cb), (4, .slice none 0 0), (5, .int .i64 0), (6, .slice x.1 x.2.2.1 x.2.1), (7, .int .i64 (((x.2.2.2.1 : Nat) : Int))), (8, .int .i64 ((((x.2.2.2.2.1 + 1) : Nat) : Int))), (9, .pointer (some ⟨g18, 0, none⟩)), (17, .bool ((((subCheck sB) : Int) != (0 : Int)))), (27, .bool (((decide ((((x.2.2.2.1 : Nat) : Int) : Int) < (((sA.length : Nat) : Int) : Int))) || (decide ((((x.2.2.2.2.1 : Nat) : Int) : Int) < (((sB.length : Nat) : Int) : Int)))))), (51, .bool (((decide ((((sB.length : Nat) : Int) : Int) ≤ (((x.2.2.2.2.1 : Nat) : Int) : Int))) || ((decide ((((x.2.2.2.1 : Nat) : Int) : Int) < (((sA.length : Nat) : Int) : Int))) && (decide (((dget sA x.2.2.2.1).var : Int) ≤ ((dget sB x.2.2.2.2.1).var : Int))))))), (105, .bool ((!(dget sB x.2.2.2.2.1).itself)))]) ⟨rfl, rfl, rfl, rfl, rfl, rfl, rfl, rfl, rfl, rfl, rfl, rfl, trivial⟩ ?_)
                  refine WE.next ?_
                  refine WC.cond rfl (fun h142 => ?_) (fun h142 => ?_)
                  · have h142 : ¬ ((dget sB x.2.2.2.2.1).itself = true) := by simpa using h142
                    refine WC.region ?_
                    refine WL.val (.slice x.1 x.2.2.1 x.2.1) rfl rfl rfl (fun za zC zh zk => wp_move rfl (zh.ev rfl) zk) ?_
                    have hB143 := hB138.below hbi140
                    refine WL.val (.agg #[.int .i64 ((dget sB x.2.2.2.2.1).var), .int .i64 ((dget sB x.2.2.2.2.1).t.f), .slice a136 ((dget sB x.2.2.2.2.1).t.args.length) c137]) rfl rfl rfl (fun za zC zh zk => ld_56 rfl (zh.ev rfl) ((hB143.cell 0).trans rfl) ((hB143.cell 1).trans rfl) ((hB143.cell 2).trans rfl) zk) ?_
                    refine WL.step (post := NewRow w141 56 #[.int .i64 ((dget sB x.2.2.2.2.1).var), .int .i64 ((dget sB x.2.2.2.2.1).t.f), .slice a136 ((dget sB x.2.2.2.2.1).t.args.length) c137] 1) rfl rfl rfl (fun za zC zh zk => row_23_1 rfl (zh.ev rfl) (zk _ _ (newRow _ _ _ _))) ?_
                    rintro _ w144 ⟨g145, rfl, hg146, hB147, hb148, hz149⟩
                    have hl150 : g18 < g145 := by have z1 := hB143.lt; omega
                    have hb151 : Below w.heap.size w w141 := (bstep hb134 hbi140)
                    have hl152 : w.heap.size ≤ g145 := by have z2 := (hb151).size; omega
                    have hb153 : Below w11.heap.size w11 w141 := (bstep hb135 hbi140)
                    have hl154 : w11.heap.size ≤ g145 := by have z2 := (hb153).size; omega
                    have hSlo : ∀ b, (Value.slice x.1 x.2.2.1 x.2.1).ownBlock = some b → w5.heap.size ≤ b ∧ b < w11.heap.size := fun b h => ho13.lt b h
                    have hb156 : Below w11.heap.size w11 w144 := (bstep hb153 hb148)
                    have ho155 := ho13.below hb156
                    have hWB : w5.heap.size ≤ w11.heap.size := by have z1 := hBw; omega
                    have hW2 : w11.heap.size ≤ w46.heap.size := hb133.size
                    have hW3 : w11.heap.size ≤ w144.heap.size := hb156.size
                    have hb162 : Below w130.heap.size w130 w144 := (bstep hbi140 hb148)
                    refine WL.step (post := fun v w' => ∃ ra rc, v = .slice ra (x.2.2.1 + 1) rc ∧ RowE eltB w' w5.heap.size 56 ra rc (x.2.2.1 + 1) (x.2.2.2.2.2 ++ [(dget sB x.2.2.2.2.1)]) ∧ Chg (fun b => (Value.slice x.1 x.2.2.1 x.2.1).ownBlock = some b) w144 w') rfl rfl rfl (fun za zC zh zk => wp_appE (E := eltB) (size := 3) (bytes := 40) (z := .agg #[.int .i64 0, .int .i64 0, .slice none 0 0]) (cs := [.int .i64 ((dget sB x.2.2.2.2.1).var), .int .i64 ((dget sB x.2.2.2.2.1).t.f), .slice a136 ((dget sB x.2.2.2.2.1).t.args.length) c137]) rfl Try.underlying23 (by kernel_rfl) rfl (by decide) rfl (zh.ev rfl) (zh.ev rfl) ho155 hB147 ⟨_, _, rfl, hi64, InT.mono (fun b hb _ => ⟨by omega, fun e => by have z := (hSlo b e).2; omega⟩) (InT.below hb162 hT139)⟩ (by omega) (by omega) (by omega) (fun ra rc w' h1 h2 _ => zk _ _ ⟨ra, rc, rfl, h1, h2⟩)) ?_
                    rintro _ w157 ⟨ra158, rc159, rfl, hr160, hc161⟩
                    have hb163 : Below w.heap.size w w144 := (bstep hb12 hb156)
                    have hB164 := hB143.below hb148
                    have hb165 := chg_below hb163 hc161 (fun b hb => (fun h => by have h := hSlo _ h; (try dsimp only at *); omega))
                    have hB166 := chg_blk hB164 hc161 (fun h => by have h := hSlo _ h; (try dsimp only at *); omega)
                    have hB167 := chg_blk hB147 hc161 (fun h => by have h := hSlo _ h; (try dsimp only at *); omega)
                    refine WL.val (.slice ra158 ((x.2.2.1 + 1)) rc159) rfl rfl rfl (fun za zC zh zk => wp_assign rfl (zh.ev rfl) zk) ?_
                    refine WL.nil (WE.sub (K' := [(0, .slice pa sA.length ca), (1, .slice pb sB.length cb), (4, .slice none 0 0), (5, .int .i64 0), (6, .slice ra158 ((x.2.2.1 + 1)) rc159), (7, .int .i64 (((x.2.2.2.1 : Nat) : Int))), (8, .int .i64 ((((x.2.2.2.2.1 + 1) : Nat) : Int))), (9, .pointer (some ⟨g18, 0, none⟩)), (17, .bool ((((subCheck sB) : Int) != (0 : Int)))), (27, .bool (((decide ((((x.2.2.2.1 : Nat) : Int) : Int) < (((sA.length : Nat) : Int) : Int))) || (decide ((((x.2.2.2.2.1 : Nat) : Int) : Int) < (((sB.length : Nat) : Int) : Int)))))), (51, .bool (((decide ((((sB.length : Nat) : Int) : Int) ≤ (((x.2.2.2.2.1 : Nat) : Int) : Int))) || ((decide ((((x.2.2.2.1 : Nat) : Int) : Int) < (((sA.length : Nat) : Int) : Int))) && (decide (((dget sA x.2.2.2.1).var : Int) ≤ ((dget sB x.2.2.2.2.1).var : Int))))))), (105, .bool ((!(dget sB x.2.2.2.2.1).itself)))]) ⟨rfl, rfl, rfl, rfl, rfl, rfl, rfl, rfl, rfl, rfl, rfl, rfl, trivial⟩ ?_)
                    refine WE.blockNormal ?_
                    refine WE.round ((ra158, rc159, (x.2.2.1 + 1), x.2.2.2.1, (x.2.2.2.2.1 + 1), (x.2.2.2.2.2 ++ [(dget sB x.2.2.2.2.1)]))) ⟨rfl, rfl, rfl, rfl, rfl, rfl, rfl, rfl, trivial⟩ ?_ ?_
                    · exact ⟨(Nat.le_trans (Nat.le_trans hBw hb156.size) hc161.size), by rw [← addB_no (show (dget sB x.2.2.2.2.1).itself = false by simpa using h142)]; exact hM.stepB sA' sB' (by omega) (fun hi => by omega), hb165, hr160⟩
                    · dsimp only; omega
                  · have h142 : ¬ (¬ ((dget sB x.2.2.2.2.1).itself = true)) := by simpa using h142
                    refine WC.skip ?_
                    refine WE.blockNormal ?_
                    refine WE.round ((x.1, x.2.1, x.2.2.1, x.2.2.2.1, (x.2.2.2.2.1 + 1), x.2.2.2.2.2)) ⟨rfl, rfl, rfl, rfl, rfl, rfl, rfl, rfl, trivial⟩ ?_ ?_
                    · have hb168 : Below w.heap.size w w141 := (bstep hb134 hbi140)
                      have hb170 : Below w11.heap.size w11 w141 := (bstep hb135 hbi140)
                      have ho169 := ho13.below hb170
                      exact ⟨(Nat.le_trans (Nat.le_trans hBw hb135.size) hbi140.size), by have z := hM.stepB sA' sB' (by omega) (fun hi => by omega); rwa [addB_yes (show (dget sB x.2.2.2.2.1).itself = true by simpa using h142)] at z, hb168, ho169⟩
                    · dsimp only; omega
          · have h16 : ¬ (((((x.2.2.2.1 : Nat) : Int) : Int) < (((sA.length : Nat) : Int) : Int)) ∨ ((((x.2.2.2.2.1 : Nat) : Int) : Int) < (((sB.length : Nat) : Int) : Int))) := by simpa using h16
            refine WC.exit ?_
            refine WE.thenExit ?_
            refine WE.thenExit ?_
            refine WE.blockIs rfl ?_
            refine WE.next ?_
            refine WC.seq ?_
            refine WC.region ?_
            refine WL.val (.slice x.1 x.2.2.1 x.2.1) rfl rfl rfl (fun za zC zh zk => wp_move rfl (zh.ev rfl) zk) ?_
            refine WL.val (.slice x.1 x.2.2.1 x.2.1) rfl rfl rfl (fun za zC zh zk => wp_assign rfl (zh.ev rfl) zk) ?_
            refine WL.val (.int .i64 0) rfl rfl rfl (fun za zC zh zk => wp_assign rfl (zh.ev rfl) zk) ?_
            refine WL.nil (WE.sub (K' := [(0, .slice pa sA.length ca), (1, .slice pb sB.length cb), (4, .slice x.1 x.2.2.1 x.2.1), (5, .int .i64 0), (6, .slice x.1 x.2.2.1 x.2.1), (7, .int .i64 (((x.2.2.2.1 : Nat) : Int))), (8, .int .i64 (((x.2.2.2.2.1 : Nat) : Int))), (17, .bool ((((subCheck sB) : Int) != (0 : Int)))), (27, .bool (((decide ((((x.2.2.2.1 : Nat) : Int) : Int) < (((sA.length : Nat) : Int) : Int))) || (decide ((((x.2.2.2.2.1 : Nat) : Int) : Int) < (((sB.length : Nat) : Int) : Int))))))]) ⟨rfl, rfl, rfl, rfl, rfl, rfl, rfl, rfl, rfl, trivial⟩ ?_)
            refine WE.next ?_
            refine WC.ret ?_
            refine WE.ret2 rfl rfl rfl ?_
            have ho171 := ho13.below hb15
            have hb172 : Below w.heap.size w w14 := (bstep hb12 hb15)
            have hRo := (ho171).inRow
            refine ⟨_, rfl, ?_, hb172⟩
            unfold CompIs
            rw [if_pos ⟨hokA, hokB⟩, hRo.2.1]
            exact ⟨_, _, _, rfl, hM.done (by omega) (by omega), hRo.1.mono (by decide) (fun b hb _ => by omega), by rw [← hRo.2.1]; exact hRo.2.2.1, hRo.2.2.2⟩

end Go.Proofs.Ytgechlgdnnpoeaa
