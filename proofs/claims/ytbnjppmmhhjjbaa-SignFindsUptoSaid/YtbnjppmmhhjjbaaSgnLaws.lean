/- The walks through the laws of signatures. -/
import Derived.Test.YtbnjppmmhhjjbaaSgnAdd2
namespace Go.Proofs.Ytbnjppmmhhjjbaa
open Go.RowKit Go

def fSy : Sy := ⟨⟨#[102]⟩, 2, false⟩
theorem add_f : addRes [truth] [fSy] = ([truth, fSy], 0) := by decide +kernel
theorem at_f : syAt fSy [truth, fSy] 0 = 1 := by decide +kernel
theorem fSy_wf : I64 fSy.ar ∧ fSy.name.size ≤ maxLen := ⟨by unfold I64; decide, by decide +kernel⟩
theorem isSys_one {w : World} {g : Nat} {x : Sy} (h : Blk w g 35 #[.string x.name, .int .i64 x.ar, .bool x.pred]) (h1 : I64 x.ar) (h2 : x.name.size ≤ maxLen) : IsSys w [x] (some ⟨g, 0, none⟩) := by
  obtain ⟨a, c, e, _, _, h⟩ := isSig_one h h1 h2
  simp only [Value.agg.injEq, Array.mk.injEq, List.cons.injEq, and_true, Value.slice.injEq] at e
  rw [e.1]; exact h
theorem find_sig (l : List Sy) (x : Sy) (w : World) {v : Value} (hv : IsSig w l v) : Calls Try.prog 11 #[v, x.val] w (Ret fun v' w' => v' = .tuple #[.int .i64 (max (syAt x l 0) 0), .bool (decide ((0 : Int) ≤ syAt x l 0))] ∧ Below w.heap.size w w') := find_any l x w v hv
theorem isSig_empty {w : World} : IsSig w [] (.agg #[.slice none 0 0]) := isSig_nil
set_option maxRecDepth 100000 in
theorem head_any (w : World) : Calls Try.prog 9 #[] w (Ret fun v' w' => v' = .bool true ∧ Below w.heap.size w w') := by
  refine Calls.walk (l := []) Try.func9 rfl (by kernel_rfl) ?_
  refine WC.sub (K' := []) trivial ?_
  refine WC.seq ?_
  refine WC.region ?_
  refine WL.val (.bool false) rfl rfl rfl (fun za zC zh zk => wp_assign rfl (zh.ev rfl) zk) ?_
  refine WL.nil (WE.sub (K' := [(0, .bool false)]) ⟨rfl, trivial⟩ ?_)
  refine WE.next ?_
  refine WC.seq ?_
  refine WC.region ?_
  refine WL.call rfl rfl rfl (fun za zh zC => wp_call (by kernel_rfl) rfl (hv0)) (new_any _) ?_
  rintro u w1 ⟨hN, hbn⟩
  refine WL.val (.agg #[.string ((⟨#[102]⟩ : ByteArray)), .int .i64 2, .bool false]) rfl rfl rfl (fun za zC zh zk => build_35_0_1 rfl (zh.ev rfl) (zh.ev rfl) zk) ?_
  refine WL.step (post := NewRow w1 35 #[.string ((⟨#[102]⟩ : ByteArray)), .int .i64 2, .bool false] 1) rfl rfl rfl (fun za zC zh zk => row_22_1 rfl (zh.ev rfl) (zk _ _ (newRow _ _ _ _))) ?_
  rintro _ w2 ⟨g3, rfl, hg4, hB5, hb6, hz7⟩
  have hl8 : w.heap.size ≤ g3 := by have z2 := (hbn).size; omega
  have hl9 : w1.heap.size ≤ g3 := by omega
  refine WL.call rfl rfl rfl (fun za zh zC => wp_call (by kernel_rfl) rfl (hv2 (zh.ev rfl) (zh.ev rfl))) (padd_any [truth] [fSy] _ _ _ _ (by decide) (by decide) (IsSig.below hb6 hN) (Nat.le_refl _) (by unfold maxLen; decide) (isSys_one (x := fSy) hB5 fSy_wf.1 fSy_wf.2)) ?_
  rintro _ w10 ⟨u2, rfl, hA, hba⟩
  rw [add_f] at hA
  obtain ⟨a1, n1, c1, rfl, hn1⟩ := isSig_blk hA
  refine WL.val (.tuple #[.agg #[.slice a1 n1 c1], .int .i64 ((addRes [truth] [fSy]).2)]) rfl rfl rfl (fun za zC zh zk => wp_move rfl (zh.ev rfl) zk) ?_
  refine WL.val (.agg #[.slice a1 n1 c1]) rfl rfl rfl (fun za zC zh zk => ext2_0 rfl (zh.ev rfl) zk) ?_
  refine WL.val (.int .i64 ((addRes [truth] [fSy]).2)) rfl rfl rfl (fun za zC zh zk => ext2_1 rfl (zh.ev rfl) zk) ?_
  refine WL.step (post := NewBlk w10 24 #[.slice none 0 0]) rfl rfl rfl (fun za zC zh zk => alloc_24 rfl (zk _ _ (newBlk _ _ _))) ?_
  rintro _ w11 ⟨g12, rfl, hg13, hB14, hb15, hz16⟩
  have hl17 : g3 < g12 := by have z1 := hB5.lt; have z2 := (hba).size; omega
  have hb18 : Below w.heap.size w w10 := (bstep (bstep hbn hb6) hba)
  have hl19 : w.heap.size ≤ g12 := by have z2 := (hb18).size; omega
  have hb20 : Below w1.heap.size w1 w10 := (bstep hb6 hba)
  have hl21 : w1.heap.size ≤ g12 := by have z2 := (hb20).size; omega
  have hl22 : w10.heap.size ≤ g12 := by omega
  refine WL.step (post := fun _ w' => Upd g12 w11 w' ∧ Blk w' g12 24 #[.slice a1 n1 c1]) rfl rfl rfl (fun za zC zh zk => st_24 rfl (zh.ev rfl) (zh.ev rfl) rfl hB14 (by first | decide | simp) (fun v => zk v _ ⟨Upd.at_ _ _ _ _, hB14.set_ 0 _⟩)) ?_
  rintro v26 w23 ⟨hu24, hB25⟩
  have hb27 : Below w.heap.size w w11 := (bstep hb18 hb15)
  have hb28 : Below w1.heap.size w1 w11 := (bstep hb20 hb15)
  have hb29 := upd_below hb27 hu24 (by omega)
  have hb30 := upd_below hb28 hu24 (by omega)
  have hb31 := upd_below hb15 hu24 (by omega)
  have hb33 : Below w2.heap.size w2 w11 := (bstep hba hb15)
  have hB32 := hB5.below hb33
  have hB34 := upd_blk hB32 hu24 (by omega)
  refine WL.val (.int .i64 ((addRes [truth] [fSy]).2)) rfl rfl rfl (fun za zC zh zk => wp_assign rfl (zh.ev rfl) zk) ?_
  refine WL.nil (WE.sub (K' := [(0, .bool false), (1, .pointer (some ⟨g12, 0, none⟩)), (2, .int .i64 ((addRes [truth] [fSy]).2))]) ⟨rfl, rfl, rfl, trivial⟩ ?_)
  refine WE.next ?_
  refine WC.seq ?_
  refine WC.region ?_
  refine WL.val (.agg #[.slice a1 n1 c1]) rfl rfl rfl (fun za zC zh zk => ld_24 rfl (zh.ev rfl) ((hB25.cell 0).trans rfl) zk) ?_
  refine WL.val (.agg #[.string ((⟨#[102]⟩ : ByteArray)), .int .i64 2, .bool false]) rfl rfl rfl (fun za zC zh zk => build_35_0_1 rfl (zh.ev rfl) (zh.ev rfl) zk) ?_
  refine WL.call rfl rfl rfl (fun za zh zC => wp_call (by kernel_rfl) rfl (hv2 (zh.ev rfl) (zh.ev rfl))) (find_sig [truth, fSy] fSy _ (IsSig.below hb31 hA)) ?_
  rintro _ w35 ⟨rfl, hbf⟩
  refine WL.val (.tuple #[.int .i64 ((max (syAt fSy [truth, fSy] 0) 0)), .bool ((decide ((0 : Int) ≤ syAt fSy [truth, fSy] 0)))]) rfl rfl rfl (fun za zC zh zk => wp_move rfl (zh.ev rfl) zk) ?_
  refine WL.val (.int .i64 ((max (syAt fSy [truth, fSy] 0) 0))) rfl rfl rfl (fun za zC zh zk => ext2_0 rfl (zh.ev rfl) zk) ?_
  refine WL.val (.bool ((decide ((0 : Int) ≤ syAt fSy [truth, fSy] 0)))) rfl rfl rfl (fun za zC zh zk => ext2_1 rfl (zh.ev rfl) zk) ?_
  refine WL.val (.int .i64 ((max (syAt fSy [truth, fSy] 0) 0))) rfl rfl rfl (fun za zC zh zk => wp_assign rfl (zh.ev rfl) zk) ?_
  refine WL.val (.bool ((decide ((0 : Int) ≤ syAt fSy [truth, fSy] 0)))) rfl rfl rfl (fun za zC zh zk => wp_assign rfl (zh.ev rfl) zk) ?_
  refine WL.nil (WE.sub (K' := [(0, .bool false), (1, .pointer (some ⟨g12, 0, none⟩)), (2, .int .i64 ((addRes [truth] [fSy]).2)), (3, .int .i64 ((max (syAt fSy [truth, fSy] 0) 0))), (4, .bool ((decide ((0 : Int) ≤ syAt fSy [truth, fSy] 0))))]) ⟨rfl, rfl, rfl, rfl, rfl, trivial⟩ ?_)
  refine WE.next ?_
  refine WC.seq ?_
  have hB36 := hB25.below hbf
  refine WC.opt [(true, .val (.int .i64 ((addRes [truth] [fSy]).2))), (true, .val (.bool ((((addRes [truth] [fSy]).2 : Int) == (0 : Int))))), (true, .val (.bool ((((addRes [truth] [fSy]).2 : Int) == (0 : Int))))), ((true && (((addRes [truth] [fSy]).2 : Int) == (0 : Int))), .val (.int .i64 ((max (syAt fSy [truth, fSy] 0) 0)))), ((true && (((addRes [truth] [fSy]).2 : Int) == (0 : Int))), .val (.bool ((((max (syAt fSy [truth, fSy] 0) 0) : Int) == (1 : Int))))), (true, .val (.bool (((((addRes [truth] [fSy]).2 : Int) == (0 : Int)) && (((max (syAt fSy [truth, fSy] 0) 0) : Int) == (1 : Int)))))), (true, .val (.bool (((((addRes [truth] [fSy]).2 : Int) == (0 : Int)) && (((max (syAt fSy [truth, fSy] 0) 0) : Int) == (1 : Int)))))), ((true && ((((addRes [truth] [fSy]).2 : Int) == (0 : Int)) && (((max (syAt fSy [truth, fSy] 0) 0) : Int) == (1 : Int)))), .val (.bool ((decide ((0 : Int) ≤ syAt fSy [truth, fSy] 0))))), (true, .val (.bool ((((((addRes [truth] [fSy]).2 : Int) == (0 : Int)) && (((max (syAt fSy [truth, fSy] 0) 0) : Int) == (1 : Int))) && (decide ((0 : Int) ≤ syAt fSy [truth, fSy] 0)))))), (true, .val (.bool ((((((addRes [truth] [fSy]).2 : Int) == (0 : Int)) && (((max (syAt fSy [truth, fSy] 0) 0) : Int) == (1 : Int))) && (decide ((0 : Int) ≤ syAt fSy [truth, fSy] 0)))))), ((true && (((((addRes [truth] [fSy]).2 : Int) == (0 : Int)) && (((max (syAt fSy [truth, fSy] 0) 0) : Int) == (1 : Int))) && (decide ((0 : Int) ≤ syAt fSy [truth, fSy] 0)))), .val (.pointer (some ⟨g12, 0, none⟩))), ((true && (((((addRes [truth] [fSy]).2 : Int) == (0 : Int)) && (((max (syAt fSy [truth, fSy] 0) 0) : Int) == (1 : Int))) && (decide ((0 : Int) ≤ syAt fSy [truth, fSy] 0)))), .val (.slice a1 n1 c1)), ((true && (((((addRes [truth] [fSy]).2 : Int) == (0 : Int)) && (((max (syAt fSy [truth, fSy] 0) 0) : Int) == (1 : Int))) && (decide ((0 : Int) ≤ syAt fSy [truth, fSy] 0)))), .val (.int .i64 (((n1 : Nat) : Int)))), ((true && (((((addRes [truth] [fSy]).2 : Int) == (0 : Int)) && (((max (syAt fSy [truth, fSy] 0) 0) : Int) == (1 : Int))) && (decide ((0 : Int) ≤ syAt fSy [truth, fSy] 0)))), .val (.bool (((((n1 : Nat) : Int) : Int) == (2 : Int))))), (true, .val (.bool (((((((addRes [truth] [fSy]).2 : Int) == (0 : Int)) && (((max (syAt fSy [truth, fSy] 0) 0) : Int) == (1 : Int))) && (decide ((0 : Int) ≤ syAt fSy [truth, fSy] 0))) && ((((n1 : Nat) : Int) : Int) == (2 : Int)))))), (true, .val (.bool (((((((addRes [truth] [fSy]).2 : Int) == (0 : Int)) && (((max (syAt fSy [truth, fSy] 0) 0) : Int) == (1 : Int))) && (decide ((0 : Int) ≤ syAt fSy [truth, fSy] 0))) && ((((n1 : Nat) : Int) : Int) == (2 : Int)))))), ((true && ((((((addRes [truth] [fSy]).2 : Int) == (0 : Int)) && (((max (syAt fSy [truth, fSy] 0) 0) : Int) == (1 : Int))) && (decide ((0 : Int) ≤ syAt fSy [truth, fSy] 0))) && ((((n1 : Nat) : Int) : Int) == (2 : Int)))), .val (.agg #[.slice none 0 0])), ((true && ((((((addRes [truth] [fSy]).2 : Int) == (0 : Int)) && (((max (syAt fSy [truth, fSy] 0) 0) : Int) == (1 : Int))) && (decide ((0 : Int) ≤ syAt fSy [truth, fSy] 0))) && ((((n1 : Nat) : Int) : Int) == (2 : Int)))), .val (.int .i64 ((sigCheck [])))), ((true && ((((((addRes [truth] [fSy]).2 : Int) == (0 : Int)) && (((max (syAt fSy [truth, fSy] 0) 0) : Int) == (1 : Int))) && (decide ((0 : Int) ≤ syAt fSy [truth, fSy] 0))) && ((((n1 : Nat) : Int) : Int) == (2 : Int)))), .val (.bool ((((sigCheck []) : Int) == (110 : Int))))), (true, .val (.bool ((((((((addRes [truth] [fSy]).2 : Int) == (0 : Int)) && (((max (syAt fSy [truth, fSy] 0) 0) : Int) == (1 : Int))) && (decide ((0 : Int) ≤ syAt fSy [truth, fSy] 0))) && ((((n1 : Nat) : Int) : Int) == (2 : Int))) && (((sigCheck []) : Int) == (110 : Int)))))), (true, .val (.bool ((((((((addRes [truth] [fSy]).2 : Int) == (0 : Int)) && (((max (syAt fSy [truth, fSy] 0) 0) : Int) == (1 : Int))) && (decide ((0 : Int) ≤ syAt fSy [truth, fSy] 0))) && ((((n1 : Nat) : Int) : Int) == (2 : Int))) && (((sigCheck []) : Int) == (110 : Int))))))] [(1, .pointer (some ⟨g12, 0, none⟩)), (2, .int .i64 ((addRes [truth] [fSy]).2)), (3, .int .i64 ((max (syAt fSy [truth, fSy] 0) 0))), (4, .bool ((decide ((0 : Int) ≤ syAt fSy [truth, fSy] 0))))] ⟨rfl, rfl, rfl, rfl, trivial⟩ (by kernel_rfl) (by kernel_rfl) (by kernel_rfl) ?_ ?_
  · refine ⟨⟨true, .none rfl, fun h w => optUndef h, fun zβ za zw zc => ?_⟩, ?_⟩
    · exact wp_move rfl (zc.kn.ev rfl) ⟨_, rfl, Below.refl _ _, optDef zβ rfl⟩
    refine ⟨⟨true, .none rfl, fun h w => optUndef h, fun zβ za zw zc => ?_⟩, ?_⟩
    · exact eql_25 rfl ((show za.eval (.tmp 18) = za.tmps.getD 18 undef from rfl).trans (optVal (zc.dep 0 18 (by kernel_rfl)) rfl rfl)) (zc.kn.ev rfl) ⟨_, rfl, Below.refl _ _, optDef zβ rfl⟩
    refine ⟨⟨true, .none rfl, fun h w => optUndef h, fun zβ za zw zc => ?_⟩, ?_⟩
    · exact wp_move rfl ((show za.eval (.tmp 19) = za.tmps.getD 19 undef from rfl).trans (optVal (zc.dep 1 19 (by kernel_rfl)) rfl rfl)) ⟨_, rfl, Below.refl _ _, optDef zβ rfl⟩
    refine ⟨⟨(true && (((addRes [truth] [fSy]).2 : Int) == (0 : Int))), .yes (c := (((addRes [truth] [fSy]).2 : Int) == (0 : Int))) (d := true) rfl (fun v w h => h), fun h w => optUndef h, fun zβ za zw zc => ?_⟩, ?_⟩
    · exact wp_move rfl (zc.kn.ev rfl) ⟨_, rfl, Below.refl _ _, optDef zβ rfl⟩
    refine ⟨⟨(true && (((addRes [truth] [fSy]).2 : Int) == (0 : Int))), .yes (c := (((addRes [truth] [fSy]).2 : Int) == (0 : Int))) (d := true) rfl (fun v w h => h), fun h w => optUndef h, fun zβ za zw zc => ?_⟩, ?_⟩
    · exact eql_3 rfl ((show za.eval (.tmp 21) = za.tmps.getD 21 undef from rfl).trans (optVal (zc.dep 3 21 (by kernel_rfl)) rfl zβ)) (zc.kn.ev rfl) ⟨_, rfl, Below.refl _ _, optDef zβ rfl⟩
    refine ⟨⟨true, .none rfl, fun h w => optUndef h, fun zβ za zw zc => ?_⟩, ?_⟩
    · exact wp_and rfl ((show za.eval (.tmp 20) = za.tmps.getD 20 undef from rfl).trans (optVal (zc.dep 2 20 (by kernel_rfl)) rfl rfl)) (fun hp => ((show za.eval (.tmp 22) = za.tmps.getD 22 undef from rfl).trans (optVal (zc.dep 4 22 (by kernel_rfl)) rfl (bMk zβ hp)))) ⟨_, rfl, Below.refl _ _, optDef zβ rfl⟩
    refine ⟨⟨true, .none rfl, fun h w => optUndef h, fun zβ za zw zc => ?_⟩, ?_⟩
    · exact wp_move rfl ((show za.eval (.tmp 23) = za.tmps.getD 23 undef from rfl).trans (optVal (zc.dep 5 23 (by kernel_rfl)) rfl rfl)) ⟨_, rfl, Below.refl _ _, optDef zβ rfl⟩
    refine ⟨⟨(true && ((((addRes [truth] [fSy]).2 : Int) == (0 : Int)) && (((max (syAt fSy [truth, fSy] 0) 0) : Int) == (1 : Int)))), .yes (c := ((((addRes [truth] [fSy]).2 : Int) == (0 : Int)) && (((max (syAt fSy [truth, fSy] 0) 0) : Int) == (1 : Int)))) (d := true) rfl (fun v w h => h), fun h w => optUndef h, fun zβ za zw zc => ?_⟩, ?_⟩
    · exact wp_move rfl (zc.kn.ev rfl) ⟨_, rfl, Below.refl _ _, optDef zβ rfl⟩
    refine ⟨⟨true, .none rfl, fun h w => optUndef h, fun zβ za zw zc => ?_⟩, ?_⟩
    · exact wp_and rfl ((show za.eval (.tmp 24) = za.tmps.getD 24 undef from rfl).trans (optVal (zc.dep 6 24 (by kernel_rfl)) rfl rfl)) (fun hp => ((show za.eval (.tmp 25) = za.tmps.getD 25 undef from rfl).trans (optVal (zc.dep 7 25 (by kernel_rfl)) rfl (bMk zβ hp)))) ⟨_, rfl, Below.refl _ _, optDef zβ rfl⟩
    refine ⟨⟨true, .none rfl, fun h w => optUndef h, fun zβ za zw zc => ?_⟩, ?_⟩
    · exact wp_move rfl ((show za.eval (.tmp 26) = za.tmps.getD 26 undef from rfl).trans (optVal (zc.dep 8 26 (by kernel_rfl)) rfl rfl)) ⟨_, rfl, Below.refl _ _, optDef zβ rfl⟩
    refine ⟨⟨(true && (((((addRes [truth] [fSy]).2 : Int) == (0 : Int)) && (((max (syAt fSy [truth, fSy] 0) 0) : Int) == (1 : Int))) && (decide ((0 : Int) ≤ syAt fSy [truth, fSy] 0)))), .yes (c := (((((addRes [truth] [fSy]).2 : Int) == (0 : Int)) && (((max (syAt fSy [truth, fSy] 0) 0) : Int) == (1 : Int))) && (decide ((0 : Int) ≤ syAt fSy [truth, fSy] 0)))) (d := true) rfl (fun v w h => h), fun h w => optUndef h, fun zβ za zw zc => ?_⟩, ?_⟩
    · exact fld_24_0 rfl (zc.kn.ev rfl) ⟨_, rfl, Below.refl _ _, optDef zβ rfl⟩
    refine ⟨⟨(true && (((((addRes [truth] [fSy]).2 : Int) == (0 : Int)) && (((max (syAt fSy [truth, fSy] 0) 0) : Int) == (1 : Int))) && (decide ((0 : Int) ≤ syAt fSy [truth, fSy] 0)))), .yes (c := (((((addRes [truth] [fSy]).2 : Int) == (0 : Int)) && (((max (syAt fSy [truth, fSy] 0) 0) : Int) == (1 : Int))) && (decide ((0 : Int) ≤ syAt fSy [truth, fSy] 0)))) (d := true) rfl (fun v w h => h), fun h w => optUndef h, fun zβ za zw zc => ?_⟩, ?_⟩
    · exact ld_22 rfl ((show za.eval (.tmp 28) = za.tmps.getD 28 undef from rfl).trans (optVal (zc.dep 10 28 (by kernel_rfl)) rfl zβ)) (bkeeps zc.below _ _ ((hB36.cell 0).trans rfl)) ⟨_, rfl, Below.refl _ _, optDef zβ rfl⟩
    refine ⟨⟨(true && (((((addRes [truth] [fSy]).2 : Int) == (0 : Int)) && (((max (syAt fSy [truth, fSy] 0) 0) : Int) == (1 : Int))) && (decide ((0 : Int) ≤ syAt fSy [truth, fSy] 0)))), .yes (c := (((((addRes [truth] [fSy]).2 : Int) == (0 : Int)) && (((max (syAt fSy [truth, fSy] 0) 0) : Int) == (1 : Int))) && (decide ((0 : Int) ≤ syAt fSy [truth, fSy] 0)))) (d := true) rfl (fun v w h => h), fun h w => optUndef h, fun zβ za zw zc => ?_⟩, ?_⟩
    · exact len_22 rfl ((show za.eval (.tmp 29) = za.tmps.getD 29 undef from rfl).trans (optVal (zc.dep 11 29 (by kernel_rfl)) rfl zβ)) ⟨_, rfl, Below.refl _ _, optDef zβ rfl⟩
    refine ⟨⟨(true && (((((addRes [truth] [fSy]).2 : Int) == (0 : Int)) && (((max (syAt fSy [truth, fSy] 0) 0) : Int) == (1 : Int))) && (decide ((0 : Int) ≤ syAt fSy [truth, fSy] 0)))), .yes (c := (((((addRes [truth] [fSy]).2 : Int) == (0 : Int)) && (((max (syAt fSy [truth, fSy] 0) 0) : Int) == (1 : Int))) && (decide ((0 : Int) ≤ syAt fSy [truth, fSy] 0)))) (d := true) rfl (fun v w h => h), fun h w => optUndef h, fun zβ za zw zc => ?_⟩, ?_⟩
    · exact eql_3 rfl ((show za.eval (.tmp 30) = za.tmps.getD 30 undef from rfl).trans (optVal (zc.dep 12 30 (by kernel_rfl)) rfl zβ)) (zc.kn.ev rfl) ⟨_, rfl, Below.refl _ _, optDef zβ rfl⟩
    refine ⟨⟨true, .none rfl, fun h w => optUndef h, fun zβ za zw zc => ?_⟩, ?_⟩
    · exact wp_and rfl ((show za.eval (.tmp 27) = za.tmps.getD 27 undef from rfl).trans (optVal (zc.dep 9 27 (by kernel_rfl)) rfl rfl)) (fun hp => ((show za.eval (.tmp 31) = za.tmps.getD 31 undef from rfl).trans (optVal (zc.dep 13 31 (by kernel_rfl)) rfl (bMk zβ hp)))) ⟨_, rfl, Below.refl _ _, optDef zβ rfl⟩
    refine ⟨⟨true, .none rfl, fun h w => optUndef h, fun zβ za zw zc => ?_⟩, ?_⟩
    · exact wp_move rfl ((show za.eval (.tmp 32) = za.tmps.getD 32 undef from rfl).trans (optVal (zc.dep 14 32 (by kernel_rfl)) rfl rfl)) ⟨_, rfl, Below.refl _ _, optDef zβ rfl⟩
    refine ⟨⟨(true && ((((((addRes [truth] [fSy]).2 : Int) == (0 : Int)) && (((max (syAt fSy [truth, fSy] 0) 0) : Int) == (1 : Int))) && (decide ((0 : Int) ≤ syAt fSy [truth, fSy] 0))) && ((((n1 : Nat) : Int) : Int) == (2 : Int)))), .yes (c := ((((((addRes [truth] [fSy]).2 : Int) == (0 : Int)) && (((max (syAt fSy [truth, fSy] 0) 0) : Int) == (1 : Int))) && (decide ((0 : Int) ≤ syAt fSy [truth, fSy] 0))) && ((((n1 : Nat) : Int) : Int) == (2 : Int)))) (d := true) rfl (fun v w h => h), fun h w => optUndef h, fun zβ za zw zc => ?_⟩, ?_⟩
    · exact build_24_ rfl  ⟨_, rfl, Below.refl _ _, optDef zβ rfl⟩
    refine ⟨⟨(true && ((((((addRes [truth] [fSy]).2 : Int) == (0 : Int)) && (((max (syAt fSy [truth, fSy] 0) 0) : Int) == (1 : Int))) && (decide ((0 : Int) ≤ syAt fSy [truth, fSy] 0))) && ((((n1 : Nat) : Int) : Int) == (2 : Int)))), .yes (c := ((((((addRes [truth] [fSy]).2 : Int) == (0 : Int)) && (((max (syAt fSy [truth, fSy] 0) 0) : Int) == (1 : Int))) && (decide ((0 : Int) ≤ syAt fSy [truth, fSy] 0))) && ((((n1 : Nat) : Int) : Int) == (2 : Int)))) (d := true) rfl (fun v w h => h), fun h w => optUndef h, fun zβ za zw zc => ?_⟩, ?_⟩
    · exact wp_call (by kernel_rfl) rfl (hv1 ((show za.eval (.tmp 34) = za.tmps.getD 34 undef from rfl).trans (optVal (zc.dep 16 34 (by kernel_rfl)) rfl zβ))) (pcheck_any [] _ _ isSig_empty) (fun v w' h => ⟨v, rfl, h.2, optDef zβ h.1⟩)
    refine ⟨⟨(true && ((((((addRes [truth] [fSy]).2 : Int) == (0 : Int)) && (((max (syAt fSy [truth, fSy] 0) 0) : Int) == (1 : Int))) && (decide ((0 : Int) ≤ syAt fSy [truth, fSy] 0))) && ((((n1 : Nat) : Int) : Int) == (2 : Int)))), .yes (c := ((((((addRes [truth] [fSy]).2 : Int) == (0 : Int)) && (((max (syAt fSy [truth, fSy] 0) 0) : Int) == (1 : Int))) && (decide ((0 : Int) ≤ syAt fSy [truth, fSy] 0))) && ((((n1 : Nat) : Int) : Int) == (2 : Int)))) (d := true) rfl (fun v w h => h), fun h w => optUndef h, fun zβ za zw zc => ?_⟩, ?_⟩
    · exact eql_25 rfl ((show za.eval (.tmp 35) = za.tmps.getD 35 undef from rfl).trans (optVal (zc.dep 17 35 (by kernel_rfl)) rfl zβ)) (zc.kn.ev rfl) ⟨_, rfl, Below.refl _ _, optDef zβ rfl⟩
    refine ⟨⟨true, .none rfl, fun h w => optUndef h, fun zβ za zw zc => ?_⟩, ?_⟩
    · exact wp_and rfl ((show za.eval (.tmp 33) = za.tmps.getD 33 undef from rfl).trans (optVal (zc.dep 15 33 (by kernel_rfl)) rfl rfl)) (fun hp => ((show za.eval (.tmp 36) = za.tmps.getD 36 undef from rfl).trans (optVal (zc.dep 18 36 (by kernel_rfl)) rfl (bMk zβ hp)))) ⟨_, rfl, Below.refl _ _, optDef zβ rfl⟩
    refine ⟨⟨true, .none rfl, fun h w => optUndef h, fun zβ za zw zc => ?_⟩, ?_⟩
    · exact wp_assign rfl ((show za.eval (.tmp 37) = za.tmps.getD 37 undef from rfl).trans (optVal (zc.dep 19 37 (by kernel_rfl)) rfl rfl)) ⟨_, rfl, Below.refl _ _, optDef zβ rfl⟩
    exact trivial
  · intro za w37 zh hb38 zu
    have zh := zh.cons (d := 0) (v := .bool ((((((((addRes [truth] [fSy]).2 : Int) == (0 : Int)) && (((max (syAt fSy [truth, fSy] 0) 0) : Int) == (1 : Int))) && (decide ((0 : Int) ≤ syAt fSy [truth, fSy] 0))) && ((((n1 : Nat) : Int) : Int) == (2 : Int))) && (((sigCheck []) : Int) == (110 : Int))))) (optVal (zu 20 0 (by kernel_rfl)) rfl rfl)
    clear zu
    refine (show WE _ [(0, .bool ((((((((addRes [truth] [fSy]).2 : Int) == (0 : Int)) && (((max (syAt fSy [truth, fSy] 0) 0) : Int) == (1 : Int))) && (decide ((0 : Int) ≤ syAt fSy [truth, fSy] 0))) && ((((n1 : Nat) : Int) : Int) == (2 : Int))) && (((sigCheck []) : Int) == (110 : Int))))), (1, .pointer (some ⟨g12, 0, none⟩)), (2, .int .i64 ((addRes [truth] [fSy]).2)), (3, .int .i64 ((max (syAt fSy [truth, fSy] 0) 0))), (4, .bool ((decide ((0 : Int) ≤ syAt fSy [truth, fSy] 0))))] w37 _ .normal from ?_) za (zh.sub ⟨rfl, rfl, rfl, rfl, rfl, trivial⟩)
    refine WE.next ?_
    refine WC.ret ?_
    refine WE.ret1 rfl rfl ?_
    have hb39 : Below w.heap.size w w37 := (bstep (bstep hb29 hbf) hb38)
    exact ⟨_, rfl, congrArg Value.bool (by rw [hn1, add_f, at_f]; decide +kernel), hb39⟩

set_option maxRecDepth 100000 in
theorem checks_any (A B : List Sy) (w : World) (v u : Value) (hzA : A.length ≤ 1073741824) (hv : IsSig w A v) (hu : IsSig w B u) : Calls Try.prog 5 #[v, u] w (Ret fun v' w' => v' = .bool true ∧ Below w.heap.size w w') := by
  have hA := hv
  have hB := hu
  obtain ⟨a, c, rfl, _, _, _⟩ := hv
  obtain ⟨a2, c2, rfl, _, _, _⟩ := hu
  refine Calls.walk (l := [.agg #[.slice a A.length c], .agg #[.slice a2 B.length c2]]) Try.func5 rfl (by kernel_rfl) ?_
  refine WC.sub (K' := [(0, .agg #[.slice a A.length c]), (1, .agg #[.slice a2 B.length c2])]) ⟨rfl, rfl, trivial⟩ ?_
  refine WC.seq ?_
  refine WC.region ?_
  refine WL.step (post := NewBlk w 24 #[.slice a A.length c]) rfl rfl rfl (fun za zC zh zk => box_24 rfl (zh.ev rfl) (zk _ _ (newBlk _ _ _))) ?_
  rintro _ w1 ⟨g2, rfl, hg3, hB4, hb5, hz6⟩
  have hl7 : w.heap.size ≤ g2 := by omega
  refine WL.step (post := NewBlk w1 24 #[.slice a2 B.length c2]) rfl rfl rfl (fun za zC zh zk => box_24 rfl (zh.ev rfl) (zk _ _ (newBlk _ _ _))) ?_
  rintro _ w8 ⟨g9, rfl, hg10, hB11, hb12, hz13⟩
  have hl14 : g2 < g9 := by have z1 := hB4.lt; omega
  have hl15 : w.heap.size ≤ g9 := by have z2 := (hb5).size; omega
  refine WL.val (.bool false) rfl rfl rfl (fun za zC zh zk => wp_assign rfl (zh.ev rfl) zk) ?_
  refine WL.nil (WE.sub (K' := [(0, .agg #[.slice a A.length c]), (1, .agg #[.slice a2 B.length c2]), (2, .pointer (some ⟨g2, 0, none⟩)), (3, .pointer (some ⟨g9, 0, none⟩)), (4, .bool false)]) ⟨rfl, rfl, rfl, rfl, rfl, trivial⟩ ?_)
  refine WE.next ?_
  refine WC.seq ?_
  have hB16 := hB4.below hb12
  have hb17 : Below w.heap.size w w8 := (bstep hb5 hb12)
  refine WC.opt [(true, .val (.bool true)), (true, .val (.bool true)), ((true && true), .val (.agg #[.slice a A.length c])), ((true && true), .mem (fun v w => IsSig w A v) (fun v w w' hb h => IsSig.below hb h)), ((true && true), .val (.int .i64 ((sigCheck A)))), ((true && true), .val (.agg #[.slice a A.length c])), ((true && true), .val (.int .i64 ((sigCheck A)))), ((true && true), .val (.bool ((((sigCheck A) : Int) == ((sigCheck A) : Int))))), (true, .val (.bool ((true && (((sigCheck A) : Int) == ((sigCheck A) : Int)))))), (true, .val (.bool ((true && (((sigCheck A) : Int) == ((sigCheck A) : Int)))))), ((true && (true && (((sigCheck A) : Int) == ((sigCheck A) : Int)))), .val (.agg #[.slice a A.length c])), ((true && (true && (((sigCheck A) : Int) == ((sigCheck A) : Int)))), .val (.agg #[.slice a2 B.length c2])), ((true && (true && (((sigCheck A) : Int) == ((sigCheck A) : Int)))), .val (.bool ((decide (A = B))))), ((true && (true && (((sigCheck A) : Int) == ((sigCheck A) : Int)))), .val (.agg #[.slice a A.length c])), ((true && (true && (((sigCheck A) : Int) == ((sigCheck A) : Int)))), .val (.agg #[.slice a2 B.length c2])), ((true && (true && (((sigCheck A) : Int) == ((sigCheck A) : Int)))), .val (.bool ((decide (A = B))))), ((true && (true && (((sigCheck A) : Int) == ((sigCheck A) : Int)))), .val (.bool (((decide (A = B)) == (decide (A = B)))))), (true, .val (.bool (((true && (((sigCheck A) : Int) == ((sigCheck A) : Int))) && ((decide (A = B)) == (decide (A = B))))))), (true, .val (.bool (((true && (((sigCheck A) : Int) == ((sigCheck A) : Int))) && ((decide (A = B)) == (decide (A = B))))))), ((true && ((true && (((sigCheck A) : Int) == ((sigCheck A) : Int))) && ((decide (A = B)) == (decide (A = B))))), .val (.agg #[.slice a2 B.length c2])), ((true && ((true && (((sigCheck A) : Int) == ((sigCheck A) : Int))) && ((decide (A = B)) == (decide (A = B))))), .val (.agg #[.slice a2 B.length c2])), ((true && ((true && (((sigCheck A) : Int) == ((sigCheck A) : Int))) && ((decide (A = B)) == (decide (A = B))))), .val (.bool ((decide (B = B))))), (true, .val (.bool ((((true && (((sigCheck A) : Int) == ((sigCheck A) : Int))) && ((decide (A = B)) == (decide (A = B)))) && (decide (B = B)))))), (true, .val (.bool ((((true && (((sigCheck A) : Int) == ((sigCheck A) : Int))) && ((decide (A = B)) == (decide (A = B)))) && (decide (B = B)))))), ((true && (((true && (((sigCheck A) : Int) == ((sigCheck A) : Int))) && ((decide (A = B)) == (decide (A = B)))) && (decide (B = B)))), .mem (fun v w => IsSig w [truth] v) (fun v w w' hb h => IsSig.below hb h)), ((true && (((true && (((sigCheck A) : Int) == ((sigCheck A) : Int))) && ((decide (A = B)) == (decide (A = B)))) && (decide (B = B)))), .val (.agg #[.string truth.name, .int .i64 truth.ar, .bool truth.pred])), ((true && (((true && (((sigCheck A) : Int) == ((sigCheck A) : Int))) && ((decide (A = B)) == (decide (A = B)))) && (decide (B = B)))), .mem (fun v w => ∃ g, v = .slice (some ⟨g, 0, none⟩) 1 1 ∧ Blk w g 35 #[.string truth.name, .int .i64 truth.ar, .bool truth.pred]) (fun v w w' hb h => by obtain ⟨g, e, h⟩ := h; exact ⟨g, e, h.below hb⟩)), ((true && (((true && (((sigCheck A) : Int) == ((sigCheck A) : Int))) && ((decide (A = B)) == (decide (A = B)))) && (decide (B = B)))), .mem (fun v w => IsSig w [truth] v) (fun v w w' hb h => IsSig.below hb h)), ((true && (((true && (((sigCheck A) : Int) == ((sigCheck A) : Int))) && ((decide (A = B)) == (decide (A = B)))) && (decide (B = B)))), .val (.bool ((decide ([truth] = [truth]))))), (true, .val (.bool (((((true && (((sigCheck A) : Int) == ((sigCheck A) : Int))) && ((decide (A = B)) == (decide (A = B)))) && (decide (B = B))) && (decide ([truth] = [truth])))))), (true, .val (.bool (((((true && (((sigCheck A) : Int) == ((sigCheck A) : Int))) && ((decide (A = B)) == (decide (A = B)))) && (decide (B = B))) && (decide ([truth] = [truth]))))))] [(0, .agg #[.slice a A.length c]), (1, .agg #[.slice a2 B.length c2]), (2, .pointer (some ⟨g2, 0, none⟩)), (3, .pointer (some ⟨g9, 0, none⟩))] ⟨rfl, rfl, rfl, rfl, trivial⟩ (by kernel_rfl) (by kernel_rfl) (by kernel_rfl) ?_ ?_
  · refine ⟨⟨true, .none rfl, fun h w => optUndef h, fun zβ za zw zc => ?_⟩, ?_⟩
    · exact wp_call (by kernel_rfl) rfl (hv0) (head_any _) (fun v w' h => ⟨v, rfl, h.2, optDef zβ h.1⟩)
    refine ⟨⟨true, .none rfl, fun h w => optUndef h, fun zβ za zw zc => ?_⟩, ?_⟩
    · exact wp_move rfl ((show za.eval (.tmp 5) = za.tmps.getD 5 undef from rfl).trans (optVal (zc.dep 0 5 (by kernel_rfl)) rfl rfl)) ⟨_, rfl, Below.refl _ _, optDef zβ rfl⟩
    refine ⟨⟨(true && true), .yes (c := true) (d := true) rfl (fun v w h => h), fun h w => optUndef h, fun zβ za zw zc => ?_⟩, ?_⟩
    · exact ld_24 rfl (zc.kn.ev rfl) (bkeeps zc.below _ _ ((hB16.cell 0).trans rfl)) ⟨_, rfl, Below.refl _ _, optDef zβ rfl⟩
    refine ⟨⟨(true && true), .yes (c := true) (d := true) rfl (fun v w h => h), fun h w => optUndef h, fun zβ za zw zc => ?_⟩, ?_⟩
    · exact wp_call (by kernel_rfl) rfl (hv1 ((show za.eval (.tmp 7) = za.tmps.getD 7 undef from rfl).trans (optVal (zc.dep 2 7 (by kernel_rfl)) rfl zβ))) (copy_any A _ _ (by omega) (IsSig.below (bstep hb17 zc.below) hA)) (fun v w' h => ⟨v, rfl, h.2, optDef zβ h.1⟩)
    refine ⟨⟨(true && true), .yes (c := true) (d := true) rfl (fun v w h => h), fun h w => optUndef h, fun zβ za zw zc => ?_⟩, ?_⟩
    · exact wp_call (by kernel_rfl) rfl (hv1 (show za.eval (.tmp 8) = za.tmps.getD 8 undef from rfl)) (pcheck_any A _ _ (optMem (zc.dep 3 8 (by kernel_rfl)) rfl zβ)) (fun v w' h => ⟨v, rfl, h.2, optDef zβ h.1⟩)
    refine ⟨⟨(true && true), .yes (c := true) (d := true) rfl (fun v w h => h), fun h w => optUndef h, fun zβ za zw zc => ?_⟩, ?_⟩
    · exact ld_24 rfl (zc.kn.ev rfl) (bkeeps zc.below _ _ ((hB16.cell 0).trans rfl)) ⟨_, rfl, Below.refl _ _, optDef zβ rfl⟩
    refine ⟨⟨(true && true), .yes (c := true) (d := true) rfl (fun v w h => h), fun h w => optUndef h, fun zβ za zw zc => ?_⟩, ?_⟩
    · exact wp_call (by kernel_rfl) rfl (hv1 ((show za.eval (.tmp 10) = za.tmps.getD 10 undef from rfl).trans (optVal (zc.dep 5 10 (by kernel_rfl)) rfl zβ))) (ret_of (sigCheck_any A _ _ (IsSig.below (bstep hb17 zc.below) hA))) (fun v w' h => ⟨v, rfl, h.2, optDef zβ h.1⟩)
    refine ⟨⟨(true && true), .yes (c := true) (d := true) rfl (fun v w h => h), fun h w => optUndef h, fun zβ za zw zc => ?_⟩, ?_⟩
    · exact eql_3 rfl ((show za.eval (.tmp 9) = za.tmps.getD 9 undef from rfl).trans (optVal (zc.dep 4 9 (by kernel_rfl)) rfl zβ)) ((show za.eval (.tmp 11) = za.tmps.getD 11 undef from rfl).trans (optVal (zc.dep 6 11 (by kernel_rfl)) rfl zβ)) ⟨_, rfl, Below.refl _ _, optDef zβ rfl⟩
    refine ⟨⟨true, .none rfl, fun h w => optUndef h, fun zβ za zw zc => ?_⟩, ?_⟩
    · exact wp_and rfl ((show za.eval (.tmp 6) = za.tmps.getD 6 undef from rfl).trans (optVal (zc.dep 1 6 (by kernel_rfl)) rfl rfl)) (fun hp => ((show za.eval (.tmp 12) = za.tmps.getD 12 undef from rfl).trans (optVal (zc.dep 7 12 (by kernel_rfl)) rfl (bMk zβ hp)))) ⟨_, rfl, Below.refl _ _, optDef zβ rfl⟩
    refine ⟨⟨true, .none rfl, fun h w => optUndef h, fun zβ za zw zc => ?_⟩, ?_⟩
    · exact wp_move rfl ((show za.eval (.tmp 13) = za.tmps.getD 13 undef from rfl).trans (optVal (zc.dep 8 13 (by kernel_rfl)) rfl rfl)) ⟨_, rfl, Below.refl _ _, optDef zβ rfl⟩
    refine ⟨⟨(true && (true && (((sigCheck A) : Int) == ((sigCheck A) : Int)))), .yes (c := (true && (((sigCheck A) : Int) == ((sigCheck A) : Int)))) (d := true) rfl (fun v w h => h), fun h w => optUndef h, fun zβ za zw zc => ?_⟩, ?_⟩
    · exact ld_24 rfl (zc.kn.ev rfl) (bkeeps zc.below _ _ ((hB16.cell 0).trans rfl)) ⟨_, rfl, Below.refl _ _, optDef zβ rfl⟩
    refine ⟨⟨(true && (true && (((sigCheck A) : Int) == ((sigCheck A) : Int)))), .yes (c := (true && (((sigCheck A) : Int) == ((sigCheck A) : Int)))) (d := true) rfl (fun v w h => h), fun h w => optUndef h, fun zβ za zw zc => ?_⟩, ?_⟩
    · exact ld_24 rfl (zc.kn.ev rfl) (bkeeps zc.below _ _ ((hB11.cell 0).trans rfl)) ⟨_, rfl, Below.refl _ _, optDef zβ rfl⟩
    refine ⟨⟨(true && (true && (((sigCheck A) : Int) == ((sigCheck A) : Int)))), .yes (c := (true && (((sigCheck A) : Int) == ((sigCheck A) : Int)))) (d := true) rfl (fun v w h => h), fun h w => optUndef h, fun zβ za zw zc => ?_⟩, ?_⟩
    · exact wp_call (by kernel_rfl) rfl (hv2 ((show za.eval (.tmp 15) = za.tmps.getD 15 undef from rfl).trans (optVal (zc.dep 10 15 (by kernel_rfl)) rfl zβ)) ((show za.eval (.tmp 16) = za.tmps.getD 16 undef from rfl).trans (optVal (zc.dep 11 16 (by kernel_rfl)) rfl zβ))) (psame_any A B _ _ _ (IsSig.below (bstep hb17 zc.below) hA) (IsSig.below (bstep hb17 zc.below) hB)) (fun v w' h => ⟨v, rfl, h.2, optDef zβ h.1⟩)
    refine ⟨⟨(true && (true && (((sigCheck A) : Int) == ((sigCheck A) : Int)))), .yes (c := (true && (((sigCheck A) : Int) == ((sigCheck A) : Int)))) (d := true) rfl (fun v w h => h), fun h w => optUndef h, fun zβ za zw zc => ?_⟩, ?_⟩
    · exact ld_24 rfl (zc.kn.ev rfl) (bkeeps zc.below _ _ ((hB16.cell 0).trans rfl)) ⟨_, rfl, Below.refl _ _, optDef zβ rfl⟩
    refine ⟨⟨(true && (true && (((sigCheck A) : Int) == ((sigCheck A) : Int)))), .yes (c := (true && (((sigCheck A) : Int) == ((sigCheck A) : Int)))) (d := true) rfl (fun v w h => h), fun h w => optUndef h, fun zβ za zw zc => ?_⟩, ?_⟩
    · exact ld_24 rfl (zc.kn.ev rfl) (bkeeps zc.below _ _ ((hB11.cell 0).trans rfl)) ⟨_, rfl, Below.refl _ _, optDef zβ rfl⟩
    refine ⟨⟨(true && (true && (((sigCheck A) : Int) == ((sigCheck A) : Int)))), .yes (c := (true && (((sigCheck A) : Int) == ((sigCheck A) : Int)))) (d := true) rfl (fun v w h => h), fun h w => optUndef h, fun zβ za zw zc => ?_⟩, ?_⟩
    · exact wp_call (by kernel_rfl) rfl (hv2 ((show za.eval (.tmp 18) = za.tmps.getD 18 undef from rfl).trans (optVal (zc.dep 13 18 (by kernel_rfl)) rfl zβ)) ((show za.eval (.tmp 19) = za.tmps.getD 19 undef from rfl).trans (optVal (zc.dep 14 19 (by kernel_rfl)) rfl zβ))) (rsame_any A B _ _ _ (IsSig.below (bstep hb17 zc.below) hA) (IsSig.below (bstep hb17 zc.below) hB)) (fun v w' h => ⟨v, rfl, h.2, optDef zβ h.1⟩)
    refine ⟨⟨(true && (true && (((sigCheck A) : Int) == ((sigCheck A) : Int)))), .yes (c := (true && (((sigCheck A) : Int) == ((sigCheck A) : Int)))) (d := true) rfl (fun v w h => h), fun h w => optUndef h, fun zβ za zw zc => ?_⟩, ?_⟩
    · exact eql_4 rfl ((show za.eval (.tmp 17) = za.tmps.getD 17 undef from rfl).trans (optVal (zc.dep 12 17 (by kernel_rfl)) rfl zβ)) ((show za.eval (.tmp 20) = za.tmps.getD 20 undef from rfl).trans (optVal (zc.dep 15 20 (by kernel_rfl)) rfl zβ)) ⟨_, rfl, Below.refl _ _, optDef zβ rfl⟩
    refine ⟨⟨true, .none rfl, fun h w => optUndef h, fun zβ za zw zc => ?_⟩, ?_⟩
    · exact wp_and rfl ((show za.eval (.tmp 14) = za.tmps.getD 14 undef from rfl).trans (optVal (zc.dep 9 14 (by kernel_rfl)) rfl rfl)) (fun hp => ((show za.eval (.tmp 21) = za.tmps.getD 21 undef from rfl).trans (optVal (zc.dep 16 21 (by kernel_rfl)) rfl (bMk zβ hp)))) ⟨_, rfl, Below.refl _ _, optDef zβ rfl⟩
    refine ⟨⟨true, .none rfl, fun h w => optUndef h, fun zβ za zw zc => ?_⟩, ?_⟩
    · exact wp_move rfl ((show za.eval (.tmp 22) = za.tmps.getD 22 undef from rfl).trans (optVal (zc.dep 17 22 (by kernel_rfl)) rfl rfl)) ⟨_, rfl, Below.refl _ _, optDef zβ rfl⟩
    refine ⟨⟨(true && ((true && (((sigCheck A) : Int) == ((sigCheck A) : Int))) && ((decide (A = B)) == (decide (A = B))))), .yes (c := ((true && (((sigCheck A) : Int) == ((sigCheck A) : Int))) && ((decide (A = B)) == (decide (A = B))))) (d := true) rfl (fun v w h => h), fun h w => optUndef h, fun zβ za zw zc => ?_⟩, ?_⟩
    · exact ld_24 rfl (zc.kn.ev rfl) (bkeeps zc.below _ _ ((hB11.cell 0).trans rfl)) ⟨_, rfl, Below.refl _ _, optDef zβ rfl⟩
    refine ⟨⟨(true && ((true && (((sigCheck A) : Int) == ((sigCheck A) : Int))) && ((decide (A = B)) == (decide (A = B))))), .yes (c := ((true && (((sigCheck A) : Int) == ((sigCheck A) : Int))) && ((decide (A = B)) == (decide (A = B))))) (d := true) rfl (fun v w h => h), fun h w => optUndef h, fun zβ za zw zc => ?_⟩, ?_⟩
    · exact ld_24 rfl (zc.kn.ev rfl) (bkeeps zc.below _ _ ((hB11.cell 0).trans rfl)) ⟨_, rfl, Below.refl _ _, optDef zβ rfl⟩
    refine ⟨⟨(true && ((true && (((sigCheck A) : Int) == ((sigCheck A) : Int))) && ((decide (A = B)) == (decide (A = B))))), .yes (c := ((true && (((sigCheck A) : Int) == ((sigCheck A) : Int))) && ((decide (A = B)) == (decide (A = B))))) (d := true) rfl (fun v w h => h), fun h w => optUndef h, fun zβ za zw zc => ?_⟩, ?_⟩
    · exact wp_call (by kernel_rfl) rfl (hv2 ((show za.eval (.tmp 24) = za.tmps.getD 24 undef from rfl).trans (optVal (zc.dep 19 24 (by kernel_rfl)) rfl zβ)) ((show za.eval (.tmp 25) = za.tmps.getD 25 undef from rfl).trans (optVal (zc.dep 20 25 (by kernel_rfl)) rfl zβ))) (psame_any B B _ _ _ (IsSig.below (bstep hb17 zc.below) hB) (IsSig.below (bstep hb17 zc.below) hB)) (fun v w' h => ⟨v, rfl, h.2, optDef zβ h.1⟩)
    refine ⟨⟨true, .none rfl, fun h w => optUndef h, fun zβ za zw zc => ?_⟩, ?_⟩
    · exact wp_and rfl ((show za.eval (.tmp 23) = za.tmps.getD 23 undef from rfl).trans (optVal (zc.dep 18 23 (by kernel_rfl)) rfl rfl)) (fun hp => ((show za.eval (.tmp 26) = za.tmps.getD 26 undef from rfl).trans (optVal (zc.dep 21 26 (by kernel_rfl)) rfl (bMk zβ hp)))) ⟨_, rfl, Below.refl _ _, optDef zβ rfl⟩
    refine ⟨⟨true, .none rfl, fun h w => optUndef h, fun zβ za zw zc => ?_⟩, ?_⟩
    · exact wp_move rfl ((show za.eval (.tmp 27) = za.tmps.getD 27 undef from rfl).trans (optVal (zc.dep 22 27 (by kernel_rfl)) rfl rfl)) ⟨_, rfl, Below.refl _ _, optDef zβ rfl⟩
    refine ⟨⟨(true && (((true && (((sigCheck A) : Int) == ((sigCheck A) : Int))) && ((decide (A = B)) == (decide (A = B)))) && (decide (B = B)))), .yes (c := (((true && (((sigCheck A) : Int) == ((sigCheck A) : Int))) && ((decide (A = B)) == (decide (A = B)))) && (decide (B = B)))) (d := true) rfl (fun v w h => h), fun h w => optUndef h, fun zβ za zw zc => ?_⟩, ?_⟩
    · exact wp_call (by kernel_rfl) rfl (hv0) (new_any _) (fun v w' h => ⟨v, rfl, h.2, optDef zβ h.1⟩)
    refine ⟨⟨(true && (((true && (((sigCheck A) : Int) == ((sigCheck A) : Int))) && ((decide (A = B)) == (decide (A = B)))) && (decide (B = B)))), .yes (c := (((true && (((sigCheck A) : Int) == ((sigCheck A) : Int))) && ((decide (A = B)) == (decide (A = B)))) && (decide (B = B)))) (d := true) rfl (fun v w h => h), fun h w => optUndef h, fun zβ za zw zc => ?_⟩, ?_⟩
    · exact wp_call (by kernel_rfl) rfl (hv0) (ret_of (truth_any _)) (fun v w' h => ⟨v, rfl, h.2, optDef zβ h.1⟩)
    refine ⟨⟨(true && (((true && (((sigCheck A) : Int) == ((sigCheck A) : Int))) && ((decide (A = B)) == (decide (A = B)))) && (decide (B = B)))), .yes (c := (((true && (((sigCheck A) : Int) == ((sigCheck A) : Int))) && ((decide (A = B)) == (decide (A = B)))) && (decide (B = B)))) (d := true) rfl (fun v w h => h), fun h w => optUndef h, fun zβ za zw zc => ?_⟩, ?_⟩
    · exact row_22_1 rfl ((show za.eval (.tmp 30) = za.tmps.getD 30 undef from rfl).trans (optVal (zc.dep 25 30 (by kernel_rfl)) rfl zβ)) ⟨_, rfl, balloc _ _, optDef zβ ⟨_, rfl, Blk.new' rfl⟩⟩
    refine ⟨⟨(true && (((true && (((sigCheck A) : Int) == ((sigCheck A) : Int))) && ((decide (A = B)) == (decide (A = B)))) && (decide (B = B)))), .yes (c := (((true && (((sigCheck A) : Int) == ((sigCheck A) : Int))) && ((decide (A = B)) == (decide (A = B)))) && (decide (B = B)))) (d := true) rfl (fun v w h => h), fun h w => optUndef h, fun zβ za zw zc => ?_⟩, ?_⟩
    · obtain ⟨g, e, hB⟩ := (optMem (zc.dep 26 31 (by kernel_rfl)) rfl zβ)
      exact build_24_0 rfl ((show za.eval (.tmp 31) = za.tmps.getD 31 undef from rfl).trans e) ⟨_, rfl, Below.refl _ _, optDef zβ (isSig_one hB truth_wf.1 truth_wf.2)⟩
    refine ⟨⟨(true && (((true && (((sigCheck A) : Int) == ((sigCheck A) : Int))) && ((decide (A = B)) == (decide (A = B)))) && (decide (B = B)))), .yes (c := (((true && (((sigCheck A) : Int) == ((sigCheck A) : Int))) && ((decide (A = B)) == (decide (A = B)))) && (decide (B = B)))) (d := true) rfl (fun v w h => h), fun h w => optUndef h, fun zβ za zw zc => ?_⟩, ?_⟩
    · exact wp_call (by kernel_rfl) rfl (hv2 (show za.eval (.tmp 29) = za.tmps.getD 29 undef from rfl) (show za.eval (.tmp 32) = za.tmps.getD 32 undef from rfl)) (rsame_any [truth] [truth] _ _ _ (optMem (zc.dep 24 29 (by kernel_rfl)) rfl zβ) (optMem (zc.dep 27 32 (by kernel_rfl)) rfl zβ)) (fun v w' h => ⟨v, rfl, h.2, optDef zβ h.1⟩)
    refine ⟨⟨true, .none rfl, fun h w => optUndef h, fun zβ za zw zc => ?_⟩, ?_⟩
    · exact wp_and rfl ((show za.eval (.tmp 28) = za.tmps.getD 28 undef from rfl).trans (optVal (zc.dep 23 28 (by kernel_rfl)) rfl rfl)) (fun hp => ((show za.eval (.tmp 33) = za.tmps.getD 33 undef from rfl).trans (optVal (zc.dep 28 33 (by kernel_rfl)) rfl (bMk zβ hp)))) ⟨_, rfl, Below.refl _ _, optDef zβ rfl⟩
    refine ⟨⟨true, .none rfl, fun h w => optUndef h, fun zβ za zw zc => ?_⟩, ?_⟩
    · exact wp_assign rfl ((show za.eval (.tmp 34) = za.tmps.getD 34 undef from rfl).trans (optVal (zc.dep 29 34 (by kernel_rfl)) rfl rfl)) ⟨_, rfl, Below.refl _ _, optDef zβ rfl⟩
    exact trivial
  · intro za w18 zh hb19 zu
    have zh := zh.cons (d := 4) (v := .bool (((((true && (((sigCheck A) : Int) == ((sigCheck A) : Int))) && ((decide (A = B)) == (decide (A = B)))) && (decide (B = B))) && (decide ([truth] = [truth]))))) (optVal (zu 30 4 (by kernel_rfl)) rfl rfl)
    clear zu
    refine (show WE _ [(0, .agg #[.slice a A.length c]), (1, .agg #[.slice a2 B.length c2]), (2, .pointer (some ⟨g2, 0, none⟩)), (3, .pointer (some ⟨g9, 0, none⟩)), (4, .bool (((((true && (((sigCheck A) : Int) == ((sigCheck A) : Int))) && ((decide (A = B)) == (decide (A = B)))) && (decide (B = B))) && (decide ([truth] = [truth])))))] w18 _ .normal from ?_) za (zh.sub ⟨rfl, rfl, rfl, rfl, rfl, trivial⟩)
    refine WE.next ?_
    refine WC.ret ?_
    refine WE.ret1 rfl rfl ?_
    have hb20 : Below w.heap.size w w18 := (bstep hb17 hb19)
    exact ⟨_, rfl, congrArg Value.bool (by simp), hb20⟩

end Go.Proofs.Ytbnjppmmhhjjbaa
