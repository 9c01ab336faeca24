/- The walks through the laws of signatures. -/
import Derived.Test.YtbnjppmmhhjjbaaDoorSgnAdd2
namespace Go.Proofs.YtbnjppmmhhjjbaaDoor
open Go.RowKit Go
set_option linter.unusedVariables false
set_option linter.unusedSimpArgs false

def fSy : Sy := ⟨⟨#[102]⟩, 2, false⟩
theorem add_f : addRes [truth] [fSy] = ([truth, fSy], 0) := by decide +kernel
theorem at_f : syAt fSy [truth, fSy] 0 = 1 := by decide +kernel
theorem fSy_wf : I64 fSy.ar ∧ fSy.name.size ≤ maxLen := ⟨by unfold I64; decide, by decide +kernel⟩
theorem isSys_one {w : World} {g : Nat} {x : Sy} (h : Blk w g 26 #[.string x.name, .int .i64 x.ar, .bool x.pred]) (h1 : I64 x.ar) (h2 : x.name.size ≤ maxLen) : IsSys w [x] (some ⟨g, 0, none⟩) := by
  obtain ⟨a, c, e, _, _, h⟩ := isSig_one h h1 h2
  simp only [Value.agg.injEq, Array.mk.injEq, List.cons.injEq, and_true, Value.slice.injEq] at e
  rw [e.1]; exact h
theorem find_sig (l : List Sy) (x : Sy) (w : World) {v : Value} (hv : IsSig w l v) : Calls Tryd.prog 12 #[v, x.val] w (Ret fun v' w' => v' = .tuple #[.int .i64 (max (syAt x l 0) 0), .bool (decide ((0 : Int) ≤ syAt x l 0))] ∧ Below w.heap.size w w') := find_any l x w v hv
theorem isSig_empty {w : World} : IsSig w [] (.agg #[.slice none 0 0]) := isSig_nil
set_option maxRecDepth 100000 in
theorem head_any (w : World) : Calls Tryd.prog 8 #[] w (Ret fun v' w' => v' = .bool true ∧ Below w.heap.size w w') := by
  refine Calls.walk (l := []) Tryd.func8 rfl (by kernel_rfl) ?_
  refine WC.sub (K' := []) trivial ?_
  refine WC.seq ?_
  refine WC.region ?_
  refine WL.val (.bool false) rfl rfl rfl (fun za zC zh zk => wp_assign rfl (zh.ev rfl) zk) ?_
  refine WL.nil (WE.sub (K' := [(0, .bool false)]) ⟨rfl, trivial⟩ ?_)
  refine WE.next ?_
  refine WC.seq ?_
  refine WC.region ?_
  refine WL.call rfl rfl rfl (fun za zh zC => wp_call (by kernel_rfl) rfl (hv0)) (new_any _) ?_
  rintro u w1 ⟨hN, hbn⟩
  refine WL.val (.agg #[.string ((⟨#[102]⟩ : ByteArray)), .int .i64 2, .bool false]) rfl rfl rfl (fun za zC zh zk => build_26_0_1 rfl (zh.ev rfl) (zh.ev rfl) zk) ?_
  refine WL.step (post := NewRow w1 26 #[.string ((⟨#[102]⟩ : ByteArray)), .int .i64 2, .bool false] 1) rfl rfl rfl (fun za zC zh zk => row_22_1 rfl (zh.ev rfl) (zk _ _ (newRow _ _ _ _))) ?_
  rintro _ w2 ⟨g3, rfl, hg4, hB5, hb6, hz7⟩
  have hl8 : w.heap.size ≤ g3 := by have z2 := (hbn).size; omega
  have hl9 : w1.heap.size ≤ g3 := by omega
  refine WL.call rfl rfl rfl (fun za zh zC => wp_call (by kernel_rfl) rfl (hv2 (zh.ev rfl) (zh.ev rfl))) (padd_any [truth] [fSy] _ _ _ _ (by decide) (by decide) (IsSig.below hb6 hN) (Nat.le_refl _) (by unfold maxLen; decide) (isSys_one (x := fSy) hB5 fSy_wf.1 fSy_wf.2)) ?_
  rintro _ w10 ⟨u2, rfl, hA, hba⟩
  rw [add_f] at hA
  obtain ⟨a1, n1, c1, rfl, hn1⟩ := isSig_blk hA
  refine WL.val (.tuple #[.agg #[.slice a1 n1 c1], .int .i64 ((addRes [truth] [fSy]).2)]) rfl rfl rfl (fun za zC zh zk => wp_move rfl (zh.ev rfl) zk) ?_
  refine WL.val (.agg #[.slice a1 n1 c1]) rfl rfl rfl (fun za zC zh zk => ext2_0 rfl (zh.ev rfl) zk) ?_
  refine WL.val (.int .i64 ((addRes [truth] [fSy]).2)) rfl rfl rfl (fun za zC zh zk => ext2_1 rfl (zh.ev rfl) zk) ?_
  refine WL.step (post := NewBlk w10 24 #[.slice none 0 0]) rfl rfl rfl (fun za zC zh zk => alloc_24 rfl (zk _ _ (newBlk _ _ _))) ?_
  rintro _ w11 ⟨g12, rfl, hg13, hB14, hb15, hz16⟩
  have hl17 : g3 < g12 := by have z1 := hB5.lt; have z2 := (hba).size; omega
  have hb18 : Below w.heap.size w w10 := (bstep (bstep hbn hb6) hba)
  have hl19 : w.heap.size ≤ g12 := by have z2 := (hb18).size; omega
  have hb20 : Below w1.heap.size w1 w10 := (bstep hb6 hba)
  have hl21 : w1.heap.size ≤ g12 := by have z2 := (hb20).size; omega
  have hl22 : w10.heap.size ≤ g12 := by omega
  refine WL.step (post := fun _ w' => Upd g12 w11 w' ∧ Blk w' g12 24 #[.slice a1 n1 c1]) rfl rfl rfl (fun za zC zh zk => st_24 rfl (zh.ev rfl) (zh.ev rfl) rfl hB14 (by first | decide | simp) (fun v => zk v _ ⟨Upd.at_ _ _ _ _, hB14.set_ 0 _⟩)) ?_
  rintro v26 w23 ⟨hu24, hB25⟩
  have hb27 : Below w.heap.size w w11 := (bstep hb18 hb15)
  have hb28 : Below w1.heap.size w1 w11 := (bstep hb20 hb15)
  have hb29 := upd_below hb27 hu24 (by omega)
  have hb30 := upd_below hb28 hu24 (by omega)
  have hb31 := upd_below hb15 hu24 (by omega)
  have hb33 : Below w2.heap.size w2 w11 := (bstep hba hb15)
  have hB32 := hB5.below hb33
  have hB34 := upd_blk hB32 hu24 (by omega)
  refine WL.val (.int .i64 ((addRes [truth] [fSy]).2)) rfl rfl rfl (fun za zC zh zk => wp_assign rfl (zh.ev rfl) zk) ?_
  refine WL.nil (WE.sub (K' := [(0, .bool false), (1, .pointer (some ⟨g12, 0, none⟩)), (2, .int .i64 ((addRes [truth] [fSy]).2))]) ⟨rfl, rfl, rfl, trivial⟩ ?_)
  refine WE.next ?_
  refine WC.seq ?_
  refine WC.region ?_
  refine WL.val (.agg #[.slice a1 n1 c1]) rfl rfl rfl (fun za zC zh zk => ld_24 rfl (zh.ev rfl) ((hB25.cell 0).trans rfl) zk) ?_
  refine WL.val (.agg #[.string ((⟨#[102]⟩ : ByteArray)), .int .i64 2, .bool false]) rfl rfl rfl (fun za zC zh zk => build_26_0_1 rfl (zh.ev rfl) (zh.ev rfl) zk) ?_
  refine WL.call rfl rfl rfl (fun za zh zC => wp_call (by kernel_rfl) rfl (hv2 (zh.ev rfl) (zh.ev rfl))) (find_sig [truth, fSy] fSy _ (IsSig.below hb31 hA)) ?_
  rintro _ w35 ⟨rfl, hbf⟩
  refine WL.val (.tuple #[.int .i64 ((max (syAt fSy [truth, fSy] 0) 0)), .bool ((decide ((0 : Int) ≤ syAt fSy [truth, fSy] 0)))]) rfl rfl rfl (fun za zC zh zk => wp_move rfl (zh.ev rfl) zk) ?_
  refine WL.val (.int .i64 ((max (syAt fSy [truth, fSy] 0) 0))) rfl rfl rfl (fun za zC zh zk => ext2_0 rfl (zh.ev rfl) zk) ?_
  refine WL.val (.bool ((decide ((0 : Int) ≤ syAt fSy [truth, fSy] 0)))) rfl rfl rfl (fun za zC zh zk => ext2_1 rfl (zh.ev rfl) zk) ?_
  refine WL.val (.int .i64 ((max (syAt fSy [truth, fSy] 0) 0))) rfl rfl rfl (fun za zC zh zk => wp_assign rfl (zh.ev rfl) zk) ?_
  refine WL.val (.bool ((decide ((0 : Int) ≤ syAt fSy [truth, fSy] 0)))) rfl rfl rfl (fun za zC zh zk => wp_assign rfl (zh.ev rfl) zk) ?_
  refine WL.nil (WE.sub (K' := [(0, .bool false), (1, .pointer (some ⟨g12, 0, none⟩)), (2, .int .i64 ((addRes [truth] [fSy]).2)), (3, .int .i64 ((max (syAt fSy [truth, fSy] 0) 0))), (4, .bool ((decide ((0 : Int) ≤ syAt fSy [truth, fSy] 0))))]) ⟨rfl, rfl, rfl, rfl, rfl, trivial⟩ ?_)
  refine WE.next ?_
  refine WC.seq ?_
  have hB36 := hB25.below hbf
  refine WC.opt [(true, .val (.int .i64 ((addRes [truth] [fSy]).2))), (true, .val (.bool ((((addRes [truth] [fSy]).2 : Int) == (0 : Int))))), (true, .val (.bool ((((addRes [truth] [fSy]).2 : Int) == (0 : Int))))), ((true && (((addRes [truth] [fSy]).2 : Int) == (0 : Int))), .val (.int .i64 ((max (syAt fSy [truth, fSy] 0) 0)))), ((true && (((addRes [truth] [fSy]).2 : Int) == (0 : Int))), .val (.bool ((((max (syAt fSy [truth, fSy] 0) 0) : Int) == (1 : Int))))), (true, .val (.bool (((((addRes [truth] [fSy]).2 : Int) == (0 : Int)) && (((max (syAt fSy [truth, fSy] 0) 0) : Int) == (1 : Int)))))), (true, .val (.bool (((((addRes [truth] [fSy]).2 : Int) == (0 : Int)) && (((max (syAt fSy [truth, fSy] 0) 0) : Int) == (1 : Int)))))), ((true && ((((addRes [truth] [fSy]).2 : Int) == (0 : Int)) && (((max (syAt fSy [truth, fSy] 0) 0) : Int) == (1 : Int)))), .val (.bool ((decide ((0 : Int) ≤ syAt fSy [truth, fSy] 0))))), (true, .val (.bool ((((((addRes [truth] [fSy]).2 : Int) == (0 : Int)) && (((max (syAt fSy [truth, fSy] 0) 0) : Int) == (1 : Int))) && (decide ((0 : Int) ≤ syAt fSy [truth, fSy] 0)))))), (true, .val (.bool ((((((addRes [truth] [fSy]).2 : Int) == (0 : Int)) && (((max (syAt fSy [truth, fSy] 0) 0) : Int) == (1 : Int))) && (decide ((0 : Int) ≤ syAt fSy [truth, fSy] 0)))))), ((true && (((((addRes [truth] [fSy]).2 : Int) == (0 : Int)) && (((max (syAt fSy [truth, fSy] 0) 0) : Int) == (1 : Int))) && (decide ((0 : Int) ≤ syAt fSy [truth, fSy] 0)))), .val (.pointer (some ⟨g12, 0, none⟩))), ((true && (((((addRes [truth] [fSy]).2 : Int) == (0 : Int)) && (((max (syAt fSy [truth, fSy] 0) 0) : Int) == (1 : Int))) && (decide ((0 : Int) ≤ syAt fSy [truth, fSy] 0)))), .val (.slice a1 n1 c1)), ((true && (((((addRes [truth] [fSy]).2 : Int) == (0 : Int)) && (((max (syAt fSy [truth, fSy] 0) 0) : Int) == (1 : Int))) && (decide ((0 : Int) ≤ syAt fSy [truth, fSy] 0)))), .val (.int .i64 (((n1 : Nat) : Int)))), ((true && (((((addRes [truth] [fSy]).2 : Int) == (0 : Int)) && (((max (syAt fSy [truth, fSy] 0) 0) : Int) == (1 : Int))) && (decide ((0 : Int) ≤ syAt fSy [truth, fSy] 0)))), .val (.bool (((((n1 : Nat) : Int) : Int) == (2 : Int))))), (true, .val (.bool (((((((addRes [truth] [fSy]).2 : Int) == (0 : Int)) && (((max (syAt fSy [truth, fSy] 0) 0) : Int) == (1 : Int))) && (decide ((0 : Int) ≤ syAt fSy [truth, fSy] 0))) && ((((n1 : Nat) : Int) : Int) == (2 : Int)))))), (true, .val (.bool (((((((addRes [truth] [fSy]).2 : Int) == (0 : Int)) && (((max (syAt fSy [truth, fSy] 0) 0) : Int) == (1 : Int))) && (decide ((0 : Int) ≤ syAt fSy [truth, fSy] 0))) && ((((n1 : Nat) : Int) : Int) == (2 : Int)))))), ((true && ((((((addRes [truth] [fSy]).2 : Int) == (0 : Int)) && (((max (syAt fSy [truth, fSy] 0) 0) : Int) == (1 : Int))) && (decide ((0 : Int) ≤ syAt fSy [truth, fSy] 0))) && ((((n1 : Nat) : Int) : Int) == (2 : Int)))), .val (.agg #[.slice none 0 0])), ((true && ((((((addRes [truth] [fSy]).2 : Int) == (0 : Int)) && (((max (syAt fSy [truth, fSy] 0) 0) : Int) == (1 : Int))) && (decide ((0 : Int) ≤ syAt fSy [truth, fSy] 0))) && ((((n1 : Nat) : Int) : Int) == (2 : Int)))), .val (.int .i64 ((sigCheck [])))), ((true && ((((((addRes [truth] [fSy]).2 : Int) == (0 : Int)) && (((max (syAt fSy [truth, fSy] 0) 0) : Int) == (1 : Int))) && (decide ((0 : Int) ≤ syAt fSy [truth, fSy] 0))) && ((((n1 : Nat) : Int) : Int) == (2 : Int)))), .val (.bool ((((sigCheck []) : Int) == (110 : Int))))), (true, .val (.bool ((((((((addRes [truth] [fSy]).2 : Int) == (0 : Int)) && (((max (syAt fSy [truth, fSy] 0) 0) : Int) == (1 : Int))) && (decide ((0 : Int) ≤ syAt fSy [truth, fSy] 0))) && ((((n1 : Nat) : Int) : Int) == (2 : Int))) && (((sigCheck []) : Int) == (110 : Int)))))), (true, .val (.bool ((((((((addRes [truth] [fSy]).2 : Int) == (0 : Int)) && (((max (syAt fSy [truth, fSy] 0) 0) : Int) == (1 : Int))) && (decide ((0 : Int) ≤ syAt fSy [truth, fSy] 0))) && ((((n1 : Nat) : Int) : Int) == (2 : Int))) && (((sigCheck []) : Int) == (110 : Int))))))] [(1, .pointer (some ⟨g12, 0, none⟩)), (2, .int .i64 ((addRes [truth] [fSy]).2)), (3, .int .i64 ((max (syAt fSy [truth, fSy] 0) 0))), (4, .bool ((decide ((0 : Int) ≤ syAt fSy [truth, fSy] 0))))] ⟨rfl, rfl, rfl, rfl, trivial⟩ (by kernel_rfl) (by kernel_rfl) (by kernel_rfl) ?_ ?_
  · refine ⟨⟨true, .none rfl, fun h w => optUndef h, fun zβ za zw zc => ?_⟩, ?_⟩
    · exact wp_move rfl (zc.kn.ev rfl) ⟨_, rfl, Below.refl _ _, optDef zβ rfl⟩
    refine ⟨⟨true, .none rfl, fun h w => optUndef h, fun zβ za zw zc => ?_⟩, ?_⟩
    · exact eql_27 rfl ((show za.eval (.tmp 18) = za.tmps.getD 18 undef from rfl).trans (optVal (zc.dep 0 18 (by kernel_rfl)) rfl rfl)) (zc.kn.ev rfl) ⟨_, rfl, Below.refl _ _, optDef zβ rfl⟩
    refine ⟨⟨true, .none rfl, fun h w => optUndef h, fun zβ za zw zc => ?_⟩, ?_⟩
    · exact wp_move rfl ((show za.eval (.tmp 19) = za.tmps.getD 19 undef from rfl).trans (optVal (zc.dep 1 19 (by kernel_rfl)) rfl rfl)) ⟨_, rfl, Below.refl _ _, optDef zβ rfl⟩
    refine ⟨⟨(true && (((addRes [truth] [fSy]).2 : Int) == (0 : Int))), .yes (c := (((addRes [truth] [fSy]).2 : Int) == (0 : Int))) (d := true) rfl (fun v w h => h), fun h w => optUndef h, fun zβ za zw zc => ?_⟩, ?_⟩
    · exact wp_move rfl (zc.kn.ev rfl) ⟨_, rfl, Below.refl _ _, optDef zβ rfl⟩
    refine ⟨⟨(true && (((addRes [truth] [fSy]).2 : Int) == (0 : Int))), .yes (c := (((addRes [truth] [fSy]).2 : Int) == (0 : Int))) (d := true) rfl (fun v w h => h), fun h w => optUndef h, fun zβ za zw zc => ?_⟩, ?_⟩
    · exact eql_3 rfl ((show za.eval (.tmp 21) = za.tmps.getD 21 undef from rfl).trans (optVal (zc.dep 3 21 (by kernel_rfl)) rfl zβ)) (zc.kn.ev rfl) ⟨_, rfl, Below.refl _ _, optDef zβ rfl⟩
    refine ⟨⟨true, .none rfl, fun h w => optUndef h, fun zβ za zw zc => ?_⟩, ?_⟩
    · exact wp_and rfl ((show za.eval (.tmp 20) = za.tmps.getD 20 undef from rfl).trans (optVal (zc.dep 2 20 (by kernel_rfl)) rfl rfl)) (fun hp => ((show za.eval (.tmp 22) = za.tmps.getD 22 undef from rfl).trans (optVal (zc.dep 4 22 (by kernel_rfl)) rfl (bMk zβ hp)))) ⟨_, rfl, Below.refl _ _, optDef zβ rfl⟩
    refine ⟨⟨true, .none rfl, fun h w => optUndef h, fun zβ za zw zc => ?_⟩, ?_⟩
    · exact wp_move rfl ((show za.eval (.tmp 23) = za.tmps.getD 23 undef from rfl).trans (optVal (zc.dep 5 23 (by kernel_rfl)) rfl rfl)) ⟨_, rfl, Below.refl _ _, optDef zβ rfl⟩
    refine ⟨⟨(true && ((((addRes [truth] [fSy]).2 : Int) == (0 : Int)) && (((max (syAt fSy [truth, fSy] 0) 0) : Int) == (1 : Int)))), .yes (c := ((((addRes [truth] [fSy]).2 : Int) == (0 : Int)) && (((max (syAt fSy [truth, fSy] 0) 0) : Int) == (1 : Int)))) (d := true) rfl (fun v w h => h), fun h w => optUndef h, fun zβ za zw zc => ?_⟩, ?_⟩
    · exact wp_move rfl (zc.kn.ev rfl) ⟨_, rfl, Below.refl _ _, optDef zβ rfl⟩
    refine ⟨⟨true, .none rfl, fun h w => optUndef h, fun zβ za zw zc => ?_⟩, ?_⟩
    · exact wp_and rfl ((show za.eval (.tmp 24) = za.tmps.getD 24 undef from rfl).trans (optVal (zc.dep 6 24 (by kernel_rfl)) rfl rfl)) (fun hp => ((show za.eval (.tmp 25) = za.tmps.getD 25 undef from rfl).trans (optVal (zc.dep 7 25 (by kernel_rfl)) rfl (bMk zβ hp)))) ⟨_, rfl, Below.refl _ _, optDef zβ rfl⟩
    refine ⟨⟨true, .none rfl, fun h w => optUndef h, fun zβ za zw zc => ?_⟩, ?_⟩
    · exact wp_move rfl ((show za.eval (.tmp 26) = za.tmps.getD 26 undef from rfl).trans (optVal (zc.dep 8 26 (by kernel_rfl)) rfl rfl)) ⟨_, rfl, Below.refl _ _, optDef zβ rfl⟩
    refine ⟨⟨(true && (((((addRes [truth] [fSy]).2 : Int) == (0 : Int)) && (((max (syAt fSy [truth, fSy] 0) 0) : Int) == (1 : Int))) && (decide ((0 : Int) ≤ syAt fSy [truth, fSy] 0)))), .yes (c := (((((addRes [truth] [fSy]).2 : Int) == (0 : Int)) && (((max (syAt fSy [truth, fSy] 0) 0) : Int) == (1 : Int))) && (decide ((0 : Int) ≤ syAt fSy [truth, fSy] 0)))) (d := true) rfl (fun v w h => h), fun h w => optUndef h, fun zβ za zw zc => ?_⟩, ?_⟩
    · exact fld_24_0 rfl (zc.kn.ev rfl) ⟨_, rfl, Below.refl _ _, optDef zβ rfl⟩
    refine ⟨⟨(true && (((((addRes [truth] [fSy]).2 : Int) == (0 : Int)) && (((max (syAt fSy [truth, fSy] 0) 0) : Int) == (1 : Int))) && (decide ((0 : Int) ≤ syAt fSy [truth, fSy] 0)))), .yes (c := (((((addRes [truth] [fSy]).2 : Int) == (0 : Int)) && (((max (syAt fSy [truth, fSy] 0) 0) : Int) == (1 : Int))) && (decide ((0 : Int) ≤ syAt fSy [truth, fSy] 0)))) (d := true) rfl (fun v w h => h), fun h w => optUndef h, fun zβ za zw zc => ?_⟩, ?_⟩
    · exact ld_22 rfl ((show za.eval (.tmp 28) = za.tmps.getD 28 undef from rfl).trans (optVal (zc.dep 10 28 (by kernel_rfl)) rfl zβ)) (bkeeps zc.below _ _ ((hB36.cell 0).trans rfl)) ⟨_, rfl, Below.refl _ _, optDef zβ rfl⟩
    refine ⟨⟨(true && (((((addRes [truth] [fSy]).2 : Int) == (0 : Int)) && (((max (syAt fSy [truth, fSy] 0) 0) : Int) == (1 : Int))) && (decide ((0 : Int) ≤ syAt fSy [truth, fSy] 0)))), .yes (c := (((((addRes [truth] [fSy]).2 : Int) == (0 : Int)) && (((max (syAt fSy [truth, fSy] 0) 0) : Int) == (1 : Int))) && (decide ((0 : Int) ≤ syAt fSy [truth, fSy] 0)))) (d := true) rfl (fun v w h => h), fun h w => optUndef h, fun zβ za zw zc => ?_⟩, ?_⟩
    · exact len_22 rfl ((show za.eval (.tmp 29) = za.tmps.getD 29 undef from rfl).trans (optVal (zc.dep 11 29 (by kernel_rfl)) rfl zβ)) ⟨_, rfl, Below.refl _ _, optDef zβ rfl⟩
    refine ⟨⟨(true && (((((addRes [truth] [fSy]).2 : Int) == (0 : Int)) && (((max (syAt fSy [truth, fSy] 0) 0) : Int) == (1 : Int))) && (decide ((0 : Int) ≤ syAt fSy [truth, fSy] 0)))), .yes (c := (((((addRes [truth] [fSy]).2 : Int) == (0 : Int)) && (((max (syAt fSy [truth, fSy] 0) 0) : Int) == (1 : Int))) && (decide ((0 : Int) ≤ syAt fSy [truth, fSy] 0)))) (d := true) rfl (fun v w h => h), fun h w => optUndef h, fun zβ za zw zc => ?_⟩, ?_⟩
    · exact eql_3 rfl ((show za.eval (.tmp 30) = za.tmps.getD 30 undef from rfl).trans (optVal (zc.dep 12 30 (by kernel_rfl)) rfl zβ)) (zc.kn.ev rfl) ⟨_, rfl, Below.refl _ _, optDef zβ rfl⟩
    refine ⟨⟨true, .none rfl, fun h w => optUndef h, fun zβ za zw zc => ?_⟩, ?_⟩
    · exact wp_and rfl ((show za.eval (.tmp 27) = za.tmps.getD 27 undef from rfl).trans (optVal (zc.dep 9 27 (by kernel_rfl)) rfl rfl)) (fun hp => ((show za.eval (.tmp 31) = za.tmps.getD 31 undef from rfl).trans (optVal (zc.dep 13 31 (by kernel_rfl)) rfl (bMk zβ hp)))) ⟨_, rfl, Below.refl _ _, optDef zβ rfl⟩
    refine ⟨⟨true, .none rfl, fun h w => optUndef h, fun zβ za zw zc => ?_⟩, ?_⟩
    · exact wp_move rfl ((show za.eval (.tmp 32) = za.tmps.getD 32 undef from rfl).trans (optVal (zc.dep 14 32 (by kernel_rfl)) rfl rfl)) ⟨_, rfl, Below.refl _ _, optDef zβ rfl⟩
    refine ⟨⟨(true && ((((((addRes [truth] [fSy]).2 : Int) == (0 : Int)) && (((max (syAt fSy [truth, fSy] 0) 0) : Int) == (1 : Int))) && (decide ((0 : Int) ≤ syAt fSy [truth, fSy] 0))) && ((((n1 : Nat) : Int) : Int) == (2 : Int)))), .yes (c := ((((((addRes [truth] [fSy]).2 : Int) == (0 : Int)) && (((max (syAt fSy [truth, fSy] 0) 0) : Int) == (1 : Int))) && (decide ((0 : Int) ≤ syAt fSy [truth, fSy] 0))) && ((((n1 : Nat) : Int) : Int) == (2 : Int)))) (d := true) rfl (fun v w h => h), fun h w => optUndef h, fun zβ za zw zc => ?_⟩, ?_⟩
    · exact build_24_ rfl  ⟨_, rfl, Below.refl _ _, optDef zβ rfl⟩
    refine ⟨⟨(true && ((((((addRes [truth] [fSy]).2 : Int) == (0 : Int)) && (((max (syAt fSy [truth, fSy] 0) 0) : Int) == (1 : Int))) && (decide ((0 : Int) ≤ syAt fSy [truth, fSy] 0))) && ((((n1 : Nat) : Int) : Int) == (2 : Int)))), .yes (c := ((((((addRes [truth] [fSy]).2 : Int) == (0 : Int)) && (((max (syAt fSy [truth, fSy] 0) 0) : Int) == (1 : Int))) && (decide ((0 : Int) ≤ syAt fSy [truth, fSy] 0))) && ((((n1 : Nat) : Int) : Int) == (2 : Int)))) (d := true) rfl (fun v w h => h), fun h w => optUndef h, fun zβ za zw zc => ?_⟩, ?_⟩
    · exact wp_call (by kernel_rfl) rfl (hv1 ((show za.eval (.tmp 34) = za.tmps.getD 34 undef from rfl).trans (optVal (zc.dep 16 34 (by kernel_rfl)) rfl zβ))) (pcheck_any [] _ _ isSig_empty) (fun v w' h => ⟨v, rfl, h.2, optDef zβ h.1⟩)
    refine ⟨⟨(true && ((((((addRes [truth] [fSy]).2 : Int) == (0 : Int)) && (((max (syAt fSy [truth, fSy] 0) 0) : Int) == (1 : Int))) && (decide ((0 : Int) ≤ syAt fSy [truth, fSy] 0))) && ((((n1 : Nat) : Int) : Int) == (2 : Int)))), .yes (c := ((((((addRes [truth] [fSy]).2 : Int) == (0 : Int)) && (((max (syAt fSy [truth, fSy] 0) 0) : Int) == (1 : Int))) && (decide ((0 : Int) ≤ syAt fSy [truth, fSy] 0))) && ((((n1 : Nat) : Int) : Int) == (2 : Int)))) (d := true) rfl (fun v w h => h), fun h w => optUndef h, fun zβ za zw zc => ?_⟩, ?_⟩
    · exact eql_27 rfl ((show za.eval (.tmp 35) = za.tmps.getD 35 undef from rfl).trans (optVal (zc.dep 17 35 (by kernel_rfl)) rfl zβ)) (zc.kn.ev rfl) ⟨_, rfl, Below.refl _ _, optDef zβ rfl⟩
    refine ⟨⟨true, .none rfl, fun h w => optUndef h, fun zβ za zw zc => ?_⟩, ?_⟩
    · exact wp_and rfl ((show za.eval (.tmp 33) = za.tmps.getD 33 undef from rfl).trans (optVal (zc.dep 15 33 (by kernel_rfl)) rfl rfl)) (fun hp => ((show za.eval (.tmp 36) = za.tmps.getD 36 undef from rfl).trans (optVal (zc.dep 18 36 (by kernel_rfl)) rfl (bMk zβ hp)))) ⟨_, rfl, Below.refl _ _, optDef zβ rfl⟩
    refine ⟨⟨true, .none rfl, fun h w => optUndef h, fun zβ za zw zc => ?_⟩, ?_⟩
    · exact wp_assign rfl ((show za.eval (.tmp 37) = za.tmps.getD 37 undef from rfl).trans (optVal (zc.dep 19 37 (by kernel_rfl)) rfl rfl)) ⟨_, rfl, Below.refl _ _, optDef zβ rfl⟩
    exact trivial
  · intro za w37 zh hb38 zu
    have zh := zh.cons (d := 0) (v := .bool ((((((((addRes [truth] [fSy]).2 : Int) == (0 : Int)) && (((max (syAt fSy [truth, fSy] 0) 0) : Int) == (1 : Int))) && (decide ((0 : Int) ≤ syAt fSy [truth, fSy] 0))) && ((((n1 : Nat) : Int) : Int) == (2 : Int))) && (((sigCheck []) : Int) == (110 : Int))))) (optVal (zu 20 0 (by kernel_rfl)) rfl rfl)
    clear zu
    refine (show WE _ [(0, .bool ((((((((addRes [truth] [fSy]).2 : Int) == (0 : Int)) && (((max (syAt fSy [truth, fSy] 0) 0) : Int) == (1 : Int))) && (decide ((0 : Int) ≤ syAt fSy [truth, fSy] 0))) && ((((n1 : Nat) : Int) : Int) == (2 : Int))) && (((sigCheck []) : Int) == (110 : Int))))), (1, .pointer (some ⟨g12, 0, none⟩)), (2, .int .i64 ((addRes [truth] [fSy]).2)), (3, .int .i64 ((max (syAt fSy [truth, fSy] 0) 0))), (4, .bool ((decide ((0 : Int) ≤ syAt fSy [truth, fSy] 0))))] w37 _ .normal from ?_) za (zh.sub ⟨rfl, rfl, rfl, rfl, rfl, trivial⟩)
    refine WE.next ?_
    refine WC.ret ?_
    refine WE.ret1 rfl rfl ?_
    have hb39 : Below w.heap.size w w37 := (bstep (bstep hb29 hbf) hb38)
    exact ⟨_, rfl, congrArg Value.bool (by rw [hn1, add_f, at_f]; decide +kernel), hb39⟩

end Go.Proofs.YtbnjppmmhhjjbaaDoor
