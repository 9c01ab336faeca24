/- The walk through the law of symbols that are added. -/
import Derived.Test.YtbnjppmmhhjjbaaSgnLaws
namespace Go.Proofs.Ytbnjppmmhhjjbaa
open Go.RowKit Go

theorem padd_own {A B : List Sy} {w : World} {v : Value} {S : Nat → Prop} {ra : Option Addr} {rc n : Nat} {xs : List Value} (hzA : A.length ≤ 1073741824) (hzB : B.length ≤ 1073741824) (hv : IsSig w A v) (h : Own w S 35 3 ra rc n xs) (hx : xs = syCells B) (hB : ∀ x ∈ B, I64 x.ar ∧ x.name.size ≤ maxLen) : Calls Try.prog 6 #[v, .slice ra n rc] w (Ret fun v' w' => ∃ u, v' = .tuple #[u, .int .i64 (addRes A B).2] ∧ (∃ a n c, u = .agg #[.slice a n c]) ∧ IsSig w' (addRes A B).1 u ∧ Below w.heap.size w w') := by
  subst hx
  obtain ⟨rfl, h1, h2, h3⟩ := sys_of_own h.1 hB
  refine (padd_any A B w v ra rc hzA hzB hv h1 h2 h3).mono ?_
  rintro e w' ⟨v', rfl, u, rfl, h4, h5⟩
  exact ⟨_, rfl, u, rfl, (by obtain ⟨a, c, rfl, _⟩ := h4; exact ⟨_, _, _, rfl⟩), h4, h5⟩
theorem radd_row {A B : List Sy} {w : World} {v : Value} {ra : Option Addr} {rc : Nat} (hzA : A.length ≤ 1073741824) (hzB : B.length ≤ 1073741824) (hv : IsSig w A v) (h1 : B.length ≤ rc) (h2 : rc ≤ maxLen) (h3 : IsSys w B ra) : Calls Try.prog 8 #[v, .slice ra B.length rc] w (Ret fun v' w' => ∃ u, v' = .tuple #[u, .int .i64 (addRes A B).2] ∧ (∃ a n c, u = .agg #[.slice a n c]) ∧ IsSig w' (addRes A B).1 u ∧ Below w.heap.size w w') := by
  refine (radd_any A B w v ra rc hzA hzB hv h1 h2 h3).mono ?_
  rintro e w' ⟨v', rfl, u, rfl, h4, h5⟩
  exact ⟨_, rfl, u, rfl, (by obtain ⟨a, c, rfl, _⟩ := h4; exact ⟨_, _, _, rfl⟩), h4, h5⟩
set_option maxRecDepth 100000 in
theorem adds_any (A B : List Sy) (w : World) (v : Value) (a2 : Option Addr) (c2 : Nat) (hzA : A.length ≤ 1073741824) (hzB : B.length ≤ 1073741824) (hv : IsSig w A v) (hc2 : B.length ≤ c2) (hm2 : c2 ≤ maxLen) (hl2 : IsSys w B a2) : Calls Try.prog 3 #[v, .slice a2 B.length c2] w (Ret fun v' w' => v' = .bool true ∧ Below w.heap.size w w') := by
  have hA := hv
  have hwB := hl2.wfs
  have hm2' := hm2
  unfold maxLen at hm2
  obtain ⟨a, c, rfl, _, _, _⟩ := hv
  refine Calls.walk (l := [.agg #[.slice a A.length c], .slice a2 B.length c2]) Try.func3 rfl (by kernel_rfl) ?_
  refine WC.sub (K' := [(0, .agg #[.slice a A.length c]), (1, .slice a2 B.length c2)]) ⟨rfl, rfl, trivial⟩ ?_
  refine WC.seq ?_
  refine WC.region ?_
  refine WL.step (post := NewBlk w 24 #[.slice a A.length c]) rfl rfl rfl (fun za zC zh zk => box_24 rfl (zh.ev rfl) (zk _ _ (newBlk _ _ _))) ?_
  rintro _ w1 ⟨g2, rfl, hg3, hB4, hb5, hz6⟩
  have hl7 : w.heap.size ≤ g2 := by omega
  refine WL.val (.bool false) rfl rfl rfl (fun za zC zh zk => wp_assign rfl (zh.ev rfl) zk) ?_
  refine WL.nil (WE.sub (K' := [(0, .agg #[.slice a A.length c]), (1, .slice a2 B.length c2), (2, .pointer (some ⟨g2, 0, none⟩)), (4, .bool false)]) ⟨rfl, rfl, rfl, rfl, trivial⟩ ?_)
  refine WE.next ?_
  refine WC.seq ?_
  refine WC.region ?_
  refine WL.val (.slice none 0 0) rfl rfl rfl (fun za zC zh zk => wp_assign rfl (zh.ev rfl) zk) ?_
  refine WL.nil (WE.sub (K' := [(0, .agg #[.slice a A.length c]), (1, .slice a2 B.length c2), (2, .pointer (some ⟨g2, 0, none⟩)), (4, .bool false), (5, .slice none 0 0)]) ⟨rfl, rfl, rfl, rfl, rfl, trivial⟩ ?_)
  refine WE.next ?_
  refine WC.seq ?_
  refine WC.region ?_
  refine WL.val (.slice none 0 0) rfl rfl rfl (fun za zC zh zk => wp_move rfl (zh.ev rfl) zk) ?_
  refine WL.val (.slice a2 B.length c2) rfl rfl rfl (fun za zC zh zk => wp_move rfl (zh.ev rfl) zk) ?_
  have hl8 : g2 < w1.heap.size := by have z1 := hB4.lt; omega
  have hl9 : w.heap.size ≤ w1.heap.size := (hb5).size
  refine WL.step (post := fun v w' => ∃ ra rc, v = .slice ra (0 + B.length) rc ∧ Own w' (fun b => w1.heap.size ≤ b) 35 3 ra rc (0 + B.length) ([] ++ (syCells B)) ∧ Chg (fun b => w1.heap.size ≤ b) w1 w') rfl rfl rfl (fun za zC zh zk => app_22 (S := (fun b => w1.heap.size ≤ b)) (xs := []) (news := (syCells B)) rfl (zh.ev rfl) (zh.ev rfl) own_nil (SrcIs.ofSys (IsSys.below hb5 hl2)) (syCells_len _) (syCells_oneCell _) (by omega) (by omega) (by (try dsimp only at *); omega) (fun ra rc w' h1 h2 => zk _ _ ⟨ra, rc, rfl, h1, h2⟩)) ?_
  rintro _ w10 ⟨ra11, rc12, rfl, hr13, hc14⟩
  have hb15 := chg_below hb5 hc14 (fun b hb => (by (try dsimp only at *); omega))
  have hB16 := chg_blk hB4 hc14 (by (try dsimp only at *); omega)
  refine WL.val (.slice ra11 ((0 + B.length)) rc12) rfl rfl rfl (fun za zC zh zk => wp_assign rfl (zh.ev rfl) zk) ?_
  refine WL.nil (WE.sub (K' := [(0, .agg #[.slice a A.length c]), (1, .slice a2 B.length c2), (2, .pointer (some ⟨g2, 0, none⟩)), (4, .bool false), (5, .slice ra11 ((0 + B.length)) rc12)]) ⟨rfl, rfl, rfl, rfl, rfl, trivial⟩ ?_)
  refine WE.next ?_
  refine WC.seq ?_
  refine WC.region ?_
  refine WL.val (.agg #[.slice a A.length c]) rfl rfl rfl (fun za zC zh zk => ld_24 rfl (zh.ev rfl) ((hB16.cell 0).trans rfl) zk) ?_
  refine WL.call rfl rfl rfl (fun za zh zC => wp_call (by kernel_rfl) rfl (hv1 (zh.ev rfl))) (copy_any A _ _ (by omega) (IsSig.below hb15 hA)) ?_
  rintro uc w17 ⟨hcp, hbc⟩
  refine WL.val (.slice ra11 ((0 + B.length)) rc12) rfl rfl rfl (fun za zC zh zk => wp_move rfl (zh.ev rfl) zk) ?_
  have hr18 := hr13.below hbc
  refine WL.call rfl rfl rfl (fun za zh zC => wp_call (by kernel_rfl) rfl (hv2 (zh.ev rfl) (zh.ev rfl))) (padd_own hzA hzB (IsSig.below (Below.refl _ _) hcp) hr18 (by simp) hwB) ?_
  rintro _ w19 ⟨_, rfl, ⟨ap, np, cp, rfl⟩, hp, hbp⟩
  refine WL.val (.tuple #[.agg #[.slice ap np cp], .int .i64 ((addRes A B).2)]) rfl rfl rfl (fun za zC zh zk => wp_move rfl (zh.ev rfl) zk) ?_
  refine WL.val (.agg #[.slice ap np cp]) rfl rfl rfl (fun za zC zh zk => ext2_0 rfl (zh.ev rfl) zk) ?_
  refine WL.val (.int .i64 ((addRes A B).2)) rfl rfl rfl (fun za zC zh zk => ext2_1 rfl (zh.ev rfl) zk) ?_
  refine WL.step (post := NewBlk w19 24 #[.slice none 0 0]) rfl rfl rfl (fun za zC zh zk => alloc_24 rfl (zk _ _ (newBlk _ _ _))) ?_
  rintro _ w20 ⟨g21, rfl, hg22, hB23, hb24, hz25⟩
  have hb26 : Below w10.heap.size w10 w19 := (bstep hbc hbp)
  have hl27 : g2 < g21 := by have z1 := hB16.lt; have z2 := (hb26).size; omega
  have hr28 := hr18.below hbp
  have hr29 := Own.mono (S' := (fun b => w1.heap.size ≤ b ∧ b ≠ g21)) hr28 (fun b h1 h2 => by (try dsimp only at *); omega)
  have hb30 : Below w.heap.size w w19 := (bstep hb15 hb26)
  have hl31 : w.heap.size ≤ g21 := by have z2 := (hb30).size; omega
  have hl32 : w17.heap.size ≤ g21 := by have z2 := (hbp).size; omega
  have hl33 : w19.heap.size ≤ g21 := by omega
  refine WL.step (post := fun _ w' => Upd g21 w20 w' ∧ Blk w' g21 24 #[.slice ap np cp]) rfl rfl rfl (fun za zC zh zk => st_24 rfl (zh.ev rfl) (zh.ev rfl) rfl hB23 (by first | decide | simp) (fun v => zk v _ ⟨Upd.at_ _ _ _ _, hB23.set_ 0 _⟩)) ?_
  rintro v37 w34 ⟨hu35, hB36⟩
  have hb38 : Below w.heap.size w w20 := (bstep hb30 hb24)
  have hb39 : Below w17.heap.size w17 w20 := (bstep hbp hb24)
  have hb40 := upd_below hb38 hu35 (by omega)
  have hb41 := upd_below hb39 hu35 (by omega)
  have hb42 := upd_below hb24 hu35 (by omega)
  have hb44 : Below w10.heap.size w10 w20 := (bstep hbc hb39)
  have hB43 := hB16.below hb44
  have hB45 := upd_blk hB43 hu35 (by omega)
  have hr46 := hr29.below hb24
  have hr47 := hr46.upd hu35 (by (try dsimp only at *); omega)
  refine WL.val (.int .i64 ((addRes A B).2)) rfl rfl rfl (fun za zC zh zk => wp_assign rfl (zh.ev rfl) zk) ?_
  refine WL.nil (WE.sub (K' := [(0, .agg #[.slice a A.length c]), (1, .slice a2 B.length c2), (2, .pointer (some ⟨g2, 0, none⟩)), (4, .bool false), (5, .slice ra11 ((0 + B.length)) rc12), (6, .pointer (some ⟨g21, 0, none⟩)), (7, .int .i64 ((addRes A B).2))]) ⟨rfl, rfl, rfl, rfl, rfl, rfl, rfl, trivial⟩ ?_)
  refine WE.next ?_
  refine WC.seq ?_
  refine WC.region ?_
  refine WL.val (.agg #[.slice a A.length c]) rfl rfl rfl (fun za zC zh zk => ld_24 rfl (zh.ev rfl) ((hB45.cell 0).trans rfl) zk) ?_
  refine WL.val (.slice a2 B.length c2) rfl rfl rfl (fun za zC zh zk => wp_move rfl (zh.ev rfl) zk) ?_
  refine WL.call rfl rfl rfl (fun za zh zC => wp_call (by kernel_rfl) rfl (hv2 (zh.ev rfl) (zh.ev rfl))) (radd_row hzA hzB (IsSig.below hb40 hA) hc2 hm2' (hl2.below hb40)) ?_
  rintro _ w48 ⟨_, rfl, ⟨ar, nr, cr, rfl⟩, hr, hbr⟩
  refine WL.val (.tuple #[.agg #[.slice ar nr cr], .int .i64 ((addRes A B).2)]) rfl rfl rfl (fun za zC zh zk => wp_move rfl (zh.ev rfl) zk) ?_
  refine WL.val (.agg #[.slice ar nr cr]) rfl rfl rfl (fun za zC zh zk => ext2_0 rfl (zh.ev rfl) zk) ?_
  refine WL.val (.int .i64 ((addRes A B).2)) rfl rfl rfl (fun za zC zh zk => ext2_1 rfl (zh.ev rfl) zk) ?_
  refine WL.step (post := NewBlk w48 24 #[.slice none 0 0]) rfl rfl rfl (fun za zC zh zk => alloc_24 rfl (zk _ _ (newBlk _ _ _))) ?_
  rintro _ w49 ⟨g50, rfl, hg51, hB52, hb53, hz54⟩
  have hl55 : g2 < g50 := by have z1 := hB45.lt; have z2 := (hbr).size; omega
  have hl56 : g21 < g50 := by have z1 := hB36.lt; have z2 := (hbr).size; omega
  have hr57 := hr47.below hbr
  have hr58 := Own.mono (S' := (fun b => w1.heap.size ≤ b ∧ b ≠ g21 ∧ b ≠ g50)) hr57 (fun b h1 h2 => by (try dsimp only at *); omega)
  have hb59 : Below w.heap.size w w48 := (bstep hb40 hbr)
  have hl60 : w.heap.size ≤ g50 := by have z2 := (hb59).size; omega
  have hb61 : Below w17.heap.size w17 w48 := (bstep hb41 hbr)
  have hl62 : w17.heap.size ≤ g50 := by have z2 := (hb61).size; omega
  have hb63 : Below w19.heap.size w19 w48 := (bstep hb42 hbr)
  have hl64 : w19.heap.size ≤ g50 := by have z2 := (hb63).size; omega
  have hl65 : w48.heap.size ≤ g50 := by omega
  refine WL.step (post := fun _ w' => Upd g50 w49 w' ∧ Blk w' g50 24 #[.slice ar nr cr]) rfl rfl rfl (fun za zC zh zk => st_24 rfl (zh.ev rfl) (zh.ev rfl) rfl hB52 (by first | decide | simp) (fun v => zk v _ ⟨Upd.at_ _ _ _ _, hB52.set_ 0 _⟩)) ?_
  rintro v69 w66 ⟨hu67, hB68⟩
  have hb70 : Below w.heap.size w w49 := (bstep hb59 hb53)
  have hb71 : Below w17.heap.size w17 w49 := (bstep hb61 hb53)
  have hb72 : Below w19.heap.size w19 w49 := (bstep hb63 hb53)
  have hb73 := upd_below hb70 hu67 (by omega)
  have hb74 := upd_below hb71 hu67 (by omega)
  have hb75 := upd_below hb72 hu67 (by omega)
  have hb76 := upd_below hb53 hu67 (by omega)
  have hb78 : Below w34.heap.size w34 w49 := (bstep hbr hb53)
  have hB77 := hB45.below hb78
  have hB79 := upd_blk hB77 hu67 (by omega)
  have hB80 := hB36.below hb78
  have hB81 := upd_blk hB80 hu67 (by omega)
  have hr82 := hr58.below hb53
  have hr83 := hr82.upd hu67 (by (try dsimp only at *); omega)
  refine WL.val (.int .i64 ((addRes A B).2)) rfl rfl rfl (fun za zC zh zk => wp_assign rfl (zh.ev rfl) zk) ?_
  refine WL.nil (WE.sub (K' := [(0, .agg #[.slice a A.length c]), (1, .slice a2 B.length c2), (2, .pointer (some ⟨g2, 0, none⟩)), (4, .bool false), (5, .slice ra11 ((0 + B.length)) rc12), (6, .pointer (some ⟨g21, 0, none⟩)), (7, .int .i64 ((addRes A B).2)), (8, .pointer (some ⟨g50, 0, none⟩)), (9, .int .i64 ((addRes A B).2))]) ⟨rfl, rfl, rfl, rfl, rfl, rfl, rfl, rfl, rfl, trivial⟩ ?_)
  refine WE.next ?_
  refine WC.seq ?_
  refine WC.opt [(true, .val (.bool true)), (true, .val (.bool true)), ((true && true), .val (.int .i64 ((addRes A B).2))), ((true && true), .val (.int .i64 ((addRes A B).2))), ((true && true), .val (.bool ((((addRes A B).2 : Int) == ((addRes A B).2 : Int))))), (true, .val (.bool ((true && (((addRes A B).2 : Int) == ((addRes A B).2 : Int)))))), (true, .val (.bool ((true && (((addRes A B).2 : Int) == ((addRes A B).2 : Int)))))), ((true && (true && (((addRes A B).2 : Int) == ((addRes A B).2 : Int)))), .val (.agg #[.slice ap np cp])), ((true && (true && (((addRes A B).2 : Int) == ((addRes A B).2 : Int)))), .val (.agg #[.slice ar nr cr])), ((true && (true && (((addRes A B).2 : Int) == ((addRes A B).2 : Int)))), .val (.bool ((decide ((addRes A B).1 = (addRes A B).1))))), (true, .val (.bool (((true && (((addRes A B).2 : Int) == ((addRes A B).2 : Int))) && (decide ((addRes A B).1 = (addRes A B).1)))))), (true, .val (.bool (((true && (((addRes A B).2 : Int) == ((addRes A B).2 : Int))) && (decide ((addRes A B).1 = (addRes A B).1))))))] [(0, .agg #[.slice a A.length c]), (1, .slice a2 B.length c2), (2, .pointer (some ⟨g2, 0, none⟩)), (5, .slice ra11 ((0 + B.length)) rc12), (6, .pointer (some ⟨g21, 0, none⟩)), (7, .int .i64 ((addRes A B).2)), (8, .pointer (some ⟨g50, 0, none⟩)), (9, .int .i64 ((addRes A B).2))] ⟨rfl, rfl, rfl, rfl, rfl, rfl, rfl, rfl, trivial⟩ (by kernel_rfl) (by kernel_rfl) (by kernel_rfl) ?_ ?_
  · refine ⟨⟨true, .none rfl, fun h w => optUndef h, fun zβ za zw zc => ?_⟩, ?_⟩
    · exact wp_call (by kernel_rfl) rfl (hv0) (head_any _) (fun v w' h => ⟨v, rfl, h.2, optDef zβ h.1⟩)
    refine ⟨⟨true, .none rfl, fun h w => optUndef h, fun zβ za zw zc => ?_⟩, ?_⟩
    · exact wp_move rfl ((show za.eval (.tmp 26) = za.tmps.getD 26 undef from rfl).trans (optVal (zc.dep 0 26 (by kernel_rfl)) rfl rfl)) ⟨_, rfl, Below.refl _ _, optDef zβ rfl⟩
    refine ⟨⟨(true && true), .yes (c := true) (d := true) rfl (fun v w h => h), fun h w => optUndef h, fun zβ za zw zc => ?_⟩, ?_⟩
    · exact wp_move rfl (zc.kn.ev rfl) ⟨_, rfl, Below.refl _ _, optDef zβ rfl⟩
    refine ⟨⟨(true && true), .yes (c := true) (d := true) rfl (fun v w h => h), fun h w => optUndef h, fun zβ za zw zc => ?_⟩, ?_⟩
    · exact wp_move rfl (zc.kn.ev rfl) ⟨_, rfl, Below.refl _ _, optDef zβ rfl⟩
    refine ⟨⟨(true && true), .yes (c := true) (d := true) rfl (fun v w h => h), fun h w => optUndef h, fun zβ za zw zc => ?_⟩, ?_⟩
    · exact eql_3 rfl ((show za.eval (.tmp 28) = za.tmps.getD 28 undef from rfl).trans (optVal (zc.dep 2 28 (by kernel_rfl)) rfl zβ)) ((show za.eval (.tmp 29) = za.tmps.getD 29 undef from rfl).trans (optVal (zc.dep 3 29 (by kernel_rfl)) rfl zβ)) ⟨_, rfl, Below.refl _ _, optDef zβ rfl⟩
    refine ⟨⟨true, .none rfl, fun h w => optUndef h, fun zβ za zw zc => ?_⟩, ?_⟩
    · exact wp_and rfl ((show za.eval (.tmp 27) = za.tmps.getD 27 undef from rfl).trans (optVal (zc.dep 1 27 (by kernel_rfl)) rfl rfl)) (fun hp => ((show za.eval (.tmp 30) = za.tmps.getD 30 undef from rfl).trans (optVal (zc.dep 4 30 (by kernel_rfl)) rfl (bMk zβ hp)))) ⟨_, rfl, Below.refl _ _, optDef zβ rfl⟩
    refine ⟨⟨true, .none rfl, fun h w => optUndef h, fun zβ za zw zc => ?_⟩, ?_⟩
    · exact wp_move rfl ((show za.eval (.tmp 31) = za.tmps.getD 31 undef from rfl).trans (optVal (zc.dep 5 31 (by kernel_rfl)) rfl rfl)) ⟨_, rfl, Below.refl _ _, optDef zβ rfl⟩
    refine ⟨⟨(true && (true && (((addRes A B).2 : Int) == ((addRes A B).2 : Int)))), .yes (c := (true && (((addRes A B).2 : Int) == ((addRes A B).2 : Int)))) (d := true) rfl (fun v w h => h), fun h w => optUndef h, fun zβ za zw zc => ?_⟩, ?_⟩
    · exact ld_24 rfl (zc.kn.ev rfl) (bkeeps zc.below _ _ ((hB81.cell 0).trans rfl)) ⟨_, rfl, Below.refl _ _, optDef zβ rfl⟩
    refine ⟨⟨(true && (true && (((addRes A B).2 : Int) == ((addRes A B).2 : Int)))), .yes (c := (true && (((addRes A B).2 : Int) == ((addRes A B).2 : Int)))) (d := true) rfl (fun v w h => h), fun h w => optUndef h, fun zβ za zw zc => ?_⟩, ?_⟩
    · exact ld_24 rfl (zc.kn.ev rfl) (bkeeps zc.below _ _ ((hB68.cell 0).trans rfl)) ⟨_, rfl, Below.refl _ _, optDef zβ rfl⟩
    refine ⟨⟨(true && (true && (((addRes A B).2 : Int) == ((addRes A B).2 : Int)))), .yes (c := (true && (((addRes A B).2 : Int) == ((addRes A B).2 : Int)))) (d := true) rfl (fun v w h => h), fun h w => optUndef h, fun zβ za zw zc => ?_⟩, ?_⟩
    · exact wp_call (by kernel_rfl) rfl (hv2 ((show za.eval (.tmp 33) = za.tmps.getD 33 undef from rfl).trans (optVal (zc.dep 7 33 (by kernel_rfl)) rfl zβ)) ((show za.eval (.tmp 34) = za.tmps.getD 34 undef from rfl).trans (optVal (zc.dep 8 34 (by kernel_rfl)) rfl zβ))) (rsame_any (addRes A B).1 (addRes A B).1 _ _ _ (IsSig.below (bstep hb75 zc.below) hp) (IsSig.below (bstep hb76 zc.below) hr)) (fun v w' h => ⟨v, rfl, h.2, optDef zβ h.1⟩)
    refine ⟨⟨true, .none rfl, fun h w => optUndef h, fun zβ za zw zc => ?_⟩, ?_⟩
    · exact wp_and rfl ((show za.eval (.tmp 32) = za.tmps.getD 32 undef from rfl).trans (optVal (zc.dep 6 32 (by kernel_rfl)) rfl rfl)) (fun hp => ((show za.eval (.tmp 35) = za.tmps.getD 35 undef from rfl).trans (optVal (zc.dep 9 35 (by kernel_rfl)) rfl (bMk zβ hp)))) ⟨_, rfl, Below.refl _ _, optDef zβ rfl⟩
    refine ⟨⟨true, .none rfl, fun h w => optUndef h, fun zβ za zw zc => ?_⟩, ?_⟩
    · exact wp_assign rfl ((show za.eval (.tmp 36) = za.tmps.getD 36 undef from rfl).trans (optVal (zc.dep 10 36 (by kernel_rfl)) rfl rfl)) ⟨_, rfl, Below.refl _ _, optDef zβ rfl⟩
    exact trivial
  · intro za w84 zh hb85 zu
    have zh := zh.cons (d := 4) (v := .bool (((true && (((addRes A B).2 : Int) == ((addRes A B).2 : Int))) && (decide ((addRes A B).1 = (addRes A B).1))))) (optVal (zu 11 4 (by kernel_rfl)) rfl rfl)
    clear zu
    refine (show WE _ [(0, .agg #[.slice a A.length c]), (1, .slice a2 B.length c2), (2, .pointer (some ⟨g2, 0, none⟩)), (4, .bool (((true && (((addRes A B).2 : Int) == ((addRes A B).2 : Int))) && (decide ((addRes A B).1 = (addRes A B).1))))), (5, .slice ra11 ((0 + B.length)) rc12), (6, .pointer (some ⟨g21, 0, none⟩)), (7, .int .i64 ((addRes A B).2)), (8, .pointer (some ⟨g50, 0, none⟩)), (9, .int .i64 ((addRes A B).2))] w84 _ .normal from ?_) za (zh.sub ⟨rfl, rfl, rfl, rfl, rfl, rfl, rfl, rfl, rfl, trivial⟩)
    refine WE.next ?_
    refine WC.ret ?_
    refine WE.ret1 rfl rfl ?_
    have hb86 : Below w.heap.size w w84 := (bstep hb73 hb85)
    exact ⟨_, rfl, congrArg Value.bool (by simp), hb86⟩

end Go.Proofs.Ytbnjppmmhhjjbaa
