/- The walk through the law of symbols with new names. -/
import Derived.Test.YtbnjppmmhhjjbaaDoorSgnFresh
import Derived.Test.YtbnjppmmhhjjbaaDoorBox1
import Derived.Test.YtbnjppmmhhjjbaaDoorRng
namespace Go.Proofs.YtbnjppmmhhjjbaaDoor
open Go.RowKit Go
set_option linter.unusedVariables false
set_option linter.unusedSimpArgs false

theorem fresh_v (l : List Sy) (x : Sy) (w : World) (v : Value) (hnm : x.name.size ≤ maxLen) (hv : IsSig w l v) : Calls Tryd.prog 5 #[v, .string x.name, .int .i64 x.ar, .bool x.pred] w (Ret fun v' w' => v' = .tuple #[.agg #[.string (freshRes l x).1.name, .int .i64 (freshRes l x).1.ar, .bool (freshRes l x).1.pred], .int .i64 (freshRes l x).2] ∧ Below w.heap.size w w') := fresh_any l x w v hnm hv
theorem rfresh_v (l : List Sy) (x : Sy) (w : World) (v : Value) (hnm : x.name.size ≤ maxLen) (hv : IsSig w l v) : Calls Tryd.prog 7 #[v, .string x.name, .int .i64 x.ar, .bool x.pred] w (Ret fun v' w' => v' = .tuple #[.agg #[.string (freshRes l x).1.name, .int .i64 (freshRes l x).1.ar, .bool (freshRes l x).1.pred], .int .i64 (freshRes l x).2] ∧ Below w.heap.size w w') := rfresh_any l x w v hnm hv
set_option maxRecDepth 100000 in
theorem freshLaw_any (l : List Sy) (x : Sy) (w : World) (v : Value) (hz : l.length ≤ 1073741824) (hnm : x.name.size ≤ maxLen) (hv : IsSig w l v) : Calls Tryd.prog 3 #[v, x.val] w (Ret fun v' w' => v' = .bool true ∧ Below w.heap.size w w') := by
  have hV := hv
  obtain ⟨a, c, rfl, hc, hm, hl⟩ := hv
  unfold Sy.val
  refine Calls.walk (l := [.agg #[.slice a l.length c], .agg #[.string x.name, .int .i64 x.ar, .bool x.pred]]) Tryd.func3 rfl (by kernel_rfl) ?_
  refine WC.sub (K' := [(0, .agg #[.slice a l.length c]), (1, .agg #[.string x.name, .int .i64 x.ar, .bool x.pred])]) ⟨rfl, rfl, trivial⟩ ?_
  refine WC.seq ?_
  refine WC.region ?_
  refine WL.step (post := NewBlk w 24 #[.slice a l.length c]) rfl rfl rfl (fun za zC zh zk => box_24 rfl (zh.ev rfl) (zk _ _ (newBlk _ _ _))) ?_
  rintro _ w1 ⟨g2, rfl, hg3, hB4, hb5, hz6⟩
  have hl7 : w.heap.size ≤ g2 := by omega
  refine WL.step (post := NewBlk w1 26 #[.string x.name, .int .i64 x.ar, .bool x.pred]) rfl rfl rfl (fun za zC zh zk => box_26 rfl (zh.ev rfl) (zk _ _ (newBlk _ _ _))) ?_
  rintro _ w8 ⟨g9, rfl, hg10, hB11, hb12, hz13⟩
  have hl14 : g2 < g9 := by have z1 := hB4.lt; omega
  have hl15 : w.heap.size ≤ g9 := by have z2 := (hb5).size; omega
  refine WL.val (.bool false) rfl rfl rfl (fun za zC zh zk => wp_assign rfl (zh.ev rfl) zk) ?_
  refine WL.nil (WE.sub (K' := [(0, .agg #[.slice a l.length c]), (1, .agg #[.string x.name, .int .i64 x.ar, .bool x.pred]), (2, .pointer (some ⟨g2, 0, none⟩)), (3, .pointer (some ⟨g9, 0, none⟩)), (4, .bool false)]) ⟨rfl, rfl, rfl, rfl, rfl, trivial⟩ ?_)
  refine WE.next ?_
  refine WC.seq ?_
  have hB16 := hB4.below hb12
  have hb17 : Below w.heap.size w w8 := (bstep hb5 hb12)
  refine WC.box1 (fun w v => IsSig w l v) (fun _ _ _ hb h => IsSig.below hb h) [(true, .agg #[.slice a l.length c]), (true, undef), (true, .pointer (some ⟨g9, 0, none⟩)), (true, .string x.name), (true, .pointer (some ⟨g9, 1, none⟩)), (true, .int .i64 x.ar), (true, .pointer (some ⟨g9, 2, none⟩)), (true, .bool x.pred), (true, .tuple #[.agg #[.string ((freshRes l x).1.name), .int .i64 ((freshRes l x).1.ar), .bool ((freshRes l x).1.pred)], .int .i64 ((freshRes l x).2)]), (true, .tuple #[.agg #[.string ((freshRes l x).1.name), .int .i64 ((freshRes l x).1.ar), .bool ((freshRes l x).1.pred)], .int .i64 ((freshRes l x).2)]), (true, .agg #[.string ((freshRes l x).1.name), .int .i64 ((freshRes l x).1.ar), .bool ((freshRes l x).1.pred)]), (true, .int .i64 ((freshRes l x).2)), (true, undef), (true, undef), (true, .int .i64 ((freshRes l x).2))] [(0, .agg #[.slice a l.length c]), (1, .agg #[.string x.name, .int .i64 x.ar, .bool x.pred]), (2, .pointer (some ⟨g2, 0, none⟩)), (3, .pointer (some ⟨g9, 0, none⟩)), (4, .bool false)] (t := 26) (z := #[.string (⟨#[]⟩), .int .i64 0, .bool false]) (.agg #[.string ((freshRes l x).1.name), .int .i64 ((freshRes l x).1.ar), .bool ((freshRes l x).1.pred)]) 1 12 13 5 (by decide) (by kernel_rfl) rfl ⟨rfl, rfl, rfl, rfl, rfl, trivial⟩ (by kernel_rfl) (by kernel_rfl) (by kernel_rfl) ?_ ?_
  · refine ⟨.inl ⟨rfl, rfl, fun za zw zc => ?_⟩, ?_⟩
    · exact ld_24 rfl (zc.kn.ev rfl) (bkeeps zc.below _ _ ((hB16.cell 0).trans rfl)) ⟨_, rfl, Below.refl _ _, fun _ => rfl⟩
    refine ⟨.inr (.inl ⟨rfl, rfl, fun za zw zc => ?_⟩), ?_⟩
    · exact wp_call (by kernel_rfl) rfl (hv1 ((show za.eval (.tmp 10) = za.tmps.getD 10 undef from rfl).trans (valVal1 (zc.dep 0 10 (by kernel_rfl) (by decide)) rfl rfl))) (copy_any l _ _ (by omega) (IsSig.below (bstep hb17 zc.below) hV)) (fun v w' h => ⟨v, rfl, h.2, h.1⟩)
    refine ⟨.inl ⟨rfl, rfl, fun za zw zc => ?_⟩, ?_⟩
    · exact fld_26_0 rfl (zc.kn.ev rfl) ⟨_, rfl, Below.refl _ _, fun _ => rfl⟩
    refine ⟨.inl ⟨rfl, rfl, fun za zw zc => ?_⟩, ?_⟩
    · exact ld_9 rfl ((show za.eval (.tmp 12) = za.tmps.getD 12 undef from rfl).trans (valVal1 (zc.dep 2 12 (by kernel_rfl) (by decide)) rfl rfl)) (bkeeps zc.below _ _ ((hB11.cell 0).trans rfl)) ⟨_, rfl, Below.refl _ _, fun _ => rfl⟩
    refine ⟨.inl ⟨rfl, rfl, fun za zw zc => ?_⟩, ?_⟩
    · exact fld_26_1 rfl (zc.kn.ev rfl) ⟨_, rfl, Below.refl _ _, fun _ => rfl⟩
    refine ⟨.inl ⟨rfl, rfl, fun za zw zc => ?_⟩, ?_⟩
    · exact ld_3 rfl ((show za.eval (.tmp 14) = za.tmps.getD 14 undef from rfl).trans (valVal1 (zc.dep 4 14 (by kernel_rfl) (by decide)) rfl rfl)) (bkeeps zc.below _ _ ((hB11.cell 1).trans rfl)) ⟨_, rfl, Below.refl _ _, fun _ => rfl⟩
    refine ⟨.inl ⟨rfl, rfl, fun za zw zc => ?_⟩, ?_⟩
    · exact fld_26_2 rfl (zc.kn.ev rfl) ⟨_, rfl, Below.refl _ _, fun _ => rfl⟩
    refine ⟨.inl ⟨rfl, rfl, fun za zw zc => ?_⟩, ?_⟩
    · exact ld_4 rfl ((show za.eval (.tmp 16) = za.tmps.getD 16 undef from rfl).trans (valVal1 (zc.dep 6 16 (by kernel_rfl) (by decide)) rfl rfl)) (bkeeps zc.below _ _ ((hB11.cell 2).trans rfl)) ⟨_, rfl, Below.refl _ _, fun _ => rfl⟩
    refine ⟨.inl ⟨rfl, rfl, fun za zw zc => ?_⟩, ?_⟩
    · exact wp_call (by kernel_rfl) rfl (hv4 (show za.eval (.tmp 11) = za.tmps.getD 11 undef from rfl) ((show za.eval (.tmp 13) = za.tmps.getD 13 undef from rfl).trans (valVal1 (zc.dep 3 13 (by kernel_rfl) (by decide)) rfl rfl)) ((show za.eval (.tmp 15) = za.tmps.getD 15 undef from rfl).trans (valVal1 (zc.dep 5 15 (by kernel_rfl) (by decide)) rfl rfl)) ((show za.eval (.tmp 17) = za.tmps.getD 17 undef from rfl).trans (valVal1 (zc.dep 7 17 (by kernel_rfl) (by decide)) rfl rfl))) (fresh_v l x _ _ hnm (zc.made 11 (by kernel_rfl) (by kernel_rfl))) (fun v w' h => ⟨v, rfl, h.2, fun _ => h.1⟩)
    refine ⟨.inl ⟨rfl, rfl, fun za zw zc => ?_⟩, ?_⟩
    · exact wp_move rfl ((show za.eval (.tmp 18) = za.tmps.getD 18 undef from rfl).trans (valVal1 (zc.dep 8 18 (by kernel_rfl) (by decide)) rfl rfl)) ⟨_, rfl, Below.refl _ _, fun _ => rfl⟩
    refine ⟨.inl ⟨rfl, rfl, fun za zw zc => ?_⟩, ?_⟩
    · exact ext2_0 rfl ((show za.eval (.tmp 9) = za.tmps.getD 9 undef from rfl).trans (valVal1 (zc.dep 9 9 (by kernel_rfl) (by decide)) rfl rfl)) ⟨_, rfl, Below.refl _ _, fun _ => rfl⟩
    refine ⟨.inl ⟨rfl, rfl, fun za zw zc => ?_⟩, ?_⟩
    · exact ext2_1 rfl ((show za.eval (.tmp 9) = za.tmps.getD 9 undef from rfl).trans (valVal1 (zc.dep 9 9 (by kernel_rfl) (by decide)) rfl rfl)) ⟨_, rfl, Below.refl _ _, fun _ => rfl⟩
    refine ⟨.inr (.inr (.inl ⟨rfl, rfl, fun za zw zc => ?_⟩)), ?_⟩
    · exact alloc_26 rfl ⟨rfl, rfl⟩
    refine ⟨.inr (.inr (.inr ⟨rfl, rfl, 5, by kernel_rfl, fun za zw g zc z1 zB => ?_⟩)), ?_⟩
    · exact st_26 rfl ((show za.eval (.tmp 5) = za.tmps.getD 5 undef from rfl).trans z1) ((show za.eval (.tmp 19) = za.tmps.getD 19 undef from rfl).trans (valVal1 (zc.dep 10 19 (by kernel_rfl) (by decide)) rfl rfl)) rfl rfl rfl zB (by first | decide | simp) (fun v => ⟨v, rfl, ((Upd.at_ _ _ _ _).trans (Upd.at_ _ _ _ _)).trans (Upd.at_ _ _ _ _), ((zB.set_ 0 _).set_ 1 _).set_ 2 _⟩)
    refine ⟨.inl ⟨rfl, rfl, fun za zw zc => ?_⟩, ?_⟩
    · exact wp_assign rfl ((show za.eval (.tmp 20) = za.tmps.getD 20 undef from rfl).trans (valVal1 (zc.dep 11 20 (by kernel_rfl) (by decide)) rfl rfl)) ⟨_, rfl, Below.refl _ _, fun _ => rfl⟩
    exact trivial
  · intro za w18 g19 zh hb20 hg21 hB22 hp23 zu
    have hl24 : g2 < g19 := by have z1 := hB16.lt; omega
    have hl25 : g9 < g19 := by have z1 := hB11.lt; omega
    have zh := zh.cons (d := 5) hp23
    have zh := zh.cons (d := 6) (v := .int .i64 ((freshRes l x).2)) (valVal1 (zu 14 6 (by kernel_rfl) (by decide)) rfl rfl)
    clear zu
    refine (show WE _ [(0, .agg #[.slice a l.length c]), (1, .agg #[.string x.name, .int .i64 x.ar, .bool x.pred]), (2, .pointer (some ⟨g2, 0, none⟩)), (3, .pointer (some ⟨g9, 0, none⟩)), (4, .bool false), (5, .pointer (some ⟨g19, 0, none⟩)), (6, .int .i64 ((freshRes l x).2))] w18 _ .normal from ?_) za (zh.sub ⟨rfl, rfl, rfl, rfl, rfl, rfl, rfl, trivial⟩)
    refine WE.next ?_
    refine WC.seq ?_
    refine WC.region ?_
    have hB26 := hB16.below hb20
    refine WL.val (.agg #[.slice a l.length c]) rfl rfl rfl (fun za zC zh zk => ld_24 rfl (zh.ev rfl) ((hB26.cell 0).trans rfl) zk) ?_
    refine WL.val (.pointer (some ⟨g9, 0, none⟩)) rfl rfl rfl (fun za zC zh zk => fld_26_0 rfl (zh.ev rfl) zk) ?_
    have hB27 := hB11.below hb20
    refine WL.val (.string x.name) rfl rfl rfl (fun za zC zh zk => ld_9 rfl (zh.ev rfl) ((hB27.cell 0).trans rfl) zk) ?_
    refine WL.val (.pointer (some ⟨g9, 1, none⟩)) rfl rfl rfl (fun za zC zh zk => fld_26_1 rfl (zh.ev rfl) zk) ?_
    refine WL.val (.int .i64 x.ar) rfl rfl rfl (fun za zC zh zk => ld_3 rfl (zh.ev rfl) ((hB27.cell 1).trans rfl) zk) ?_
    refine WL.val (.pointer (some ⟨g9, 2, none⟩)) rfl rfl rfl (fun za zC zh zk => fld_26_2 rfl (zh.ev rfl) zk) ?_
    refine WL.val (.bool x.pred) rfl rfl rfl (fun za zC zh zk => ld_4 rfl (zh.ev rfl) ((hB27.cell 2).trans rfl) zk) ?_
    have hb28 : Below w.heap.size w w18 := (bstep hb17 hb20)
    refine WL.call rfl rfl rfl (fun za zh zC => wp_call (by kernel_rfl) rfl (hv4 (zh.ev rfl) (zh.ev rfl) (zh.ev rfl) (zh.ev rfl))) (rfresh_v l x _ _ hnm (IsSig.below hb28 hV)) ?_
    rintro _ w29 ⟨rfl, hbr⟩
    refine WL.val (.tuple #[.agg #[.string ((freshRes l x).1.name), .int .i64 ((freshRes l x).1.ar), .bool ((freshRes l x).1.pred)], .int .i64 ((freshRes l x).2)]) rfl rfl rfl (fun za zC zh zk => wp_move rfl (zh.ev rfl) zk) ?_
    refine WL.val (.agg #[.string ((freshRes l x).1.name), .int .i64 ((freshRes l x).1.ar), .bool ((freshRes l x).1.pred)]) rfl rfl rfl (fun za zC zh zk => ext2_0 rfl (zh.ev rfl) zk) ?_
    refine WL.val (.int .i64 ((freshRes l x).2)) rfl rfl rfl (fun za zC zh zk => ext2_1 rfl (zh.ev rfl) zk) ?_
    refine WL.step (post := NewBlk w29 26 #[.string (⟨#[]⟩), .int .i64 0, .bool false]) rfl rfl rfl (fun za zC zh zk => alloc_26 rfl (zk _ _ (newBlk _ _ _))) ?_
    rintro _ w30 ⟨g31, rfl, hg32, hB33, hb34, hz35⟩
    have hl36 : g2 < g31 := by have z1 := hB26.lt; have z2 := (hbr).size; omega
    have hl37 : g9 < g31 := by have z1 := hB27.lt; have z2 := (hbr).size; omega
    have hl38 : g19 < g31 := by have z1 := hB22.lt; have z2 := (hbr).size; omega
    have hb39 : Below w.heap.size w w29 := (bstep hb28 hbr)
    have hl40 : w.heap.size ≤ g31 := by have z2 := (hb39).size; omega
    refine WL.step (post := fun _ w' => Upd g31 w30 w' ∧ Blk w' g31 26 #[.string ((freshRes l x).1.name), .int .i64 ((freshRes l x).1.ar), .bool ((freshRes l x).1.pred)]) rfl rfl rfl (fun za zC zh zk => st_26 rfl (zh.ev rfl) (zh.ev rfl) rfl rfl rfl hB33 (by first | decide | simp) (fun v => zk v _ ⟨((Upd.at_ _ _ _ _).trans (Upd.at_ _ _ _ _)).trans (Upd.at_ _ _ _ _), ((hB33.set_ 0 _).set_ 1 _).set_ 2 _⟩)) ?_
    rintro v44 w41 ⟨hu42, hB43⟩
    have hb45 : Below w.heap.size w w30 := (bstep hb39 hb34)
    have hb46 := upd_below hb45 hu42 (by omega)
    have hb48 : Below w18.heap.size w18 w30 := (bstep hbr hb34)
    have hB47 := hB26.below hb48
    have hB49 := upd_blk hB47 hu42 (by omega)
    have hB50 := hB27.below hb48
    have hB51 := upd_blk hB50 hu42 (by omega)
    have hB52 := hB22.below hb48
    have hB53 := upd_blk hB52 hu42 (by omega)
    refine WL.val (.int .i64 ((freshRes l x).2)) rfl rfl rfl (fun za zC zh zk => wp_assign rfl (zh.ev rfl) zk) ?_
    refine WL.nil (WE.sub (K' := [(0, .agg #[.slice a l.length c]), (1, .agg #[.string x.name, .int .i64 x.ar, .bool x.pred]), (2, .pointer (some ⟨g2, 0, none⟩)), (3, .pointer (some ⟨g9, 0, none⟩)), (4, .bool false), (5, .pointer (some ⟨g19, 0, none⟩)), (6, .int .i64 ((freshRes l x).2)), (7, .pointer (some ⟨g31, 0, none⟩)), (8, .int .i64 ((freshRes l x).2))]) ⟨rfl, rfl, rfl, rfl, rfl, rfl, rfl, rfl, rfl, trivial⟩ ?_)
    refine WE.next ?_
    refine WC.seq ?_
    refine WC.opt [(true, .val (.bool true)), (true, .val (.bool true)), ((true && true), .val (.int .i64 ((freshRes l x).2))), ((true && true), .val (.int .i64 ((freshRes l x).2))), ((true && true), .val (.bool ((((freshRes l x).2 : Int) == ((freshRes l x).2 : Int))))), (true, .val (.bool ((((freshRes l x).2 : Int) == ((freshRes l x).2 : Int))))), (true, .val (.bool ((((freshRes l x).2 : Int) == ((freshRes l x).2 : Int))))), ((true && (((freshRes l x).2 : Int) == ((freshRes l x).2 : Int))), .val (.agg #[.string ((freshRes l x).1.name), .int .i64 ((freshRes l x).1.ar), .bool ((freshRes l x).1.pred)])), ((true && (((freshRes l x).2 : Int) == ((freshRes l x).2 : Int))), .val (.agg #[.string ((freshRes l x).1.name), .int .i64 ((freshRes l x).1.ar), .bool ((freshRes l x).1.pred)])), ((true && (((freshRes l x).2 : Int) == ((freshRes l x).2 : Int))), .val (.bool ((decide ((freshRes l x).1 = (freshRes l x).1))))), (true, .val (.bool (((((freshRes l x).2 : Int) == ((freshRes l x).2 : Int)) && (decide ((freshRes l x).1 = (freshRes l x).1)))))), (true, .val (.bool (((((freshRes l x).2 : Int) == ((freshRes l x).2 : Int)) && (decide ((freshRes l x).1 = (freshRes l x).1))))))] [(0, .agg #[.slice a l.length c]), (1, .agg #[.string x.name, .int .i64 x.ar, .bool x.pred]), (2, .pointer (some ⟨g2, 0, none⟩)), (3, .pointer (some ⟨g9, 0, none⟩)), (5, .pointer (some ⟨g19, 0, none⟩)), (6, .int .i64 ((freshRes l x).2)), (7, .pointer (some ⟨g31, 0, none⟩)), (8, .int .i64 ((freshRes l x).2))] ⟨rfl, rfl, rfl, rfl, rfl, rfl, rfl, rfl, trivial⟩ (by kernel_rfl) (by kernel_rfl) (by kernel_rfl) ?_ ?_
    · refine ⟨⟨true, .none rfl, fun h w => optUndef h, fun zβ za zw zc => ?_⟩, ?_⟩
      · exact wp_call (by kernel_rfl) rfl (hv0) (head_any _) (fun v w' h => ⟨v, rfl, h.2, optDef zβ h.1⟩)
      refine ⟨⟨true, .none rfl, fun h w => optUndef h, fun zβ za zw zc => ?_⟩, ?_⟩
      · exact wp_move rfl ((show za.eval (.tmp 32) = za.tmps.getD 32 undef from rfl).trans (optVal (zc.dep 0 32 (by kernel_rfl)) rfl rfl)) ⟨_, rfl, Below.refl _ _, optDef zβ rfl⟩
      refine ⟨⟨(true && true), .yes (c := true) (d := true) rfl (fun v w h => h), fun h w => optUndef h, fun zβ za zw zc => ?_⟩, ?_⟩
      · exact wp_move rfl (zc.kn.ev rfl) ⟨_, rfl, Below.refl _ _, optDef zβ rfl⟩
      refine ⟨⟨(true && true), .yes (c := true) (d := true) rfl (fun v w h => h), fun h w => optUndef h, fun zβ za zw zc => ?_⟩, ?_⟩
      · exact wp_move rfl (zc.kn.ev rfl) ⟨_, rfl, Below.refl _ _, optDef zβ rfl⟩
      refine ⟨⟨(true && true), .yes (c := true) (d := true) rfl (fun v w h => h), fun h w => optUndef h, fun zβ za zw zc => ?_⟩, ?_⟩
      · exact eql_3 rfl ((show za.eval (.tmp 34) = za.tmps.getD 34 undef from rfl).trans (optVal (zc.dep 2 34 (by kernel_rfl)) rfl rfl)) ((show za.eval (.tmp 35) = za.tmps.getD 35 undef from rfl).trans (optVal (zc.dep 3 35 (by kernel_rfl)) rfl rfl)) ⟨_, rfl, Below.refl _ _, optDef zβ rfl⟩
      refine ⟨⟨true, .none rfl, fun h w => optUndef h, fun zβ za zw zc => ?_⟩, ?_⟩
      · exact wp_pickT rfl ((show za.eval (.tmp 33) = za.tmps.getD 33 undef from rfl).trans (optVal (zc.dep 1 33 (by kernel_rfl)) rfl rfl)) ((show za.eval (.tmp 36) = za.tmps.getD 36 undef from rfl).trans (optVal (zc.dep 4 36 (by kernel_rfl)) rfl rfl)) ⟨_, rfl, Below.refl _ _, optDef zβ rfl⟩
      refine ⟨⟨true, .none rfl, fun h w => optUndef h, fun zβ za zw zc => ?_⟩, ?_⟩
      · exact wp_move rfl ((show za.eval (.tmp 37) = za.tmps.getD 37 undef from rfl).trans (optVal (zc.dep 5 37 (by kernel_rfl)) rfl rfl)) ⟨_, rfl, Below.refl _ _, optDef zβ rfl⟩
      refine ⟨⟨(true && (((freshRes l x).2 : Int) == ((freshRes l x).2 : Int))), .yes (c := (((freshRes l x).2 : Int) == ((freshRes l x).2 : Int))) (d := true) rfl (fun v w h => h), fun h w => optUndef h, fun zβ za zw zc => ?_⟩, ?_⟩
      · exact ld_26 rfl (zc.kn.ev rfl) (bkeeps zc.below _ _ ((hB53.cell 0).trans rfl)) (bkeeps zc.below _ _ ((hB53.cell 1).trans rfl)) (bkeeps zc.below _ _ ((hB53.cell 2).trans rfl)) ⟨_, rfl, Below.refl _ _, optDef zβ rfl⟩
      refine ⟨⟨(true && (((freshRes l x).2 : Int) == ((freshRes l x).2 : Int))), .yes (c := (((freshRes l x).2 : Int) == ((freshRes l x).2 : Int))) (d := true) rfl (fun v w h => h), fun h w => optUndef h, fun zβ za zw zc => ?_⟩, ?_⟩
      · exact ld_26 rfl (zc.kn.ev rfl) (bkeeps zc.below _ _ ((hB43.cell 0).trans rfl)) (bkeeps zc.below _ _ ((hB43.cell 1).trans rfl)) (bkeeps zc.below _ _ ((hB43.cell 2).trans rfl)) ⟨_, rfl, Below.refl _ _, optDef zβ rfl⟩
      refine ⟨⟨(true && (((freshRes l x).2 : Int) == ((freshRes l x).2 : Int))), .yes (c := (((freshRes l x).2 : Int) == ((freshRes l x).2 : Int))) (d := true) rfl (fun v w h => h), fun h w => optUndef h, fun zβ za zw zc => ?_⟩, ?_⟩
      · exact wp_eql_sy (s := (freshRes l x).1) (t := (freshRes l x).1) rfl ((show za.eval (.tmp 39) = za.tmps.getD 39 undef from rfl).trans (optVal (zc.dep 7 39 (by kernel_rfl)) rfl zβ)) ((show za.eval (.tmp 40) = za.tmps.getD 40 undef from rfl).trans (optVal (zc.dep 8 40 (by kernel_rfl)) rfl zβ)) ⟨_, rfl, Below.refl _ _, optDef zβ rfl⟩
      refine ⟨⟨true, .none rfl, fun h w => optUndef h, fun zβ za zw zc => ?_⟩, ?_⟩
      · exact wp_and rfl ((show za.eval (.tmp 38) = za.tmps.getD 38 undef from rfl).trans (optVal (zc.dep 6 38 (by kernel_rfl)) rfl rfl)) (fun hp => ((show za.eval (.tmp 41) = za.tmps.getD 41 undef from rfl).trans (optVal (zc.dep 9 41 (by kernel_rfl)) rfl (bMk zβ hp)))) ⟨_, rfl, Below.refl _ _, optDef zβ rfl⟩
      refine ⟨⟨true, .none rfl, fun h w => optUndef h, fun zβ za zw zc => ?_⟩, ?_⟩
      · exact wp_assign rfl ((show za.eval (.tmp 42) = za.tmps.getD 42 undef from rfl).trans (optVal (zc.dep 10 42 (by kernel_rfl)) rfl rfl)) ⟨_, rfl, Below.refl _ _, optDef zβ rfl⟩
      exact trivial
    · intro za w54 zh hb55 zu
      have zh := zh.cons (d := 4) (v := .bool (((((freshRes l x).2 : Int) == ((freshRes l x).2 : Int)) && (decide ((freshRes l x).1 = (freshRes l x).1))))) (optVal (zu 11 4 (by kernel_rfl)) rfl rfl)
      clear zu
      refine (show WE _ [(0, .agg #[.slice a l.length c]), (1, .agg #[.string x.name, .int .i64 x.ar, .bool x.pred]), (2, .pointer (some ⟨g2, 0, none⟩)), (3, .pointer (some ⟨g9, 0, none⟩)), (4, .bool (((((freshRes l x).2 : Int) == ((freshRes l x).2 : Int)) && (decide ((freshRes l x).1 = (freshRes l x).1))))), (5, .pointer (some ⟨g19, 0, none⟩)), (6, .int .i64 ((freshRes l x).2)), (7, .pointer (some ⟨g31, 0, none⟩)), (8, .int .i64 ((freshRes l x).2))] w54 _ .normal from ?_) za (zh.sub ⟨rfl, rfl, rfl, rfl, rfl, rfl, rfl, rfl, rfl, trivial⟩)
      refine WE.next ?_
      refine WC.ret ?_
      refine WE.ret1 rfl rfl ?_
      have hb56 : Below w.heap.size w w54 := (bstep hb46 hb55)
      exact ⟨_, rfl, congrArg Value.bool (by simp), hb56⟩

end Go.Proofs.YtbnjppmmhhjjbaaDoor
