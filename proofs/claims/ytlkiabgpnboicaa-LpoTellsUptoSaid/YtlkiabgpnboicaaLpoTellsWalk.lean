/- The walk through the law LpoTells. -/
import Derived.Test.YtlkiabgpnboicaaRefCmp
import Derived.Test.YtlkiabgpnboicaaLpoWakes
namespace Go.Proofs.Ytlkiabgpnboicaa
open Go.RowKit Go

theorem ts_blk {w : World} {g : Nat} {s t : T} {u v x y : Value} (hB : Blk w g 27 #[u, v, x, y]) (hs : IsT w s (.agg #[u, v])) (ht : IsT w t (.agg #[x, y])) : IsTs w [s, t] (some ⟨g, 0, none⟩) 0 :=
  ⟨⟨g, 0, u, v, rfl, (hB.cell 0).trans rfl, (hB.cell 1).trans rfl, hs⟩, ⟨g, 0, x, y, rfl, (hB.cell 2).trans rfl, (hB.cell 3).trans rfl, ht⟩, trivial⟩
set_option maxRecDepth 100000 in
theorem tells_any (o : Od) (s t : T) (w : World) (vo v u : Value) (h1 : s.size ≤ 4294967296) (h2 : t.size ≤ 4294967296) (ho : IsOd w o vo) (hv : IsT w s v) (hu : IsT w t u) :
    Calls Try.prog 3 #[vo, v, u] w (Ret fun v' w' => v' = .bool true ∧ Below w.heap.size w w') := by
  have hvt := hv
  have hut := hu
  have ho0 := ho
  obtain ⟨p1, p2, k1, k2, rfl, _, _, _, _, hp, _, _⟩ := ho
  obtain ⟨_, a, c, rfl, _, _, _⟩ := hv.form
  obtain ⟨_, a2, c2, rfl, _, _, _⟩ := hu.form
  refine Calls.walk (l := [.agg #[.bool o.lpo, .slice p1 o.prec.length k1, .slice p2 o.weights.length k2, .int .i64 o.var], .agg #[.int .i64 s.f, .slice a s.args.length c], .agg #[.int .i64 t.f, .slice a2 t.args.length c2]]) Try.func3 rfl (by kernel_rfl) ?_
  refine WC.sub (K' := [(0, .agg #[.bool o.lpo, .slice p1 o.prec.length k1, .slice p2 o.weights.length k2, .int .i64 o.var]), (1, .agg #[.int .i64 s.f, .slice a s.args.length c]), (2, .agg #[.int .i64 t.f, .slice a2 t.args.length c2])]) ⟨rfl, rfl, rfl, trivial⟩ ?_
  refine WC.seq ?_
  refine WC.region ?_
  refine WL.step (post := NewBlk w 24 #[.bool o.lpo, .slice p1 o.prec.length k1, .slice p2 o.weights.length k2, .int .i64 o.var]) rfl rfl rfl (fun za zC zh zk => box_24 rfl (zh.ev rfl) (zk _ _ (newBlk _ _ _))) ?_
  rintro _ w1 ⟨g2, rfl, hg3, hB4, hb5, hz6⟩
  have hl7 : w.heap.size ≤ g2 := by omega
  refine WL.step (post := NewBlk w1 27 #[.int .i64 s.f, .slice a s.args.length c]) rfl rfl rfl (fun za zC zh zk => box_27 rfl (zh.ev rfl) (zk _ _ (newBlk _ _ _))) ?_
  rintro _ w8 ⟨g9, rfl, hg10, hB11, hb12, hz13⟩
  have hl14 : g2 < g9 := by have z1 := hB4.lt; omega
  have hl15 : w.heap.size ≤ g9 := by have z2 := (hb5).size; omega
  refine WL.step (post := NewBlk w8 27 #[.int .i64 t.f, .slice a2 t.args.length c2]) rfl rfl rfl (fun za zC zh zk => box_27 rfl (zh.ev rfl) (zk _ _ (newBlk _ _ _))) ?_
  rintro _ w16 ⟨g17, rfl, hg18, hB19, hb20, hz21⟩
  have hl22 : g2 < g17 := by have z1 := hB4.lt; have z2 := (hb12).size; omega
  have hl23 : g9 < g17 := by have z1 := hB11.lt; omega
  have hb24 : Below w.heap.size w w8 := (bstep hb5 hb12)
  have hl25 : w.heap.size ≤ g17 := by have z2 := (hb24).size; omega
  refine WL.val (.bool false) rfl rfl rfl (fun za zC zh zk => wp_assign rfl (zh.ev rfl) zk) ?_
  refine WL.nil (WE.sub (K' := [(0, .agg #[.bool o.lpo, .slice p1 o.prec.length k1, .slice p2 o.weights.length k2, .int .i64 o.var]), (1, .agg #[.int .i64 s.f, .slice a s.args.length c]), (2, .agg #[.int .i64 t.f, .slice a2 t.args.length c2]), (3, .pointer (some ⟨g2, 0, none⟩)), (4, .pointer (some ⟨g9, 0, none⟩)), (5, .pointer (some ⟨g17, 0, none⟩)), (6, .bool false)]) ⟨rfl, rfl, rfl, rfl, rfl, rfl, rfl, trivial⟩ ?_)
  refine WE.next ?_
  refine WC.seq ?_
  refine WC.seq ?_
  refine WC.region ?_
  have hB26 := hB11.below hb20
  refine WL.val (.agg #[.int .i64 s.f, .slice a s.args.length c]) rfl rfl rfl (fun za zC zh zk => ld_27 rfl (zh.ev rfl) ((hB26.cell 0).trans rfl) ((hB26.cell 1).trans rfl) zk) ?_
  refine WL.val (.agg #[.int .i64 t.f, .slice a2 t.args.length c2]) rfl rfl rfl (fun za zC zh zk => ld_27 rfl (zh.ev rfl) ((hB19.cell 0).trans rfl) ((hB19.cell 1).trans rfl) zk) ?_
  refine WL.step (post := NewRow w16 27 #[.int .i64 s.f, .slice a s.args.length c, .int .i64 t.f, .slice a2 t.args.length c2] 2) rfl rfl rfl (fun za zC zh zk => row_25_2 rfl (zh.ev rfl) (zh.ev rfl) (zk _ _ (newRow _ _ _ _))) ?_
  rintro _ w27 ⟨g28, rfl, hg29, hB30, hb31, hz32⟩
  have hb33 : Below w1.heap.size w1 w16 := (bstep hb12 hb20)
  have hl34 : g2 < g28 := by have z1 := hB4.lt; have z2 := (hb33).size; omega
  have hl35 : g9 < g28 := by have z1 := hB26.lt; omega
  have hl36 : g17 < g28 := by have z1 := hB19.lt; omega
  have hb37 : Below w.heap.size w w16 := (bstep hb5 hb33)
  have hl38 : w.heap.size ≤ g28 := by have z2 := (hb37).size; omega
  have hb39 : Below w.heap.size w w27 := (bstep hb37 hb31)
  refine WL.call rfl rfl rfl (fun za zh zC => wp_call (by kernel_rfl) rfl (hv1 (zh.ev rfl))) (great_any [s, t] _ _ _ (Nat.le_refl _) (by unfold maxLen; decide) (ts_blk hB30 (IsT.below hb39 hvt) (IsT.below hb39 hut))) ?_
  rintro _ w40 ⟨⟨bG, rfl⟩, hbG⟩
  refine WL.nil (WE.sub (K' := [(0, .agg #[.bool o.lpo, .slice p1 o.prec.length k1, .slice p2 o.weights.length k2, .int .i64 o.var]), (1, .agg #[.int .i64 s.f, .slice a s.args.length c]), (2, .agg #[.int .i64 t.f, .slice a2 t.args.length c2]), (3, .pointer (some ⟨g2, 0, none⟩)), (4, .pointer (some ⟨g9, 0, none⟩)), (5, .pointer (some ⟨g17, 0, none⟩)), (6, .bool false), (11, .bool bG)]) ⟨rfl, rfl, rfl, rfl, rfl, rfl, rfl, rfl, trivial⟩ ?_)
  refine WE.next ?_
  refine WC.cond rfl (fun h41 => ?_) (fun h41 => ?_)
  · skip
    refine WC.seq ?_
    refine WC.region ?_
    refine WL.call rfl rfl rfl (fun za zh zC => wp_call (by kernel_rfl) rfl (hv0)) (wakes_any _) ?_
    rintro _ w42 ⟨rfl, hbw⟩
    refine WL.val (.bool true) rfl rfl rfl (fun za zC zh zk => wp_assign rfl (zh.ev rfl) zk) ?_
    refine WL.nil (WE.sub (K' := [(0, .agg #[.bool o.lpo, .slice p1 o.prec.length k1, .slice p2 o.weights.length k2, .int .i64 o.var]), (1, .agg #[.int .i64 s.f, .slice a s.args.length c]), (2, .agg #[.int .i64 t.f, .slice a2 t.args.length c2]), (3, .pointer (some ⟨g2, 0, none⟩)), (4, .pointer (some ⟨g9, 0, none⟩)), (5, .pointer (some ⟨g17, 0, none⟩)), (6, .bool true), (11, .bool bG)]) ⟨rfl, rfl, rfl, rfl, rfl, rfl, rfl, rfl, trivial⟩ ?_)
    refine WE.next ?_
    refine WC.ret ?_
    refine WE.thenRet ?_
    refine WE.ret1 rfl rfl ?_
    have hb43 : Below w.heap.size w w42 := (bstep (bstep hb39 hbG) hbw)
    exact ⟨_, rfl, congrArg Value.bool (by simp), hb43⟩
  · skip
    refine WC.skip ?_
    refine WE.next ?_
    refine WC.seq ?_
    refine WC.region ?_
    have hb45 : Below w1.heap.size w1 w40 := (bstep (bstep hb33 hb31) hbG)
    have hB44 := hB4.below hb45
    refine WL.val (.agg #[.bool o.lpo, .slice p1 o.prec.length k1, .slice p2 o.weights.length k2, .int .i64 o.var]) rfl rfl rfl (fun za zC zh zk => ld_24 rfl (zh.ev rfl) ((hB44.cell 0).trans rfl) ((hB44.cell 1).trans rfl) ((hB44.cell 2).trans rfl) ((hB44.cell 3).trans rfl) zk) ?_
    have hb47 : Below w16.heap.size w16 w40 := (bstep hb31 hbG)
    have hB46 := hB26.below hb47
    refine WL.val (.agg #[.int .i64 s.f, .slice a s.args.length c]) rfl rfl rfl (fun za zC zh zk => ld_27 rfl (zh.ev rfl) ((hB46.cell 0).trans rfl) ((hB46.cell 1).trans rfl) zk) ?_
    have hB48 := hB19.below hb47
    refine WL.val (.agg #[.int .i64 t.f, .slice a2 t.args.length c2]) rfl rfl rfl (fun za zC zh zk => ld_27 rfl (zh.ev rfl) ((hB48.cell 0).trans rfl) ((hB48.cell 1).trans rfl) zk) ?_
    have hb49 : Below w.heap.size w w40 := (bstep hb5 hb45)
    refine WL.call rfl rfl rfl (fun za zh zC => wp_call (by kernel_rfl) rfl (hv3 (zh.ev rfl) (zh.ev rfl) (zh.ev rfl))) (rcmp_any o s t _ _ _ _ h1 h2 (ho0.below hb49) (IsT.below hb49 hvt) (IsT.below hb49 hut)) ?_
    rintro _ w50 ⟨rfl, hbc⟩
    refine WL.val (.int .i64 ((o.lcmp s t))) rfl rfl rfl (fun za zC zh zk => wp_assign rfl (zh.ev rfl) zk) ?_
    refine WL.nil (WE.sub (K' := [(0, .agg #[.bool o.lpo, .slice p1 o.prec.length k1, .slice p2 o.weights.length k2, .int .i64 o.var]), (1, .agg #[.int .i64 s.f, .slice a s.args.length c]), (2, .agg #[.int .i64 t.f, .slice a2 t.args.length c2]), (3, .pointer (some ⟨g2, 0, none⟩)), (4, .pointer (some ⟨g9, 0, none⟩)), (5, .pointer (some ⟨g17, 0, none⟩)), (6, .bool false), (7, .int .i64 ((o.lcmp s t))), (11, .bool bG)]) ⟨rfl, rfl, rfl, rfl, rfl, rfl, rfl, rfl, rfl, trivial⟩ ?_)
    refine WE.next ?_
    refine WC.seq ?_
    have hB51 := hB44.below hbc
    have hB52 := hB46.below hbc
    have hB53 := hB48.below hbc
    have hb54 : Below w.heap.size w w50 := (bstep hb49 hbc)
    refine WC.opt [(true, .val (.agg #[.bool o.lpo, .slice p1 o.prec.length k1, .slice p2 o.weights.length k2, .int .i64 o.var])), (true, .val (.agg #[.int .i64 s.f, .slice a s.args.length c])), (true, .val (.agg #[.int .i64 t.f, .slice a2 t.args.length c2])), (true, .val (.int .i64 ((o.lcmp s t)))), (true, .val (.int .i64 ((o.lcmp s t)))), (true, .val (.bool ((((o.lcmp s t) : Int) == ((o.lcmp s t) : Int))))), (true, .val (.bool ((((o.lcmp s t) : Int) == ((o.lcmp s t) : Int))))), ((true && (((o.lcmp s t) : Int) == ((o.lcmp s t) : Int))), .val (.agg #[.bool o.lpo, .slice p1 o.prec.length k1, .slice p2 o.weights.length k2, .int .i64 o.var])), ((true && (((o.lcmp s t) : Int) == ((o.lcmp s t) : Int))), .val (.agg #[.int .i64 s.f, .slice a s.args.length c])), ((true && (((o.lcmp s t) : Int) == ((o.lcmp s t) : Int))), .val (.agg #[.int .i64 t.f, .slice a2 t.args.length c2])), ((true && (((o.lcmp s t) : Int) == ((o.lcmp s t) : Int))), .val (.bool ((o.lcmp s t == 3)))), ((true && (((o.lcmp s t) : Int) == ((o.lcmp s t) : Int))), .val (.int .i64 ((o.lcmp s t)))), ((true && (((o.lcmp s t) : Int) == ((o.lcmp s t) : Int))), .val (.bool ((((o.lcmp s t) : Int) == (3 : Int))))), ((true && (((o.lcmp s t) : Int) == ((o.lcmp s t) : Int))), .val (.bool (((o.lcmp s t == 3) == (((o.lcmp s t) : Int) == (3 : Int)))))), (true, .val (.bool (((((o.lcmp s t) : Int) == ((o.lcmp s t) : Int)) && ((o.lcmp s t == 3) == (((o.lcmp s t) : Int) == (3 : Int))))))), (true, .val (.bool (((((o.lcmp s t) : Int) == ((o.lcmp s t) : Int)) && ((o.lcmp s t == 3) == (((o.lcmp s t) : Int) == (3 : Int))))))), ((true && ((((o.lcmp s t) : Int) == ((o.lcmp s t) : Int)) && ((o.lcmp s t == 3) == (((o.lcmp s t) : Int) == (3 : Int))))), .val (.bool true)), (true, .val (.bool ((((((o.lcmp s t) : Int) == ((o.lcmp s t) : Int)) && ((o.lcmp s t == 3) == (((o.lcmp s t) : Int) == (3 : Int)))) && true)))), (true, .val (.bool ((((((o.lcmp s t) : Int) == ((o.lcmp s t) : Int)) && ((o.lcmp s t == 3) == (((o.lcmp s t) : Int) == (3 : Int)))) && true))))] [(0, .agg #[.bool o.lpo, .slice p1 o.prec.length k1, .slice p2 o.weights.length k2, .int .i64 o.var]), (1, .agg #[.int .i64 s.f, .slice a s.args.length c]), (2, .agg #[.int .i64 t.f, .slice a2 t.args.length c2]), (3, .pointer (some ⟨g2, 0, none⟩)), (4, .pointer (some ⟨g9, 0, none⟩)), (5, .pointer (some ⟨g17, 0, none⟩)), (7, .int .i64 ((o.lcmp s t))), (11, .bool bG)] ⟨rfl, rfl, rfl, rfl, rfl, rfl, rfl, rfl, trivial⟩ (by kernel_rfl) (by kernel_rfl) (by kernel_rfl) ?_ ?_
    · refine ⟨⟨true, .none rfl, fun h w => optUndef h, fun zβ za zw zc => ?_⟩, ?_⟩
      · exact ld_24 rfl (zc.kn.ev rfl) (bkeeps zc.below _ _ ((hB51.cell 0).trans rfl)) (bkeeps zc.below _ _ ((hB51.cell 1).trans rfl)) (bkeeps zc.below _ _ ((hB51.cell 2).trans rfl)) (bkeeps zc.below _ _ ((hB51.cell 3).trans rfl)) ⟨_, rfl, Below.refl _ _, optDef zβ rfl⟩
      refine ⟨⟨true, .none rfl, fun h w => optUndef h, fun zβ za zw zc => ?_⟩, ?_⟩
      · exact ld_27 rfl (zc.kn.ev rfl) (bkeeps zc.below _ _ ((hB52.cell 0).trans rfl)) (bkeeps zc.below _ _ ((hB52.cell 1).trans rfl)) ⟨_, rfl, Below.refl _ _, optDef zβ rfl⟩
      refine ⟨⟨true, .none rfl, fun h w => optUndef h, fun zβ za zw zc => ?_⟩, ?_⟩
      · exact ld_27 rfl (zc.kn.ev rfl) (bkeeps zc.below _ _ ((hB53.cell 0).trans rfl)) (bkeeps zc.below _ _ ((hB53.cell 1).trans rfl)) ⟨_, rfl, Below.refl _ _, optDef zβ rfl⟩
      refine ⟨⟨true, .none rfl, fun h w => optUndef h, fun zβ za zw zc => ?_⟩, ?_⟩
      · exact wp_call (by kernel_rfl) rfl (hv3 ((show za.eval (.tmp 17) = za.tmps.getD 17 undef from rfl).trans (optVal (zc.dep 0 17 (by kernel_rfl)) rfl rfl)) ((show za.eval (.tmp 18) = za.tmps.getD 18 undef from rfl).trans (optVal (zc.dep 1 18 (by kernel_rfl)) rfl rfl)) ((show za.eval (.tmp 19) = za.tmps.getD 19 undef from rfl).trans (optVal (zc.dep 2 19 (by kernel_rfl)) rfl rfl))) (lcmp_any o s t _ _ _ _ h1 h2 (ho0.below (bstep hb54 zc.below)) (IsT.below (bstep hb54 zc.below) hvt) (IsT.below (bstep hb54 zc.below) hut)) (fun v w' h => ⟨v, rfl, h.2, optDef zβ h.1⟩)
      refine ⟨⟨true, .none rfl, fun h w => optUndef h, fun zβ za zw zc => ?_⟩, ?_⟩
      · exact wp_move rfl (zc.kn.ev rfl) ⟨_, rfl, Below.refl _ _, optDef zβ rfl⟩
      refine ⟨⟨true, .none rfl, fun h w => optUndef h, fun zβ za zw zc => ?_⟩, ?_⟩
      · exact eql_30 rfl ((show za.eval (.tmp 20) = za.tmps.getD 20 undef from rfl).trans (optVal (zc.dep 3 20 (by kernel_rfl)) rfl rfl)) ((show za.eval (.tmp 21) = za.tmps.getD 21 undef from rfl).trans (optVal (zc.dep 4 21 (by kernel_rfl)) rfl rfl)) ⟨_, rfl, Below.refl _ _, optDef zβ rfl⟩
      refine ⟨⟨true, .none rfl, fun h w => optUndef h, fun zβ za zw zc => ?_⟩, ?_⟩
      · exact wp_move rfl ((show za.eval (.tmp 22) = za.tmps.getD 22 undef from rfl).trans (optVal (zc.dep 5 22 (by kernel_rfl)) rfl rfl)) ⟨_, rfl, Below.refl _ _, optDef zβ rfl⟩
      refine ⟨⟨(true && (((o.lcmp s t) : Int) == ((o.lcmp s t) : Int))), .yes (c := (((o.lcmp s t) : Int) == ((o.lcmp s t) : Int))) (d := true) rfl (fun v w h => h), fun h w => optUndef h, fun zβ za zw zc => ?_⟩, ?_⟩
      · exact ld_24 rfl (zc.kn.ev rfl) (bkeeps zc.below _ _ ((hB51.cell 0).trans rfl)) (bkeeps zc.below _ _ ((hB51.cell 1).trans rfl)) (bkeeps zc.below _ _ ((hB51.cell 2).trans rfl)) (bkeeps zc.below _ _ ((hB51.cell 3).trans rfl)) ⟨_, rfl, Below.refl _ _, optDef zβ rfl⟩
      refine ⟨⟨(true && (((o.lcmp s t) : Int) == ((o.lcmp s t) : Int))), .yes (c := (((o.lcmp s t) : Int) == ((o.lcmp s t) : Int))) (d := true) rfl (fun v w h => h), fun h w => optUndef h, fun zβ za zw zc => ?_⟩, ?_⟩
      · exact ld_27 rfl (zc.kn.ev rfl) (bkeeps zc.below _ _ ((hB52.cell 0).trans rfl)) (bkeeps zc.below _ _ ((hB52.cell 1).trans rfl)) ⟨_, rfl, Below.refl _ _, optDef zβ rfl⟩
      refine ⟨⟨(true && (((o.lcmp s t) : Int) == ((o.lcmp s t) : Int))), .yes (c := (((o.lcmp s t) : Int) == ((o.lcmp s t) : Int))) (d := true) rfl (fun v w h => h), fun h w => optUndef h, fun zβ za zw zc => ?_⟩, ?_⟩
      · exact ld_27 rfl (zc.kn.ev rfl) (bkeeps zc.below _ _ ((hB53.cell 0).trans rfl)) (bkeeps zc.below _ _ ((hB53.cell 1).trans rfl)) ⟨_, rfl, Below.refl _ _, optDef zβ rfl⟩
      refine ⟨⟨(true && (((o.lcmp s t) : Int) == ((o.lcmp s t) : Int))), .yes (c := (((o.lcmp s t) : Int) == ((o.lcmp s t) : Int))) (d := true) rfl (fun v w h => h), fun h w => optUndef h, fun zβ za zw zc => ?_⟩, ?_⟩
      · exact wp_call (by kernel_rfl) rfl (hv3 ((show za.eval (.tmp 24) = za.tmps.getD 24 undef from rfl).trans (optVal (zc.dep 7 24 (by kernel_rfl)) rfl zβ)) ((show za.eval (.tmp 25) = za.tmps.getD 25 undef from rfl).trans (optVal (zc.dep 8 25 (by kernel_rfl)) rfl zβ)) ((show za.eval (.tmp 26) = za.tmps.getD 26 undef from rfl).trans (optVal (zc.dep 9 26 (by kernel_rfl)) rfl zβ))) (lpoAbove_any o s t _ _ _ _ h1 h2 (ho0.below (bstep hb54 zc.below)) (IsT.below (bstep hb54 zc.below) hvt) (IsT.below (bstep hb54 zc.below) hut)) (fun v w' h => ⟨v, rfl, h.2, optDef zβ h.1⟩)
      refine ⟨⟨(true && (((o.lcmp s t) : Int) == ((o.lcmp s t) : Int))), .yes (c := (((o.lcmp s t) : Int) == ((o.lcmp s t) : Int))) (d := true) rfl (fun v w h => h), fun h w => optUndef h, fun zβ za zw zc => ?_⟩, ?_⟩
      · exact wp_move rfl (zc.kn.ev rfl) ⟨_, rfl, Below.refl _ _, optDef zβ rfl⟩
      refine ⟨⟨(true && (((o.lcmp s t) : Int) == ((o.lcmp s t) : Int))), .yes (c := (((o.lcmp s t) : Int) == ((o.lcmp s t) : Int))) (d := true) rfl (fun v w h => h), fun h w => optUndef h, fun zβ za zw zc => ?_⟩, ?_⟩
      · exact eql_30 rfl ((show za.eval (.tmp 28) = za.tmps.getD 28 undef from rfl).trans (optVal (zc.dep 11 28 (by kernel_rfl)) rfl zβ)) (zc.kn.ev rfl) ⟨_, rfl, Below.refl _ _, optDef zβ rfl⟩
      refine ⟨⟨(true && (((o.lcmp s t) : Int) == ((o.lcmp s t) : Int))), .yes (c := (((o.lcmp s t) : Int) == ((o.lcmp s t) : Int))) (d := true) rfl (fun v w h => h), fun h w => optUndef h, fun zβ za zw zc => ?_⟩, ?_⟩
      · exact eql_4 rfl ((show za.eval (.tmp 27) = za.tmps.getD 27 undef from rfl).trans (optVal (zc.dep 10 27 (by kernel_rfl)) rfl zβ)) ((show za.eval (.tmp 29) = za.tmps.getD 29 undef from rfl).trans (optVal (zc.dep 12 29 (by kernel_rfl)) rfl zβ)) ⟨_, rfl, Below.refl _ _, optDef zβ rfl⟩
      refine ⟨⟨true, .none rfl, fun h w => optUndef h, fun zβ za zw zc => ?_⟩, ?_⟩
      · exact wp_and rfl ((show za.eval (.tmp 23) = za.tmps.getD 23 undef from rfl).trans (optVal (zc.dep 6 23 (by kernel_rfl)) rfl rfl)) (fun hp => ((show za.eval (.tmp 30) = za.tmps.getD 30 undef from rfl).trans (optVal (zc.dep 13 30 (by kernel_rfl)) rfl (bMk zβ hp)))) ⟨_, rfl, Below.refl _ _, optDef zβ rfl⟩
      refine ⟨⟨true, .none rfl, fun h w => optUndef h, fun zβ za zw zc => ?_⟩, ?_⟩
      · exact wp_move rfl ((show za.eval (.tmp 31) = za.tmps.getD 31 undef from rfl).trans (optVal (zc.dep 14 31 (by kernel_rfl)) rfl rfl)) ⟨_, rfl, Below.refl _ _, optDef zβ rfl⟩
      refine ⟨⟨(true && ((((o.lcmp s t) : Int) == ((o.lcmp s t) : Int)) && ((o.lcmp s t == 3) == (((o.lcmp s t) : Int) == (3 : Int))))), .yes (c := ((((o.lcmp s t) : Int) == ((o.lcmp s t) : Int)) && ((o.lcmp s t == 3) == (((o.lcmp s t) : Int) == (3 : Int))))) (d := true) rfl (fun v w h => h), fun h w => optUndef h, fun zβ za zw zc => ?_⟩, ?_⟩
      · exact wp_call (by kernel_rfl) rfl (hv0) (wakes_any _) (fun v w' h => ⟨v, rfl, h.2, optDef zβ h.1⟩)
      refine ⟨⟨true, .none rfl, fun h w => optUndef h, fun zβ za zw zc => ?_⟩, ?_⟩
      · exact wp_and rfl ((show za.eval (.tmp 32) = za.tmps.getD 32 undef from rfl).trans (optVal (zc.dep 15 32 (by kernel_rfl)) rfl rfl)) (fun hp => ((show za.eval (.tmp 33) = za.tmps.getD 33 undef from rfl).trans (optVal (zc.dep 16 33 (by kernel_rfl)) rfl (bMk zβ hp)))) ⟨_, rfl, Below.refl _ _, optDef zβ rfl⟩
      refine ⟨⟨true, .none rfl, fun h w => optUndef h, fun zβ za zw zc => ?_⟩, ?_⟩
      · exact wp_assign rfl ((show za.eval (.tmp 34) = za.tmps.getD 34 undef from rfl).trans (optVal (zc.dep 17 34 (by kernel_rfl)) rfl rfl)) ⟨_, rfl, Below.refl _ _, optDef zβ rfl⟩
      exact trivial
    · intro za w55 zh hb56 zu
      have zh := zh.cons (d := 6) (v := .bool ((((((o.lcmp s t) : Int) == ((o.lcmp s t) : Int)) && ((o.lcmp s t == 3) == (((o.lcmp s t) : Int) == (3 : Int)))) && true))) (optVal (zu 18 6 (by kernel_rfl)) rfl rfl)
      clear zu
      refine (show WE _ [(0, .agg #[.bool o.lpo, .slice p1 o.prec.length k1, .slice p2 o.weights.length k2, .int .i64 o.var]), (1, .agg #[.int .i64 s.f, .slice a s.args.length c]), (2, .agg #[.int .i64 t.f, .slice a2 t.args.length c2]), (3, .pointer (some ⟨g2, 0, none⟩)), (4, .pointer (some ⟨g9, 0, none⟩)), (5, .pointer (some ⟨g17, 0, none⟩)), (6, .bool ((((((o.lcmp s t) : Int) == ((o.lcmp s t) : Int)) && ((o.lcmp s t == 3) == (((o.lcmp s t) : Int) == (3 : Int)))) && true))), (7, .int .i64 ((o.lcmp s t))), (11, .bool bG)] w55 _ .normal from ?_) za (zh.sub ⟨rfl, rfl, rfl, rfl, rfl, rfl, rfl, rfl, rfl, trivial⟩)
      refine WE.next ?_
      refine WC.ret ?_
      refine WE.ret1 rfl rfl ?_
      have hb57 : Below w.heap.size w w55 := (bstep hb54 hb56)
      exact ⟨_, rfl, congrArg Value.bool (by simp), hb57⟩

end Go.Proofs.Ytlkiabgpnboicaa
