/- Arguments of a law, opened: signatures, orders, literals. -/
import Derived.Test.YtmdpiafeiopimaaOIk
import Derived.Test.YtmdpiafeiopimaaOIa
import Derived.WalkKit
import Derived.ProofKit
import Derived.JoinedCond
import Derived.OpenShut
import Derived.Test.YtmdpiafeiopimaaOIg
import Derived.Test.YtmdpiafeiopimaaOIi

/- Clauses are ordered; a clause has a maximal literal: the walks through the laws. -/
namespace Go.Proofs.Ytmdpiafeiopimaa
open Go.RowKit Go
set_option linter.unusedVariables false
set_option linter.unusedSimpArgs false
theorem smallC_of {w : World} {c : List Li} {a : Option Addr} {k : Nat} (h : IsCl w c a k) (hl : c.length ≤ 1048576) : SmallC c := ⟨hl, fun x hx => ⟨h.partsL x hx, h.partsR x hx⟩⟩
set_option maxRecDepth 100000 in
theorem is_any (sg : List Sy) (o : Od) (x y z : List Li) (w : World) (vs vo : Value) (ax ay az : Option Addr) (cx cy cz : Nat) (hs : IsSig w sg vs) (ho : IsOd w o vo) (hx : IsCl w x ax cx) (hy : IsCl w y ay cy) (hz : IsCl w z az cz) (lx : x.length ≤ 1048576) (ly : y.length ≤ 1048576) (lz : z.length ≤ 1048576) :
    Calls Try.prog 4 #[vs, vo, .slice ax x.length cx, .slice ay y.length cy, .slice az z.length cz] w (Ret fun v' w' => v' = .bool true ∧ Below w.heap.size w w') := by
  have hst := hs
  have hot := ho
  have sx := smallC_of hx lx
  have sy := smallC_of hy ly
  have sz := smallC_of hz lz
  obtain ⟨p1, p2, k1, k2, rfl, _⟩ := ho
  obtain ⟨sa, sc, rfl, hs1, hs2, hs3⟩ := hs
  refine Calls.walk (l := [.agg #[.slice sa sg.length sc], .agg #[.bool o.lpo, .slice p1 o.prec.length k1, .slice p2 o.weights.length k2, .int .i64 o.var], .slice ax x.length cx, .slice ay y.length cy, .slice az z.length cz]) Try.func4 rfl (by kernel_rfl) ?_
  refine WC.sub (K' := [(0, .agg #[.slice sa sg.length sc]), (1, .agg #[.bool o.lpo, .slice p1 o.prec.length k1, .slice p2 o.weights.length k2, .int .i64 o.var]), (2, .slice ax x.length cx), (3, .slice ay y.length cy), (4, .slice az z.length cz)]) ⟨rfl, rfl, rfl, rfl, rfl, trivial⟩ ?_
  refine WC.seq ?_
  refine WC.region ?_
  refine WL.step (post := NewBlk w 24 #[.slice sa sg.length sc]) rfl rfl rfl (fun za zC zh zk => box_24 rfl (zh.ev rfl) (zk _ _ (newBlk _ _ _))) ?_
  rintro _ w1 ⟨g2, rfl, hg3, hB4, hb5, hz6⟩
  have hl7 : w.heap.size ≤ g2 := by omega
  refine WL.step (post := NewBlk w1 27 #[.bool o.lpo, .slice p1 o.prec.length k1, .slice p2 o.weights.length k2, .int .i64 o.var]) rfl rfl rfl (fun za zC zh zk => box_27 rfl (zh.ev rfl) (zk _ _ (newBlk _ _ _))) ?_
  rintro _ w8 ⟨g9, rfl, hg10, hB11, hb12, hz13⟩
  have hl14 : g2 < g9 := by have z1 := hB4.lt; omega
  have hl15 : w.heap.size ≤ g9 := by have z2 := (hb5).size; omega
  refine WL.val _ rfl rfl rfl (fun za zC zh zk => wp_assign rfl (zh.ev rfl) zk) ?_
  refine WL.nil ?_
  refine WE.next ?_
  refine WC.seq ?_
  refine WC.seq ?_
  refine WC.region ?_
  have hB16 := hB4.below hb12
  refine WL.val _ rfl rfl rfl (fun za zC zh zk => ld_24 rfl (zh.ev rfl) ((hB16.cell 0).trans rfl) zk) ?_
  refine WL.val _ rfl rfl rfl (fun za zC zh zk => ld_27 rfl (zh.ev rfl) ((hB11.cell 0).trans rfl) ((hB11.cell 1).trans rfl) ((hB11.cell 2).trans rfl) ((hB11.cell 3).trans rfl) zk) ?_
  refine WL.val _ rfl rfl rfl (fun za zC zh zk => wp_move rfl (zh.ev rfl) zk) ?_
  refine WL.val _ rfl rfl rfl (fun za zC zh zk => wp_move rfl (zh.ev rfl) zk) ?_
  refine WL.val _ rfl rfl rfl (fun za zC zh zk => wp_move rfl (zh.ev rfl) zk) ?_
  refine WL.step (post := NewRow w8 37 #[.slice ax x.length cx, .slice ay y.length cy, .slice az z.length cz] 3) rfl rfl rfl (fun za zC zh zk => row_38_3 rfl (zh.ev rfl) (zh.ev rfl) (zh.ev rfl) (zk _ _ (newRow _ _ _ _))) ?_
  rintro _ w17 ⟨g18, rfl, hg19, hB20, hb21, hz22⟩
  have hl23 : g2 < g18 := by have z1 := hB16.lt; omega
  have hl24 : g9 < g18 := by have z1 := hB11.lt; omega
  have hb25 : Below w.heap.size w w8 := (bstep hb5 hb12)
  have hl26 : w.heap.size ≤ g18 := by have z2 := (hb25).size; omega
  have hb27 : Below w.heap.size w w17 := (bstep hb25 hb21)
  refine WL.call rfl rfl rfl (fun za zh zC => wp_call (by kernel_rfl) rfl (hv3 (zh.ev rfl) (zh.ev rfl) (zh.ev rfl))) (fits_any sg o [x, y, z] _ _ _ _ 3 (hst.below hb27) (hot.below hb27) (isCs_3 hB20 (hx.rows.below hb27) (hy.rows.below hb27) (hz.rows.below hb27)) (by simp; exact ⟨sx, sy, sz⟩) (by simp)) ?_
  rintro _ w28 ⟨⟨bf, rfl, hbf⟩, hbw⟩
  refine WL.val (.bool ((!bf))) rfl rfl rfl (fun za zC zh zk => wp_not rfl (zh.ev rfl) zk) ?_
  refine WL.nil ?_
  refine WE.next ?_
  refine WC.cond rfl (fun h29 => ?_) (fun h29 => ?_)
  · have h29 : ¬ (bf = true) := by simpa using h29
    refine WC.seq ?_
    refine WC.region ?_
    refine WL.call rfl rfl rfl (fun za zh zC => wp_call (by kernel_rfl) rfl (hv0)) (wakes_any _) ?_
    rintro _ w31 ⟨rfl, hq30⟩
    refine WL.val _ rfl rfl rfl (fun za zC zh zk => wp_assign rfl (zh.ev rfl) zk) ?_
    refine WL.nil ?_
    refine WE.next ?_
    refine WC.ret ?_
    refine WE.thenRet ?_
    refine WE.ret1 rfl rfl ?_
    have hb32 : Below w.heap.size w w31 := (bstep (bstep hb27 hbw) hq30)
    exact ⟨_, rfl, rfl, hb32⟩
  · have h29 : ¬ (¬ (bf = true)) := by simpa using h29
    have hF := hbf (by simpa using h29)
    have g := hF.od.goodK
    have fx : ∀ q ∈ x, FitL o (sg.map (·.ar)) q := fun q hq => fitL_of (hF.may x (by simp) q hq)
    have fy : ∀ q ∈ y, FitL o (sg.map (·.ar)) q := fun q hq => fitL_of (hF.may y (by simp) q hq)
    have fz : ∀ q ∈ z, FitL o (sg.map (·.ar)) q := fun q hq => fitL_of (hF.may z (by simp) q hq)
    have ht := g.turn x y fx fy
    have hr := g.refl x fx
    refine WC.skip ?_
    refine WE.next ?_
    refine WC.seq ?_
    have hb34 : Below w8.heap.size w8 w28 := (bstep hb21 hbw)
    have hB33 := hB11.below hb34
    have hb35 : Below w.heap.size w w28 := (bstep hb25 hb34)
    refine WC.opt [(true, .val (.agg #[.bool o.lpo, .slice p1 o.prec.length k1, .slice p2 o.weights.length k2, .int .i64 o.var])), (true, .val (.slice ax x.length cx)), (true, .val (.slice ay y.length cy)), (true, .val (.int .i64 ((o.cls x y)))), (true, .val (.agg #[.bool o.lpo, .slice p1 o.prec.length k1, .slice p2 o.weights.length k2, .int .i64 o.var])), (true, .val (.slice ay y.length cy)), (true, .val (.slice az z.length cz)), (true, .val (.int .i64 ((o.cls y z)))), (true, .val (.agg #[.bool o.lpo, .slice p1 o.prec.length k1, .slice p2 o.weights.length k2, .int .i64 o.var])), (true, .val (.slice ax x.length cx)), (true, .val (.slice az z.length cz)), (true, .val (.int .i64 ((o.cls x z)))), (true, .val (.int .i64 ((o.cls x y)))), (true, .val (.int .i64 ((o.cls y z)))), (true, .val (.int .i64 ((o.cls x z))))] [(0, .agg #[.slice sa sg.length sc]), (1, .agg #[.bool o.lpo, .slice p1 o.prec.length k1, .slice p2 o.weights.length k2, .int .i64 o.var]), (2, .slice ax x.length cx), (3, .slice ay y.length cy), (4, .slice az z.length cz), (5, .pointer (some ⟨g2, 0, none⟩)), (6, .pointer (some ⟨g9, 0, none⟩)), (10, .bool false), (21, .bool ((!bf)))] ⟨rfl, rfl, rfl, rfl, rfl, rfl, rfl, rfl, rfl, trivial⟩ (by kernel_rfl) (by kernel_rfl) (by kernel_rfl) ?_ ?_
    · refine ⟨⟨true, .none rfl, fun h w => optUndef h, fun zβ za zw zc => ?_⟩, ?_⟩
      · exact ld_27 rfl (zc.kn.ev rfl) (bkeeps zc.below _ _ ((hB33.cell 0).trans rfl)) (bkeeps zc.below _ _ ((hB33.cell 1).trans rfl)) (bkeeps zc.below _ _ ((hB33.cell 2).trans rfl)) (bkeeps zc.below _ _ ((hB33.cell 3).trans rfl)) ⟨_, rfl, Below.refl _ _, optDef zβ rfl⟩
      refine ⟨⟨true, .none rfl, fun h w => optUndef h, fun zβ za zw zc => ?_⟩, ?_⟩
      · exact wp_move rfl (zc.kn.ev rfl) ⟨_, rfl, Below.refl _ _, optDef zβ rfl⟩
      refine ⟨⟨true, .none rfl, fun h w => optUndef h, fun zβ za zw zc => ?_⟩, ?_⟩
      · exact wp_move rfl (zc.kn.ev rfl) ⟨_, rfl, Below.refl _ _, optDef zβ rfl⟩
      refine ⟨⟨true, .none rfl, fun h w => optUndef h, fun zβ za zw zc => ?_⟩, ?_⟩
      · exact wp_call (by kernel_rfl) rfl (hv3 ((evt za 23).trans (optVal (zc.dep 0 23 (by kernel_rfl)) rfl rfl)) ((evt za 24).trans (optVal (zc.dep 1 24 (by kernel_rfl)) rfl rfl)) ((evt za 25).trans (optVal (zc.dep 2 25 (by kernel_rfl)) rfl rfl))) (oclauses_any o x y _ _ _ _ _ _ (hot.below (bstep hb35 zc.below)) (hx.rows.below (bstep hb35 zc.below)) (hy.rows.below (bstep hb35 zc.below)) sx.2 sy.2 sx.1 sy.1) (fun v w' h => ⟨v, rfl, h.2, optDef zβ h.1⟩)
      refine ⟨⟨true, .none rfl, fun h w => optUndef h, fun zβ za zw zc => ?_⟩, ?_⟩
      · exact ld_27 rfl (zc.kn.ev rfl) (bkeeps zc.below _ _ ((hB33.cell 0).trans rfl)) (bkeeps zc.below _ _ ((hB33.cell 1).trans rfl)) (bkeeps zc.below _ _ ((hB33.cell 2).trans rfl)) (bkeeps zc.below _ _ ((hB33.cell 3).trans rfl)) ⟨_, rfl, Below.refl _ _, optDef zβ rfl⟩
      refine ⟨⟨true, .none rfl, fun h w => optUndef h, fun zβ za zw zc => ?_⟩, ?_⟩
      · exact wp_move rfl (zc.kn.ev rfl) ⟨_, rfl, Below.refl _ _, optDef zβ rfl⟩
      refine ⟨⟨true, .none rfl, fun h w => optUndef h, fun zβ za zw zc => ?_⟩, ?_⟩
      · exact wp_move rfl (zc.kn.ev rfl) ⟨_, rfl, Below.refl _ _, optDef zβ rfl⟩
      refine ⟨⟨true, .none rfl, fun h w => optUndef h, fun zβ za zw zc => ?_⟩, ?_⟩
      · exact wp_call (by kernel_rfl) rfl (hv3 ((evt za 27).trans (optVal (zc.dep 4 27 (by kernel_rfl)) rfl rfl)) ((evt za 28).trans (optVal (zc.dep 5 28 (by kernel_rfl)) rfl rfl)) ((evt za 29).trans (optVal (zc.dep 6 29 (by kernel_rfl)) rfl rfl))) (oclauses_any o y z _ _ _ _ _ _ (hot.below (bstep hb35 zc.below)) (hy.rows.below (bstep hb35 zc.below)) (hz.rows.below (bstep hb35 zc.below)) sy.2 sz.2 sy.1 sz.1) (fun v w' h => ⟨v, rfl, h.2, optDef zβ h.1⟩)
      refine ⟨⟨true, .none rfl, fun h w => optUndef h, fun zβ za zw zc => ?_⟩, ?_⟩
      · exact ld_27 rfl (zc.kn.ev rfl) (bkeeps zc.below _ _ ((hB33.cell 0).trans rfl)) (bkeeps zc.below _ _ ((hB33.cell 1).trans rfl)) (bkeeps zc.below _ _ ((hB33.cell 2).trans rfl)) (bkeeps zc.below _ _ ((hB33.cell 3).trans rfl)) ⟨_, rfl, Below.refl _ _, optDef zβ rfl⟩
      refine ⟨⟨true, .none rfl, fun h w => optUndef h, fun zβ za zw zc => ?_⟩, ?_⟩
      · exact wp_move rfl (zc.kn.ev rfl) ⟨_, rfl, Below.refl _ _, optDef zβ rfl⟩
      refine ⟨⟨true, .none rfl, fun h w => optUndef h, fun zβ za zw zc => ?_⟩, ?_⟩
      · exact wp_move rfl (zc.kn.ev rfl) ⟨_, rfl, Below.refl _ _, optDef zβ rfl⟩
      refine ⟨⟨true, .none rfl, fun h w => optUndef h, fun zβ za zw zc => ?_⟩, ?_⟩
      · exact wp_call (by kernel_rfl) rfl (hv3 ((evt za 31).trans (optVal (zc.dep 8 31 (by kernel_rfl)) rfl rfl)) ((evt za 32).trans (optVal (zc.dep 9 32 (by kernel_rfl)) rfl rfl)) ((evt za 33).trans (optVal (zc.dep 10 33 (by kernel_rfl)) rfl rfl))) (oclauses_any o x z _ _ _ _ _ _ (hot.below (bstep hb35 zc.below)) (hx.rows.below (bstep hb35 zc.below)) (hz.rows.below (bstep hb35 zc.below)) sx.2 sz.2 sx.1 sz.1) (fun v w' h => ⟨v, rfl, h.2, optDef zβ h.1⟩)
      refine ⟨⟨true, .none rfl, fun h w => optUndef h, fun zβ za zw zc => ?_⟩, ?_⟩
      · exact wp_assign rfl ((evt za 26).trans (optVal (zc.dep 3 26 (by kernel_rfl)) rfl rfl)) ⟨_, rfl, Below.refl _ _, optDef zβ rfl⟩
      refine ⟨⟨true, .none rfl, fun h w => optUndef h, fun zβ za zw zc => ?_⟩, ?_⟩
      · exact wp_assign rfl ((evt za 30).trans (optVal (zc.dep 7 30 (by kernel_rfl)) rfl rfl)) ⟨_, rfl, Below.refl _ _, optDef zβ rfl⟩
      refine ⟨⟨true, .none rfl, fun h w => optUndef h, fun zβ za zw zc => ?_⟩, ?_⟩
      · exact wp_assign rfl ((evt za 34).trans (optVal (zc.dep 11 34 (by kernel_rfl)) rfl rfl)) ⟨_, rfl, Below.refl _ _, optDef zβ rfl⟩
      exact trivial
    · intro za w39 zh hb40 zu
      have zh := zh.cons (d := 11) (v := .int .i64 ((o.cls x y))) (optVal (zu 12 11 (by kernel_rfl)) rfl rfl)
      have zh := zh.cons (d := 12) (v := .int .i64 ((o.cls y z))) (optVal (zu 13 12 (by kernel_rfl)) rfl rfl)
      have zh := zh.cons (d := 13) (v := .int .i64 ((o.cls x z))) (optVal (zu 14 13 (by kernel_rfl)) rfl rfl)
      clear zu
      refine WE.go zh ?_
      refine WE.next ?_
      refine WC.seq ?_
      refine WC.seq ?_
      have hB41 := hB33.below hb40
      have hb42 : Below w.heap.size w w39 := (bstep hb35 hb40)
      refine WC.opt [(true, .val (.agg #[.bool o.lpo, .slice p1 o.prec.length k1, .slice p2 o.weights.length k2, .int .i64 o.var])), (true, .val (.slice ay y.length cy)), (true, .val (.slice ax x.length cx)), (true, .val (.int .i64 ((o.cls y x)))), (true, .val (.int .i64 ((o.cls x y)))), (true, .val (.int .i64 ((trn ((o.cls x y)))))), (true, .val (.bool ((((o.cls y x) : Int) != ((trn ((o.cls x y))) : Int))))), (true, .val (.bool ((((o.cls y x) : Int) != ((trn ((o.cls x y))) : Int))))), ((true && !(((o.cls y x) : Int) != ((trn ((o.cls x y))) : Int))), .val (.agg #[.bool o.lpo, .slice p1 o.prec.length k1, .slice p2 o.weights.length k2, .int .i64 o.var])), ((true && !(((o.cls y x) : Int) != ((trn ((o.cls x y))) : Int))), .val (.slice ax x.length cx)), ((true && !(((o.cls y x) : Int) != ((trn ((o.cls x y))) : Int))), .val (.slice ax x.length cx)), ((true && !(((o.cls y x) : Int) != ((trn ((o.cls x y))) : Int))), .val (.int .i64 ((o.cls x x)))), ((true && !(((o.cls y x) : Int) != ((trn ((o.cls x y))) : Int))), .val (.bool ((((o.cls x x) : Int) != (2 : Int))))), (true, .val (.bool (((((o.cls y x) : Int) != ((trn ((o.cls x y))) : Int)) || (((o.cls x x) : Int) != (2 : Int))))))] [(0, .agg #[.slice sa sg.length sc]), (1, .agg #[.bool o.lpo, .slice p1 o.prec.length k1, .slice p2 o.weights.length k2, .int .i64 o.var]), (2, .slice ax x.length cx), (3, .slice ay y.length cy), (4, .slice az z.length cz), (5, .pointer (some ⟨g2, 0, none⟩)), (6, .pointer (some ⟨g9, 0, none⟩)), (10, .bool false), (11, .int .i64 ((o.cls x y))), (12, .int .i64 ((o.cls y z))), (13, .int .i64 ((o.cls x z))), (21, .bool ((!bf)))] ⟨rfl, rfl, rfl, rfl, rfl, rfl, rfl, rfl, rfl, rfl, rfl, rfl, trivial⟩ (by kernel_rfl) (by kernel_rfl) (by kernel_rfl) ?_ ?_
      · refine ⟨⟨true, .none rfl, fun h w => optUndef h, fun zβ za zw zc => ?_⟩, ?_⟩
        · exact ld_27 rfl (zc.kn.ev rfl) (bkeeps zc.below _ _ ((hB41.cell 0).trans rfl)) (bkeeps zc.below _ _ ((hB41.cell 1).trans rfl)) (bkeeps zc.below _ _ ((hB41.cell 2).trans rfl)) (bkeeps zc.below _ _ ((hB41.cell 3).trans rfl)) ⟨_, rfl, Below.refl _ _, optDef zβ rfl⟩
        refine ⟨⟨true, .none rfl, fun h w => optUndef h, fun zβ za zw zc => ?_⟩, ?_⟩
        · exact wp_move rfl (zc.kn.ev rfl) ⟨_, rfl, Below.refl _ _, optDef zβ rfl⟩
        refine ⟨⟨true, .none rfl, fun h w => optUndef h, fun zβ za zw zc => ?_⟩, ?_⟩
        · exact wp_move rfl (zc.kn.ev rfl) ⟨_, rfl, Below.refl _ _, optDef zβ rfl⟩
        refine ⟨⟨true, .none rfl, fun h w => optUndef h, fun zβ za zw zc => ?_⟩, ?_⟩
        · exact wp_call (by kernel_rfl) rfl (hv3 ((evt za 35).trans (optVal (zc.dep 0 35 (by kernel_rfl)) rfl rfl)) ((evt za 36).trans (optVal (zc.dep 1 36 (by kernel_rfl)) rfl rfl)) ((evt za 37).trans (optVal (zc.dep 2 37 (by kernel_rfl)) rfl rfl))) (oclauses_any o y x _ _ _ _ _ _ (hot.below (bstep hb42 zc.below)) (hy.rows.below (bstep hb42 zc.below)) (hx.rows.below (bstep hb42 zc.below)) sy.2 sx.2 sy.1 sx.1) (fun v w' h => ⟨v, rfl, h.2, optDef zβ h.1⟩)
        refine ⟨⟨true, .none rfl, fun h w => optUndef h, fun zβ za zw zc => ?_⟩, ?_⟩
        · exact wp_move rfl (zc.kn.ev rfl) ⟨_, rfl, Below.refl _ _, optDef zβ rfl⟩
        refine ⟨⟨true, .none rfl, fun h w => optUndef h, fun zβ za zw zc => ?_⟩, ?_⟩
        · exact wp_call (by kernel_rfl) rfl (hv1 ((evt za 39).trans (optVal (zc.dep 4 39 (by kernel_rfl)) rfl rfl))) (lturn_any ((o.cls x y)) _) (fun v w' h => ⟨v, rfl, h.2, optDef zβ h.1⟩)
        refine ⟨⟨true, .none rfl, fun h w => optUndef h, fun zβ za zw zc => ?_⟩, ?_⟩
        · exact neq_48 rfl ((evt za 38).trans (optVal (zc.dep 3 38 (by kernel_rfl)) rfl rfl)) ((evt za 40).trans (optVal (zc.dep 5 40 (by kernel_rfl)) rfl rfl)) ⟨_, rfl, Below.refl _ _, optDef zβ rfl⟩
        refine ⟨⟨true, .none rfl, fun h w => optUndef h, fun zβ za zw zc => ?_⟩, ?_⟩
        · exact wp_move rfl ((evt za 41).trans (optVal (zc.dep 6 41 (by kernel_rfl)) rfl rfl)) ⟨_, rfl, Below.refl _ _, optDef zβ rfl⟩
        refine ⟨⟨_, .no (c := (((o.cls y x) : Int) != ((trn ((o.cls x y))) : Int))) (d := true) rfl (fun v w h => h), fun h w => optUndef h, fun zβ za zw zc => ?_⟩, ?_⟩
        · exact ld_27 rfl (zc.kn.ev rfl) (bkeeps zc.below _ _ ((hB41.cell 0).trans rfl)) (bkeeps zc.below _ _ ((hB41.cell 1).trans rfl)) (bkeeps zc.below _ _ ((hB41.cell 2).trans rfl)) (bkeeps zc.below _ _ ((hB41.cell 3).trans rfl)) ⟨_, rfl, Below.refl _ _, optDef zβ rfl⟩
        refine ⟨⟨_, .no (c := (((o.cls y x) : Int) != ((trn ((o.cls x y))) : Int))) (d := true) rfl (fun v w h => h), fun h w => optUndef h, fun zβ za zw zc => ?_⟩, ?_⟩
        · exact wp_move rfl (zc.kn.ev rfl) ⟨_, rfl, Below.refl _ _, optDef zβ rfl⟩
        refine ⟨⟨_, .no (c := (((o.cls y x) : Int) != ((trn ((o.cls x y))) : Int))) (d := true) rfl (fun v w h => h), fun h w => optUndef h, fun zβ za zw zc => ?_⟩, ?_⟩
        · exact wp_move rfl (zc.kn.ev rfl) ⟨_, rfl, Below.refl _ _, optDef zβ rfl⟩
        refine ⟨⟨_, .no (c := (((o.cls y x) : Int) != ((trn ((o.cls x y))) : Int))) (d := true) rfl (fun v w h => h), fun h w => optUndef h, fun zβ za zw zc => ?_⟩, ?_⟩
        · exact wp_call (by kernel_rfl) rfl (hv3 ((evt za 43).trans (optVal (zc.dep 8 43 (by kernel_rfl)) rfl zβ)) ((evt za 44).trans (optVal (zc.dep 9 44 (by kernel_rfl)) rfl zβ)) ((evt za 45).trans (optVal (zc.dep 10 45 (by kernel_rfl)) rfl zβ))) (oclauses_any o x x _ _ _ _ _ _ (hot.below (bstep hb42 zc.below)) (hx.rows.below (bstep hb42 zc.below)) (hx.rows.below (bstep hb42 zc.below)) sx.2 sx.2 sx.1 sx.1) (fun v w' h => ⟨v, rfl, h.2, optDef zβ h.1⟩)
        refine ⟨⟨_, .no (c := (((o.cls y x) : Int) != ((trn ((o.cls x y))) : Int))) (d := true) rfl (fun v w h => h), fun h w => optUndef h, fun zβ za zw zc => ?_⟩, ?_⟩
        · exact neq_48 rfl ((evt za 46).trans (optVal (zc.dep 11 46 (by kernel_rfl)) rfl zβ)) (zc.kn.ev rfl) ⟨_, rfl, Below.refl _ _, optDef zβ rfl⟩
        refine ⟨⟨true, .none rfl, fun h w => optUndef h, fun zβ za zw zc => ?_⟩, ?_⟩
        · exact wp_or rfl ((evt za 42).trans (optVal (zc.dep 7 42 (by kernel_rfl)) rfl rfl)) (fun hp => ((evt za 47).trans (optVal (zc.dep 12 47 (by kernel_rfl)) rfl (bMkN zβ hp)))) ⟨_, rfl, Below.refl _ _, optDef zβ rfl⟩
        exact trivial
      · intro za w46 zh hb47 zu
        have zh := zh.cons (d := 48) (v := .bool (((((o.cls y x) : Int) != ((trn ((o.cls x y))) : Int)) || (((o.cls x x) : Int) != (2 : Int))))) (optVal (zu 13 48 (by kernel_rfl)) rfl rfl)
        clear zu
        refine WE.go zh ?_
        refine WE.next ?_
        refine WC.condF rfl (by rw [ht, hr]; simp) ?_
        refine WC.skip ?_
        refine WE.next ?_
        refine WC.seq ?_
        refine WC.opt [(true, .val (.int .i64 ((o.cls x y)))), (true, .val (.bool ((((o.cls x y) : Int) != (3 : Int))))), (true, .val (.bool ((((o.cls x y) : Int) != (3 : Int))))), ((true && !(((o.cls x y) : Int) != (3 : Int))), .val (.int .i64 ((o.cls y z)))), ((true && !(((o.cls x y) : Int) != (3 : Int))), .val (.bool ((((o.cls y z) : Int) != (3 : Int))))), (true, .val (.bool (((((o.cls x y) : Int) != (3 : Int)) || (((o.cls y z) : Int) != (3 : Int)))))), (true, .val (.bool (((((o.cls x y) : Int) != (3 : Int)) || (((o.cls y z) : Int) != (3 : Int)))))), ((true && !((((o.cls x y) : Int) != (3 : Int)) || (((o.cls y z) : Int) != (3 : Int)))), .val (.int .i64 ((o.cls x z)))), ((true && !((((o.cls x y) : Int) != (3 : Int)) || (((o.cls y z) : Int) != (3 : Int)))), .val (.bool ((((o.cls x z) : Int) == (3 : Int))))), (true, .val (.bool ((((((o.cls x y) : Int) != (3 : Int)) || (((o.cls y z) : Int) != (3 : Int))) || (((o.cls x z) : Int) == (3 : Int)))))), (true, .val (.bool ((((((o.cls x y) : Int) != (3 : Int)) || (((o.cls y z) : Int) != (3 : Int))) || (((o.cls x z) : Int) == (3 : Int)))))), ((true && (((((o.cls x y) : Int) != (3 : Int)) || (((o.cls y z) : Int) != (3 : Int))) || (((o.cls x z) : Int) == (3 : Int)))), .val (.int .i64 ((o.cls x y)))), ((true && (((((o.cls x y) : Int) != (3 : Int)) || (((o.cls y z) : Int) != (3 : Int))) || (((o.cls x z) : Int) == (3 : Int)))), .val (.bool ((((o.cls x y) : Int) != (2 : Int))))), ((true && (((((o.cls x y) : Int) != (3 : Int)) || (((o.cls y z) : Int) != (3 : Int))) || (((o.cls x z) : Int) == (3 : Int)))), .val (.bool ((((o.cls x y) : Int) != (2 : Int))))), (((true && (((((o.cls x y) : Int) != (3 : Int)) || (((o.cls y z) : Int) != (3 : Int))) || (((o.cls x z) : Int) == (3 : Int)))) && !(((o.cls x y) : Int) != (2 : Int))), .val (.int .i64 ((o.cls x z)))), (((true && (((((o.cls x y) : Int) != (3 : Int)) || (((o.cls y z) : Int) != (3 : Int))) || (((o.cls x z) : Int) == (3 : Int)))) && !(((o.cls x y) : Int) != (2 : Int))), .val (.int .i64 ((o.cls y z)))), (((true && (((((o.cls x y) : Int) != (3 : Int)) || (((o.cls y z) : Int) != (3 : Int))) || (((o.cls x z) : Int) == (3 : Int)))) && !(((o.cls x y) : Int) != (2 : Int))), .val (.bool ((((o.cls x z) : Int) == ((o.cls y z) : Int))))), ((true && (((((o.cls x y) : Int) != (3 : Int)) || (((o.cls y z) : Int) != (3 : Int))) || (((o.cls x z) : Int) == (3 : Int)))), .val (.bool (((((o.cls x y) : Int) != (2 : Int)) || (((o.cls x z) : Int) == ((o.cls y z) : Int)))))), (true, .val (.bool (((((((o.cls x y) : Int) != (3 : Int)) || (((o.cls y z) : Int) != (3 : Int))) || (((o.cls x z) : Int) == (3 : Int))) && ((((o.cls x y) : Int) != (2 : Int)) || (((o.cls x z) : Int) == ((o.cls y z) : Int))))))), (true, .val (.bool (((((((o.cls x y) : Int) != (3 : Int)) || (((o.cls y z) : Int) != (3 : Int))) || (((o.cls x z) : Int) == (3 : Int))) && ((((o.cls x y) : Int) != (2 : Int)) || (((o.cls x z) : Int) == ((o.cls y z) : Int))))))), ((true && ((((((o.cls x y) : Int) != (3 : Int)) || (((o.cls y z) : Int) != (3 : Int))) || (((o.cls x z) : Int) == (3 : Int))) && ((((o.cls x y) : Int) != (2 : Int)) || (((o.cls x z) : Int) == ((o.cls y z) : Int))))), .val (.bool true)), (true, .val (.bool ((((((((o.cls x y) : Int) != (3 : Int)) || (((o.cls y z) : Int) != (3 : Int))) || (((o.cls x z) : Int) == (3 : Int))) && ((((o.cls x y) : Int) != (2 : Int)) || (((o.cls x z) : Int) == ((o.cls y z) : Int)))) && true)))), (true, .val (.bool ((((((((o.cls x y) : Int) != (3 : Int)) || (((o.cls y z) : Int) != (3 : Int))) || (((o.cls x z) : Int) == (3 : Int))) && ((((o.cls x y) : Int) != (2 : Int)) || (((o.cls x z) : Int) == ((o.cls y z) : Int)))) && true))))] [(0, .agg #[.slice sa sg.length sc]), (1, .agg #[.bool o.lpo, .slice p1 o.prec.length k1, .slice p2 o.weights.length k2, .int .i64 o.var]), (2, .slice ax x.length cx), (3, .slice ay y.length cy), (4, .slice az z.length cz), (5, .pointer (some ⟨g2, 0, none⟩)), (6, .pointer (some ⟨g9, 0, none⟩)), (11, .int .i64 ((o.cls x y))), (12, .int .i64 ((o.cls y z))), (13, .int .i64 ((o.cls x z))), (21, .bool ((!bf))), (48, .bool (((((o.cls y x) : Int) != ((trn ((o.cls x y))) : Int)) || (((o.cls x x) : Int) != (2 : Int)))))] ⟨rfl, rfl, rfl, rfl, rfl, rfl, rfl, rfl, rfl, rfl, rfl, rfl, trivial⟩ (by kernel_rfl) (by kernel_rfl) (by kernel_rfl) ?_ ?_
        · refine ⟨⟨true, .none rfl, fun h w => optUndef h, fun zβ za zw zc => ?_⟩, ?_⟩
          · exact wp_move rfl (zc.kn.ev rfl) ⟨_, rfl, Below.refl _ _, optDef zβ rfl⟩
          refine ⟨⟨true, .none rfl, fun h w => optUndef h, fun zβ za zw zc => ?_⟩, ?_⟩
          · exact neq_48 rfl ((evt za 49).trans (optVal (zc.dep 0 49 (by kernel_rfl)) rfl rfl)) (zc.kn.ev rfl) ⟨_, rfl, Below.refl _ _, optDef zβ rfl⟩
          refine ⟨⟨true, .none rfl, fun h w => optUndef h, fun zβ za zw zc => ?_⟩, ?_⟩
          · exact wp_move rfl ((evt za 50).trans (optVal (zc.dep 1 50 (by kernel_rfl)) rfl rfl)) ⟨_, rfl, Below.refl _ _, optDef zβ rfl⟩
          refine ⟨⟨_, .no (c := (((o.cls x y) : Int) != (3 : Int))) (d := true) rfl (fun v w h => h), fun h w => optUndef h, fun zβ za zw zc => ?_⟩, ?_⟩
          · exact wp_move rfl (zc.kn.ev rfl) ⟨_, rfl, Below.refl _ _, optDef zβ rfl⟩
          refine ⟨⟨_, .no (c := (((o.cls x y) : Int) != (3 : Int))) (d := true) rfl (fun v w h => h), fun h w => optUndef h, fun zβ za zw zc => ?_⟩, ?_⟩
          · exact neq_48 rfl ((evt za 52).trans (optVal (zc.dep 3 52 (by kernel_rfl)) rfl zβ)) (zc.kn.ev rfl) ⟨_, rfl, Below.refl _ _, optDef zβ rfl⟩
          refine ⟨⟨true, .none rfl, fun h w => optUndef h, fun zβ za zw zc => ?_⟩, ?_⟩
          · exact wp_or rfl ((evt za 51).trans (optVal (zc.dep 2 51 (by kernel_rfl)) rfl rfl)) (fun hp => ((evt za 53).trans (optVal (zc.dep 4 53 (by kernel_rfl)) rfl (bMkN zβ hp)))) ⟨_, rfl, Below.refl _ _, optDef zβ rfl⟩
          refine ⟨⟨true, .none rfl, fun h w => optUndef h, fun zβ za zw zc => ?_⟩, ?_⟩
          · exact wp_move rfl ((evt za 54).trans (optVal (zc.dep 5 54 (by kernel_rfl)) rfl rfl)) ⟨_, rfl, Below.refl _ _, optDef zβ rfl⟩
          refine ⟨⟨_, .no (c := ((((o.cls x y) : Int) != (3 : Int)) || (((o.cls y z) : Int) != (3 : Int)))) (d := true) rfl (fun v w h => h), fun h w => optUndef h, fun zβ za zw zc => ?_⟩, ?_⟩
          · exact wp_move rfl (zc.kn.ev rfl) ⟨_, rfl, Below.refl _ _, optDef zβ rfl⟩
          refine ⟨⟨_, .no (c := ((((o.cls x y) : Int) != (3 : Int)) || (((o.cls y z) : Int) != (3 : Int)))) (d := true) rfl (fun v w h => h), fun h w => optUndef h, fun zβ za zw zc => ?_⟩, ?_⟩
          · exact eql_48 rfl ((evt za 56).trans (optVal (zc.dep 7 56 (by kernel_rfl)) rfl zβ)) (zc.kn.ev rfl) ⟨_, rfl, Below.refl _ _, optDef zβ rfl⟩
          refine ⟨⟨true, .none rfl, fun h w => optUndef h, fun zβ za zw zc => ?_⟩, ?_⟩
          · exact wp_or rfl ((evt za 55).trans (optVal (zc.dep 6 55 (by kernel_rfl)) rfl rfl)) (fun hp => ((evt za 57).trans (optVal (zc.dep 8 57 (by kernel_rfl)) rfl (bMkN zβ hp)))) ⟨_, rfl, Below.refl _ _, optDef zβ rfl⟩
          refine ⟨⟨true, .none rfl, fun h w => optUndef h, fun zβ za zw zc => ?_⟩, ?_⟩
          · exact wp_move rfl ((evt za 58).trans (optVal (zc.dep 9 58 (by kernel_rfl)) rfl rfl)) ⟨_, rfl, Below.refl _ _, optDef zβ rfl⟩
          refine ⟨⟨_, .yes (c := (((((o.cls x y) : Int) != (3 : Int)) || (((o.cls y z) : Int) != (3 : Int))) || (((o.cls x z) : Int) == (3 : Int)))) (d := true) rfl (fun v w h => h), fun h w => optUndef h, fun zβ za zw zc => ?_⟩, ?_⟩
          · exact wp_move rfl (zc.kn.ev rfl) ⟨_, rfl, Below.refl _ _, optDef zβ rfl⟩
          refine ⟨⟨_, .yes (c := (((((o.cls x y) : Int) != (3 : Int)) || (((o.cls y z) : Int) != (3 : Int))) || (((o.cls x z) : Int) == (3 : Int)))) (d := true) rfl (fun v w h => h), fun h w => optUndef h, fun zβ za zw zc => ?_⟩, ?_⟩
          · exact neq_48 rfl ((evt za 60).trans (optVal (zc.dep 11 60 (by kernel_rfl)) rfl zβ)) (zc.kn.ev rfl) ⟨_, rfl, Below.refl _ _, optDef zβ rfl⟩
          refine ⟨⟨_, .yes (c := (((((o.cls x y) : Int) != (3 : Int)) || (((o.cls y z) : Int) != (3 : Int))) || (((o.cls x z) : Int) == (3 : Int)))) (d := true) rfl (fun v w h => h), fun h w => optUndef h, fun zβ za zw zc => ?_⟩, ?_⟩
          · exact wp_move rfl ((evt za 61).trans (optVal (zc.dep 12 61 (by kernel_rfl)) rfl zβ)) ⟨_, rfl, Below.refl _ _, optDef zβ rfl⟩
          refine ⟨⟨_, .no (c := (((o.cls x y) : Int) != (2 : Int))) (d := (true && (((((o.cls x y) : Int) != (3 : Int)) || (((o.cls y z) : Int) != (3 : Int))) || (((o.cls x z) : Int) == (3 : Int))))) rfl (fun v w h => h), fun h w => optUndef h, fun zβ za zw zc => ?_⟩, ?_⟩
          · exact wp_move rfl (zc.kn.ev rfl) ⟨_, rfl, Below.refl _ _, optDef zβ rfl⟩
          refine ⟨⟨_, .no (c := (((o.cls x y) : Int) != (2 : Int))) (d := (true && (((((o.cls x y) : Int) != (3 : Int)) || (((o.cls y z) : Int) != (3 : Int))) || (((o.cls x z) : Int) == (3 : Int))))) rfl (fun v w h => h), fun h w => optUndef h, fun zβ za zw zc => ?_⟩, ?_⟩
          · exact wp_move rfl (zc.kn.ev rfl) ⟨_, rfl, Below.refl _ _, optDef zβ rfl⟩
          refine ⟨⟨_, .no (c := (((o.cls x y) : Int) != (2 : Int))) (d := (true && (((((o.cls x y) : Int) != (3 : Int)) || (((o.cls y z) : Int) != (3 : Int))) || (((o.cls x z) : Int) == (3 : Int))))) rfl (fun v w h => h), fun h w => optUndef h, fun zβ za zw zc => ?_⟩, ?_⟩
          · exact eql_48 rfl ((evt za 63).trans (optVal (zc.dep 14 63 (by kernel_rfl)) rfl zβ)) ((evt za 64).trans (optVal (zc.dep 15 64 (by kernel_rfl)) rfl zβ)) ⟨_, rfl, Below.refl _ _, optDef zβ rfl⟩
          refine ⟨⟨_, .yes (c := (((((o.cls x y) : Int) != (3 : Int)) || (((o.cls y z) : Int) != (3 : Int))) || (((o.cls x z) : Int) == (3 : Int)))) (d := true) rfl (fun v w h => h), fun h w => optUndef h, fun zβ za zw zc => ?_⟩, ?_⟩
          · exact wp_or rfl ((evt za 62).trans (optVal (zc.dep 13 62 (by kernel_rfl)) rfl zβ)) (fun hp => ((evt za 65).trans (optVal (zc.dep 16 65 (by kernel_rfl)) rfl (bMkN zβ hp)))) ⟨_, rfl, Below.refl _ _, optDef zβ rfl⟩
          refine ⟨⟨true, .none rfl, fun h w => optUndef h, fun zβ za zw zc => ?_⟩, ?_⟩
          · exact wp_and rfl ((evt za 59).trans (optVal (zc.dep 10 59 (by kernel_rfl)) rfl rfl)) (fun hp => ((evt za 66).trans (optVal (zc.dep 17 66 (by kernel_rfl)) rfl (bMk zβ hp)))) ⟨_, rfl, Below.refl _ _, optDef zβ rfl⟩
          refine ⟨⟨true, .none rfl, fun h w => optUndef h, fun zβ za zw zc => ?_⟩, ?_⟩
          · exact wp_move rfl ((evt za 67).trans (optVal (zc.dep 18 67 (by kernel_rfl)) rfl rfl)) ⟨_, rfl, Below.refl _ _, optDef zβ rfl⟩
          refine ⟨⟨_, .yes (c := ((((((o.cls x y) : Int) != (3 : Int)) || (((o.cls y z) : Int) != (3 : Int))) || (((o.cls x z) : Int) == (3 : Int))) && ((((o.cls x y) : Int) != (2 : Int)) || (((o.cls x z) : Int) == ((o.cls y z) : Int))))) (d := true) rfl (fun v w h => h), fun h w => optUndef h, fun zβ za zw zc => ?_⟩, ?_⟩
          · exact wp_call (by kernel_rfl) rfl (hv0) (wakes_any _) (fun v w' h => ⟨v, rfl, h.2, optDef zβ h.1⟩)
          refine ⟨⟨true, .none rfl, fun h w => optUndef h, fun zβ za zw zc => ?_⟩, ?_⟩
          · exact wp_and rfl ((evt za 68).trans (optVal (zc.dep 19 68 (by kernel_rfl)) rfl rfl)) (fun hp => ((evt za 69).trans (optVal (zc.dep 20 69 (by kernel_rfl)) rfl (bMk zβ hp)))) ⟨_, rfl, Below.refl _ _, optDef zβ rfl⟩
          refine ⟨⟨true, .none rfl, fun h w => optUndef h, fun zβ za zw zc => ?_⟩, ?_⟩
          · exact wp_assign rfl ((evt za 70).trans (optVal (zc.dep 21 70 (by kernel_rfl)) rfl rfl)) ⟨_, rfl, Below.refl _ _, optDef zβ rfl⟩
          exact trivial
        · intro za w49 zh hb50 zu
          have zh := zh.cons (d := 10) (v := .bool ((((((((o.cls x y) : Int) != (3 : Int)) || (((o.cls y z) : Int) != (3 : Int))) || (((o.cls x z) : Int) == (3 : Int))) && ((((o.cls x y) : Int) != (2 : Int)) || (((o.cls x z) : Int) == ((o.cls y z) : Int)))) && true))) (optVal (zu 22 10 (by kernel_rfl)) rfl rfl)
          clear zu
          refine WE.go zh ?_
          refine WE.next ?_
          refine WC.ret ?_
          refine WE.ret1 rfl rfl ?_
          have hb51 : Below w.heap.size w w49 := (bstep (bstep hb42 hb47) hb50)
          exact ⟨_, rfl, congrArg Value.bool (by rw [isB _ _ _ (g.trans x y z fx fy fz) (fun e => g.same x y z fx fy fz e)]; rfl), hb51⟩
end Go.Proofs.Ytmdpiafeiopimaa

/- What a law's statement asks behind its call, where the call answers true and leaves all that was there as it was. -/
namespace Go.Proofs.Ytmdpiafeiopimaa
open Go.ChangeShapes Go.WideShapes Go.ChangeAt Go.RowKit
section
variable {H : Type} {enc : TypeId × Value → H} {P : Program}
theorem trodAll_below (hl : laidOutB P = true) {W W' : World} (hb : Below W.heap.size W W') : ∀ {ts : List TypeId} {vs : List Value} {ds : List (DataW H)} {ps : List MemPlace},
    (∀ t ∈ ts, P.readableRec t = true ∧ t < P.types.size) → (∀ x ∈ ps, x.block < W.heap.size) → DataW.TrodAll enc P W 0 (fun _ => true) true ts vs ds ps →
    DataW.TrodAll enc P W' 0 (fun b => decide (b < W.heap.size)) true ts vs ds ps
  | [], [], [], _, _, _, h => h
  | t :: ts, v :: vs, d :: ds, ps, hr, hlt, ⟨p, q, h1, h2, e⟩ => by
    subst e
    exact ⟨p, q, Below.trod hl (hr t (by simp)).1 (hr t (by simp)).2 h1 hb (fun x hx => hlt x (by simp [hx])), trodAll_below hl hb (fun t ht => hr t (by simp [ht])) (fun x hx => hlt x (by simp [hx])) h2, rfl⟩
  | [], _ :: _, _, _, _, _, h => h.elim
  | [], [], _ :: _, _, _, _, h => h.elim
  | _ :: _, [], _, _, _, _, h => h.elim
  | _ :: _, _ :: _, [], _, _, _, h => h.elim
theorem law_post {f : Func} {s : ChangeSpec} {W W' : World} {args : Array Value} {ds gs : List (DataW H)} {before : List MemPlace} {tb : TypeId} (hl : laidOutB P = true) (hr : ∀ t ∈ f.params.toList, P.readableRec t = true ∧ t < P.types.size)
    (htb : P.underlying tb = some .bool) (hrt : f.resultTypes = #[tb]) (hv : s.vars = []) (hs : s.fn H ds = { results := [.lit (.bool true)], args := ds })
    (hW : DataW.Whole enc P f.params.toList s.vars false W args.toList ds gs before) (hb : Below W.heap.size W W') : s.post enc P f false true false false W args (.bool true) W' := by
  have hlt : ∀ p ∈ before, p.block < W.heap.size := fun p hp => hW.lt p hp
  have hW0 := hW
  obtain ⟨p, q, hA, hV, hpq, _, _⟩ := hW
  rw [hv] at hV
  obtain ⟨rfl, rfl⟩ := trodVars_none hV
  refine ⟨ds, [], before, [], p, [], hW0, ?_, ?_, ?_, hb.frame _, fun h => by cases h⟩
  · rw [List.append_nil, hs, hrt]
    exact trodAll_cons_mk (shut_bool htb _) trodAll_mk0
  · rw [List.append_nil, hs]
    refine trodAll_below hl hb hr (fun x hx => hlt x ?_) hA
    rw [hpq]; simp [hx]
  · rw [List.append_nil, hv]
    have : (s.fn H ds).vars = [] := by rw [hs]
    rw [this]
    rfl
end
end Go.Proofs.Ytmdpiafeiopimaa

/- Arguments of a law, opened: terms, integers, truth values; rows in general. -/
namespace Go.Proofs.Ytmdpiafeiopimaa
open Go.ChangeShapes Go.WideShapes Go.ChangeAt Go.RowKit
theorem own : ownKnob Try.prog.godebug = none := by kernel_rfl
theorem one_le_bulk {H : Type} (d : DataW H) : 1 ≤ Rows.uptoBulk d := by
  cases d with
  | lit l => cases l <;> simp [Rows.uptoBulk]
  | _ => simp [Rows.uptoBulk]
theorem len_le_bulk {H : Type} (ds : List (DataW H)) : ds.length ≤ Rows.uptoBulkAll ds := by
  induction ds with
  | nil => simp
  | cons d r ih => have := one_le_bulk d; simp only [List.length_cons, Rows.uptoBulkAll]; omega
theorem readable_all {P : Program} {ts : List TypeId} (h : (ts.all fun t => P.readableRec t && Nat.blt t P.types.size) = true) : ∀ t ∈ ts, P.readableRec t = true ∧ t < P.types.size := by
  intro t ht
  have := List.all_eq_true.1 h t ht
  simp only [Bool.and_eq_true, Nat.blt_eq] at this
  exact this
theorem bulk_mem {H : Type} {l : List (DataW H)} (hk : Rows.uptoSmall H l = true) {d : DataW H} (h : d ∈ l) : Rows.uptoBulk d ≤ 1048576 :=
  Nat.le_trans (bulkAll_le h) (of_decide_eq_true hk)
section
variable {H : Type} {enc : TypeId × Value → H} {w : World} {base : Nat} {spare : Nat → Bool} {held : Bool}
theorem bulk_at {H : Type} : ∀ {ds : List (DataW H)} {d : DataW H}, d ∈ ds → Rows.uptoBulk d ≤ Rows.uptoBulkAll ds
  | [], _, h => nomatch h
  | x :: r, d, h => by
    rw [Rows.uptoBulkAll]
    rcases List.mem_cons.1 h with rfl | h
    · omega
    · have := bulk_at h; omega
/-- A row that was opened, as the rows of elements have it. -/
theorem inRow_of {α : Type} {E : Elt α} {R : World → α → List Value → Prop} {l : List α} {a : Option Addr} (hR : ∀ x cs, R w x cs → E.In (fun _ => True) w x cs) (h : IsRow w E.k R l a) : InRow E (fun _ => True) w l a := fun i hi => by
  obtain ⟨b, o, cs, h1, _, h3, h4⟩ := h i hi
  exact ⟨b, o, cs, h1, trivial, hR _ _ h4, h3⟩
theorem IsT.inTrue {t : T} {v : Value} (h : IsT w t v) : InT (fun _ => True) w t v := InT.mono (fun _ _ _ => trivial) (IsT.inT h)
end
end Go.Proofs.Ytmdpiafeiopimaa

/- Arguments of a law, opened: literals, clauses. -/
namespace Go.Proofs.Ytmdpiafeiopimaa
open Go.ChangeShapes Go.WideShapes Go.ChangeAt Go.RowKit
section
variable {H : Type} {enc : TypeId × Value → H} {w : World} {base : Nat} {spare : Nat → Bool} {held : Bool}
def IsLiC (w : World) (x : Li) (cs : List Value) : Prop := eltL.In (fun _ => True) w x cs
set_option maxRecDepth 100000 in
theorem open_Li (fuel : Nat) (cs : List Value) (x : DataW H × List MemPlace) (h : DataW.trod enc Try.prog w base spare held fuel 32 cs = some x) :
    ∃ y : Li, IsLiC w y cs ∧ 1 + y.size ≤ Rows.uptoBulk x.1 := by
  have hC : Try.prog.cellsOf 32 = 5 := by kernel_rfl
  have hC4 : Try.prog.cellsOf 4 = 1 := by kernel_rfl
  have hC32 : Try.prog.cellsOf 30 = 2 := by kernel_rfl
  obtain ⟨xs, n, rfl, rfl, hl, hlen, hf⟩ := DataW.trod_struct Try.underlying32 h
  rw [hC] at hl
  match xs, hlen, cs, hl with
  | [y0, y1, y2], _, [c0, c1, c2, c3, c4], _ =>
    have g0 : DataW.trod enc Try.prog w base spare held n 4 [c0] = some y0 := by simpa [hC4] using hf 0 _ rfl
    have g1 : DataW.trod enc Try.prog w base spare held n 30 [c1, c2] = some y1 := by simpa [hC32] using hf 1 _ rfl
    have g2 : DataW.trod enc Try.prog w base spare held n 30 [c3, c4] = some y2 := by simpa [hC32] using hf 2 _ rfl
    obtain ⟨b, e0, rfl⟩ := DataW.trod_bool Try.underlying4 g0
    simp only [List.cons.injEq, and_true] at e0
    subst e0
    obtain ⟨t1, u1, u2, e1, h1, s1⟩ := open_T _ _ _ g1
    obtain ⟨t2, u3, u4, e2, h2, s2⟩ := open_T _ _ _ g2
    simp only [List.cons.injEq, and_true] at e1 e2
    obtain ⟨rfl, rfl⟩ := e1
    obtain ⟨rfl, rfl⟩ := e2
    exact ⟨⟨b, t1, t2⟩, ⟨_, _, _, _, rfl, h1.inTrue, h2.inTrue⟩, by simp only [List.map_cons, List.map_nil, Rows.uptoBulk, Rows.uptoBulkAll, Li.size]; omega⟩
set_option maxRecDepth 100000 in
theorem arg_Cl {r : Reach} {b : Nat} {v : Value} {d : DataW H} {p : List MemPlace} (h : Value.okWide Try.prog w r b 37 v) (ht : DataW.Trod enc Try.prog w base spare held 37 v d p) (hk : Rows.uptoBulk d ≤ 1048576) :
    ∃ (l : List Li) (a : Option Addr) (c : Nat), v = .slice a l.length c ∧ IsCl w l a c ∧ l.length ≤ 1048576 ∧ ∀ x ∈ l, x.size ≤ 1048576 := by
  obtain ⟨a, n, c, rfl⟩ := okWide_slice Try.underlying37 h
  obtain ⟨fuel, hf⟩ := ht
  obtain ⟨l, a', c', ds, sp, e, h1, h2, h3, h4, h5, h6⟩ := open_row Try.underlying37 (k := 5) (by kernel_rfl) (by omega) hf (R := IsLiC) (S := fun y d => 1 + y.size ≤ Rows.uptoBulk d) (fun n cs x hx => open_Li n cs x hx)
  have e' : Value.slice a n c = .slice a' l.length c' := by simpa [Value.cells] using e
  have hlen : l.length ≤ 1048576 := by
    rcases h5 with ⟨_, rfl, _⟩ | e
    · simp
    · have := len_le_bulk ds
      have e2 : d = .slice ds sp := e
      rw [e2] at hk; simp only [Rows.uptoBulk] at hk; omega
  have hsz : ∀ x ∈ l, x.size ≤ 1048576 := fun x hx => by
    obtain ⟨i, hi, rfl⟩ := List.getElem_of_mem hx
    have hs := h6 i hi (by omega)
    rcases h5 with ⟨_, rfl, _⟩ | e
    · simp at hi
    · have := bulk_at (List.getElem_mem (show i < ds.length by omega))
      have e2 : d = .slice ds sp := e
      rw [e2] at hk; simp only [Rows.uptoBulk] at hk; omega
  exact ⟨l, a', c', e', ⟨inRow_of (E := eltL) (fun _ _ h => h) h3, h1, h2, by omega, fun x hx => by have := hsz x hx; unfold Li.size at this; omega, fun x hx => by have := hsz x hx; unfold Li.size at this; omega⟩, hlen, hsz⟩
end
end Go.Proofs.Ytmdpiafeiopimaa

namespace Go.Proofs.Ytmdpiafeiopimaa
open Go.ChangeShapes Go.WideShapes Go.ChangeAt Go.RowKit
section
variable {H : Type} {enc : TypeId × Value → H} {w : World} {base : Nat} {spare : Nat → Bool} {held : Bool}
set_option maxRecDepth 100000 in
theorem arg_Od {r : Reach} {b : Nat} {v : Value} {d : DataW H} {p : List MemPlace} (h : Value.okWide Try.prog w r b 27 v) (ht : DataW.Trod enc Try.prog w base spare held 27 v d p) :
    ∃ o : Od, IsOd w o v := by
  obtain ⟨cs, rfl, _⟩ := okWide_struct Try.underlying27 h
  obtain ⟨fuel, hf⟩ := ht
  obtain ⟨t, v0, v1, v2, v3, e, h1⟩ := open_Od _ _ _ hf
  have e' : cs = #[v0, v1, v2, v3] := by
    apply Array.toList_inj.1
    exact e
  subst e'
  exact ⟨t, h1⟩
set_option maxRecDepth 100000 in
theorem arg_Sig {r : Reach} {b : Nat} {v : Value} {d : DataW H} {p : List MemPlace} (h : Value.okWide Try.prog w r b 24 v) (ht : DataW.Trod enc Try.prog w base spare held 24 v d p) :
    ∃ l : List Sy, IsSig w l v := by
  obtain ⟨cs, rfl, _⟩ := okWide_struct Try.underlying24 h
  obtain ⟨fuel, hf⟩ := ht
  obtain ⟨l, u, e, h1⟩ := open_Sig _ _ _ hf
  have e' : cs = #[u] := by
    apply Array.toList_inj.1
    exact e
  subst e'
  exact ⟨l, h1⟩
end
end Go.Proofs.Ytmdpiafeiopimaa
