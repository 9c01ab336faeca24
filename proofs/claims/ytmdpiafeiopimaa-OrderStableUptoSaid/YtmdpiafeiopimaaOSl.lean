/- Arguments of a law, opened: substitutions. -/
import Derived.Test.YtmdpiafeiopimaaOSj
import Derived.Test.YtmdpiafeiopimaaOSk
import Derived.Test.YtmdpiafeiopimaaOSa
import Derived.WalkKit
import Derived.ProofKit
import Derived.JoinedCond
import Derived.OpenShut
import Derived.Test.YtmdpiafeiopimaaOSg
import Derived.Test.YtmdpiafeiopimaaOSh

/- What is put in leaves above as it is: the walk through the law. -/
namespace Go.Proofs.Ytmdpiafeiopimaa
open Go.RowKit Go
set_option linter.unusedVariables false
set_option linter.unusedSimpArgs false
theorem rlit_of (s : List Bd) (x : Li) (w : World) (v : Value) (sa : Option Addr) (sc : Nat) (hz1 : x.l.size ≤ 4294967296) (hz2 : x.r.size ≤ 4294967296) (hv : IsLi w x v) (hs : IsSub w s sa sc) : Calls Try.prog 12 #[.slice sa s.length sc, v] w (Ret fun v' w' => IsLi w' (x.app s) v' ∧ Below w.heap.size w w') :=
 (rlit_any s x w v sa sc hz1 hz2 hv hs).mono (by rintro e w' ⟨v', rfl, h, hb⟩; exact ⟨_, rfl, h.isLi, hb⟩)
theorem isLs_1 {w : World} {g ty : Nat} {x : Li} {v1 v2 v3 v4 : Value} (hB : Blk w g ty #[.bool x.neg, v1, v2, v3, v4]) (h1 : IsT w x.l (.agg #[v1, v2])) (h2 : IsT w x.r (.agg #[v3, v4])) : IsLs w [x] (some ⟨g, 0, none⟩) := fun i hi => by
 obtain rfl : i = 0 := by simp at hi; exact hi
 refine ⟨g, 0, [.bool x.neg, v1, v2, v3, v4], rfl, trivial, ⟨v1, v2, v3, v4, rfl, h1.inAny, h2.inAny⟩, fun j hj => ?_⟩
 rw [hB.cell, show 0 + 0 * eltL.k + j = j by omega, List.getElem?_toArray]
set_option maxRecDepth 100000 in
theorem stable_any (sg : List Sy) (o : Od) (x y : Li) (s : List Bd) (w : World) (vs vo vx vy : Value) (as_ : Option Addr) (cs : Nat) (hs : IsSig w sg vs) (ho : IsOd w o vo) (hx : IsLi w x vx) (hy : IsLi w y vy) (hsub : IsSub w s as_ cs) (zx : x.size ≤ 1048576) (zy : y.size ≤ 1048576) (zs : s.length ≤ 1048576) :
  Calls Try.prog 3 #[vs, vo, vx, vy, .slice as_ s.length cs] w (Ret fun v' w' => v' = .bool true ∧ Below w.heap.size w w') := by
 have hst := hs
 have hot := ho
 have hxx := hx
 have hyy := hy
 have hsr := hsub.rows
 obtain ⟨p1, p2, k1, k2, rfl, _⟩ := ho
 obtain ⟨sa, sc, rfl, hs1, hs2, hs3⟩ := hs
 obtain ⟨a1, a2, c1, c2, rfl, hx1, hx2⟩ := hx.form
 obtain ⟨a1y, a2y, c1y, c2y, rfl, hy1, hy2⟩ := hy.form
 have smx : SmallLi x := by unfold Li.size at zx; exact ⟨by omega, by omega⟩
 have smy : SmallLi y := by unfold Li.size at zy; exact ⟨by omega, by omega⟩
 have hzs : ∀ k, k < s.length → (dget s k).t.size ≤ 4294967296 := fun k hk => hsub.parts _ (dget_mem hk)
 refine Calls.walk (l := [.agg #[.slice sa sg.length sc], .agg #[.bool o.lpo, .slice p1 o.prec.length k1, .slice p2 o.weights.length k2, .int .i64 o.var], .agg #[.bool x.neg, .int .i64 x.l.f, .slice a1 x.l.args.length c1, .int .i64 x.r.f, .slice a2 x.r.args.length c2], .agg #[.bool y.neg, .int .i64 y.l.f, .slice a1y y.l.args.length c1y, .int .i64 y.r.f, .slice a2y y.r.args.length c2y], .slice as_ s.length cs]) Try.func3 rfl (by kernel_rfl) ?_
 refine WC.sub (K' := [(0, .agg #[.slice sa sg.length sc]), (1, .agg #[.bool o.lpo, .slice p1 o.prec.length k1, .slice p2 o.weights.length k2, .int .i64 o.var]), (2, .agg #[.bool x.neg, .int .i64 x.l.f, .slice a1 x.l.args.length c1, .int .i64 x.r.f, .slice a2 x.r.args.length c2]), (3, .agg #[.bool y.neg, .int .i64 y.l.f, .slice a1y y.l.args.length c1y, .int .i64 y.r.f, .slice a2y y.r.args.length c2y]), (4, .slice as_ s.length cs)]) ⟨rfl, rfl, rfl, rfl, rfl, trivial⟩ ?_
 refine WC.seq (WC.region ?_)
 refine WL.step (post := NewBlk w 24 #[.slice sa sg.length sc]) rfl rfl rfl (fun za zC zh zk => box_24 rfl (zh.ev rfl) (zk _ _ (newBlk _ _ _))) ?_
 rintro _ w1 ⟨g2, rfl, hg3, hB4, hb5, hz6⟩
 have hl7 : w.heap.size ≤ g2 := by omega
 refine WL.step (post := NewBlk w1 27 #[.bool o.lpo, .slice p1 o.prec.length k1, .slice p2 o.weights.length k2, .int .i64 o.var]) rfl rfl rfl (fun za zC zh zk => box_27 rfl (zh.ev rfl) (zk _ _ (newBlk _ _ _))) ?_
 rintro _ w8 ⟨g9, rfl, hg10, hB11, hb12, hz13⟩
 have hl14 : g2 < g9 := by have z1 := hB4.lt; omega
 have hl15 : w.heap.size ≤ g9 := by have z2 := (hb5).size; omega
 refine WL.step (post := NewBlk w8 32 #[.bool x.neg, .int .i64 x.l.f, .slice a1 x.l.args.length c1, .int .i64 x.r.f, .slice a2 x.r.args.length c2]) rfl rfl rfl (fun za zC zh zk => box_32 rfl (zh.ev rfl) (zk _ _ (newBlk _ _ _))) ?_
 rintro _ w16 ⟨g17, rfl, hg18, hB19, hb20, hz21⟩
 have hl22 : g2 < g17 := by have z1 := hB4.lt; have z2 := (hb12).size; omega
 have hl23 : g9 < g17 := by have z1 := hB11.lt; omega
 have hb24 : Below w.heap.size w w8 := (bstep hb5 hb12)
 have hl25 : w.heap.size ≤ g17 := by have z2 := (hb24).size; omega
 refine WL.step (post := NewBlk w16 32 #[.bool y.neg, .int .i64 y.l.f, .slice a1y y.l.args.length c1y, .int .i64 y.r.f, .slice a2y y.r.args.length c2y]) rfl rfl rfl (fun za zC zh zk => box_32 rfl (zh.ev rfl) (zk _ _ (newBlk _ _ _))) ?_
 rintro _ w26 ⟨g27, rfl, hg28, hB29, hb30, hz31⟩
 have hb32 : Below w1.heap.size w1 w16 := (bstep hb12 hb20)
 have hl33 : g2 < g27 := by have z1 := hB4.lt; have z2 := (hb32).size; omega
 have hl34 : g9 < g27 := by have z1 := hB11.lt; have z2 := (hb20).size; omega
 have hl35 : g17 < g27 := by have z1 := hB19.lt; omega
 have hb36 : Below w.heap.size w w16 := (bstep hb5 hb32)
 have hl37 : w.heap.size ≤ g27 := by have z2 := (hb36).size; omega
 refine WL.asg rfl rfl rfl rfl rfl (WL.nil (WE.next (WC.seq (WC.seq (WC.region ?_)))))
 have hb39 : Below w1.heap.size w1 w26 := (bstep hb32 hb30)
 have hB38 := hB4.below hb39
 refine WL.val _ rfl rfl rfl (fun za zC zh zk => ld_24 rfl (zh.ev rfl) ((hB38.cell 0).trans rfl) zk) ?_
 have hb41 : Below w8.heap.size w8 w26 := (bstep hb20 hb30)
 have hB40 := hB11.below hb41
 refine WL.val _ rfl rfl rfl (fun za zC zh zk => ld_27 rfl (zh.ev rfl) ((hB40.cell 0).trans rfl) ((hB40.cell 1).trans rfl) ((hB40.cell 2).trans rfl) ((hB40.cell 3).trans rfl) zk) ?_
 have hB42 := hB19.below hb30
 refine WL.val _ rfl rfl rfl (fun za zC zh zk => ld_32 rfl (zh.ev rfl) ((hB42.cell 0).trans rfl) ((hB42.cell 1).trans rfl) ((hB42.cell 2).trans rfl) ((hB42.cell 3).trans rfl) ((hB42.cell 4).trans rfl) zk) ?_
 refine WL.step (post := NewRow w26 32 #[.bool x.neg, .int .i64 x.l.f, .slice a1 x.l.args.length c1, .int .i64 x.r.f, .slice a2 x.r.args.length c2] 1) rfl rfl rfl (fun za zC zh zk => row_37_1 rfl (zh.ev rfl) (zk _ _ (newRow _ _ _ _))) ?_
 rintro _ w43 ⟨g44, rfl, hg45, hB46, hb47, hz48⟩
 have hl49 : g2 < g44 := by have z1 := hB38.lt; omega
 have hl50 : g9 < g44 := by have z1 := hB40.lt; omega
 have hl51 : g17 < g44 := by have z1 := hB42.lt; omega
 have hl52 : g27 < g44 := by have z1 := hB29.lt; omega
 have hb53 : Below w.heap.size w w26 := (bstep hb5 hb39)
 have hl54 : w.heap.size ≤ g44 := by have z2 := (hb53).size; omega
 have hB55 := hB29.below hb47
 refine WL.val _ rfl rfl rfl (fun za zC zh zk => ld_32 rfl (zh.ev rfl) ((hB55.cell 0).trans rfl) ((hB55.cell 1).trans rfl) ((hB55.cell 2).trans rfl) ((hB55.cell 3).trans rfl) ((hB55.cell 4).trans rfl) zk) ?_
 refine WL.step (post := NewRow w43 32 #[.bool y.neg, .int .i64 y.l.f, .slice a1y y.l.args.length c1y, .int .i64 y.r.f, .slice a2y y.r.args.length c2y] 1) rfl rfl rfl (fun za zC zh zk => row_37_1 rfl (zh.ev rfl) (zk _ _ (newRow _ _ _ _))) ?_
 rintro _ w56 ⟨g57, rfl, hg58, hB59, hb60, hz61⟩
 have hl62 : g2 < g57 := by have z1 := hB38.lt; have z2 := (hb47).size; omega
 have hl63 : g9 < g57 := by have z1 := hB40.lt; have z2 := (hb47).size; omega
 have hl64 : g17 < g57 := by have z1 := hB42.lt; have z2 := (hb47).size; omega
 have hl65 : g27 < g57 := by have z1 := hB55.lt; omega
 have hl66 : g44 < g57 := by have z1 := hB46.lt; omega
 have hb67 : Below w.heap.size w w43 := (bstep hb53 hb47)
 have hl68 : w.heap.size ≤ g57 := by have z2 := (hb67).size; omega
 refine WL.step (post := NewRow w56 37 #[.slice ((some ⟨g44, 0, none⟩)) 1 1, .slice ((some ⟨g57, 0, none⟩)) 1 1] 2) rfl rfl rfl (fun za zC zh zk => row_38_2 rfl (zh.ev rfl) (zh.ev rfl) (zk _ _ (newRow _ _ _ _))) ?_
 rintro _ w69 ⟨g70, rfl, hg71, hB72, hb73, hz74⟩
 have hb75 : Below w26.heap.size w26 w56 := (bstep hb47 hb60)
 have hl76 : g2 < g70 := by have z1 := hB38.lt; have z2 := (hb75).size; omega
 have hl77 : g9 < g70 := by have z1 := hB40.lt; have z2 := (hb75).size; omega
 have hl78 : g17 < g70 := by have z1 := hB42.lt; have z2 := (hb75).size; omega
 have hl79 : g27 < g70 := by have z1 := hB55.lt; have z2 := (hb60).size; omega
 have hl80 : g44 < g70 := by have z1 := hB46.lt; have z2 := (hb60).size; omega
 have hl81 : g57 < g70 := by have z1 := hB59.lt; omega
 have hb82 : Below w.heap.size w w56 := (bstep hb53 hb75)
 have hl83 : w.heap.size ≤ g70 := by have z2 := (hb82).size; omega
 have hb85 : Below w43.heap.size w43 w69 := (bstep hb60 hb73)
 have hB84 := hB46.below hb85
 have hB86 := hB59.below hb73
 have hb87 : Below w.heap.size w w69 := (bstep hb67 hb85)
 refine WL.call rfl rfl rfl (fun za zh zC => wp_call (by kernel_rfl) rfl (hv3 (zh.ev rfl) (zh.ev rfl) (zh.ev rfl))) (fits_any sg o [[x], [y]] _ _ _ _ 2 (hst.below hb87) (hot.below hb87) (isCs_2 hB72 (isLs_1 hB84 (hx1.below hb87) (hx2.below hb87)) (isLs_1 hB86 (hy1.below hb87) (hy2.below hb87))) (by unfold SmallC; simp; exact ⟨smx, smy⟩) (by simp)) ?_
 rintro _ w88 ⟨⟨bf, rfl, hbf⟩, hbw⟩
 refine WL.val (.bool ((!bf))) rfl rfl rfl (fun za zC zh zk => wp_not rfl (zh.ev rfl) zk) ?_
 refine WL.mv rfl rfl rfl rfl rfl ?_
 refine bool_split ((!bf)) (fun h89 => ?_) (fun h89 => ?_)
 ·refine WL.setb (d := 23) (b := true) rfl h89 ?_
  have h89 : ¬ (bf = true) := by simpa using h89
  refine WL.skip (d := 23) rfl rfl rfl rfl rfl ?_
  refine WL.skip (d := 23) rfl rfl rfl rfl rfl ?_
  refine WL.skip (d := 23) rfl rfl rfl rfl rfl ?_
  refine WL.val (.bool true) rfl rfl rfl (fun za zC zh zk => wp_pickT rfl (zh.ev rfl) (zh.ev rfl) zk) ?_
  refine WL.mv rfl rfl rfl rfl rfl ?_
  refine WL.skip (d := 28) rfl rfl rfl rfl rfl ?_
  refine WL.skip (d := 28) rfl rfl rfl rfl rfl ?_
  refine WL.skip (d := 28) rfl rfl rfl rfl rfl ?_
  refine WL.val (.bool true) rfl rfl rfl (fun za zC zh zk => wp_pickT rfl (zh.ev rfl) (zh.ev rfl) zk) ?_
  refine WL.nil (WE.next ?_)
  refine WC.condT rfl rfl ?_
  refine WC.seq (WC.region ?_)
  refine WL.call rfl rfl rfl (fun za zh zC => wp_call (by kernel_rfl) rfl (hv0)) (wakes_any _) ?_
  rintro _ w91 ⟨rfl, hq90⟩
  refine WL.asg rfl rfl rfl rfl rfl ?_
  refine WL.nil (WE.sub (K' := [(0, .agg #[.slice sa sg.length sc]), (1, .agg #[.bool o.lpo, .slice p1 o.prec.length k1, .slice p2 o.weights.length k2, .int .i64 o.var]), (2, .agg #[.bool x.neg, .int .i64 x.l.f, .slice a1 x.l.args.length c1, .int .i64 x.r.f, .slice a2 x.r.args.length c2]), (3, .agg #[.bool y.neg, .int .i64 y.l.f, .slice a1y y.l.args.length c1y, .int .i64 y.r.f, .slice a2y y.r.args.length c2y]), (4, .slice as_ s.length cs), (5, .pointer (some ⟨g2, 0, none⟩)), (6, .pointer (some ⟨g9, 0, none⟩)), (7, .pointer (some ⟨g17, 0, none⟩)), (8, .pointer (some ⟨g27, 0, none⟩)), (10, .bool true), (32, .bool true)]) ⟨rfl, rfl, rfl, rfl, rfl, rfl, rfl, rfl, rfl, rfl, rfl, trivial⟩ ?_)
  refine WE.next (WC.ret (WE.thenRet (WE.ret1 rfl rfl ?_)))
  have hb92 : Below w.heap.size w w91 := (bstep (bstep hb87 hbw) hq90)
  exact ⟨_, rfl, rfl, hb92⟩
 ·refine WL.setb (d := 23) (b := false) rfl h89 ?_
  have h89 : ¬ (¬ (bf = true)) := by simpa using h89
  refine WL.want (d := 23) rfl rfl rfl ?_
  refine WL.mv rfl rfl rfl rfl rfl ?_
  refine WL.want (d := 23) rfl rfl rfl ?_
  have hb93 : Below w.heap.size w w88 := (bstep hb87 hbw)
  refine WL.call rfl rfl rfl (fun za zh zC => wp_call (by kernel_rfl) rfl (hv1 (zh.ev rfl))) (rcheck_any s _ _ _ hsub.small (hsr.below hb93)) ?_
  rintro _ w95 ⟨rfl, hq94⟩
  refine WL.want (d := 23) rfl rfl rfl ?_
  refine WL.val (.bool ((((subCheck s) : Int) != (0 : Int)))) rfl rfl rfl (fun za zC zh zk => neq_39 rfl (zh.ev rfl) (zh.ev rfl) zk) ?_
  refine WL.val (.bool ((((subCheck s) : Int) != (0 : Int)))) rfl rfl rfl (fun za zC zh zk => wp_pickF rfl (zh.ev rfl) (zh.ev rfl) zk) ?_
  refine WL.mv rfl rfl rfl rfl rfl ?_
  refine bool_split ((((subCheck s) : Int) != (0 : Int))) (fun h96 => ?_) (fun h96 => ?_)
  ·refine WL.setb (d := 28) (b := true) rfl h96 ?_
   have h96 : ((subCheck s) : Int) ≠ (0 : Int) := by simpa using h96
   refine WL.skip (d := 28) rfl rfl rfl rfl rfl ?_
   refine WL.skip (d := 28) rfl rfl rfl rfl rfl ?_
   refine WL.skip (d := 28) rfl rfl rfl rfl rfl ?_
   refine WL.val (.bool true) rfl rfl rfl (fun za zC zh zk => wp_pickT rfl (zh.ev rfl) (zh.ev rfl) zk) ?_
   refine WL.nil (WE.next ?_)
   refine WC.condT rfl rfl ?_
   refine WC.seq (WC.region ?_)
   refine WL.call rfl rfl rfl (fun za zh zC => wp_call (by kernel_rfl) rfl (hv0)) (wakes_any _) ?_
   rintro _ w98 ⟨rfl, hq97⟩
   refine WL.asg rfl rfl rfl rfl rfl ?_
   refine WL.nil (WE.sub (K' := [(0, .agg #[.slice sa sg.length sc]), (1, .agg #[.bool o.lpo, .slice p1 o.prec.length k1, .slice p2 o.weights.length k2, .int .i64 o.var]), (2, .agg #[.bool x.neg, .int .i64 x.l.f, .slice a1 x.l.args.length c1, .int .i64 x.r.f, .slice a2 x.r.args.length c2]), (3, .agg #[.bool y.neg, .int .i64 y.l.f, .slice a1y y.l.args.length c1y, .int .i64 y.r.f, .slice a2y y.r.args.length c2y]), (4, .slice as_ s.length cs), (5, .pointer (some ⟨g2, 0, none⟩)), (6, .pointer (some ⟨g9, 0, none⟩)), (7, .pointer (some ⟨g17, 0, none⟩)), (8, .pointer (some ⟨g27, 0, none⟩)), (10, .bool true), (32, .bool true)]) ⟨rfl, rfl, rfl, rfl, rfl, rfl, rfl, rfl, rfl, rfl, rfl, trivial⟩ ?_)
   refine WE.next (WC.ret (WE.thenRet (WE.ret1 rfl rfl ?_)))
   have hb99 : Below w.heap.size w w98 := (bstep (bstep hb93 hq94) hq97)
   exact ⟨_, rfl, rfl, hb99⟩
  ·refine WL.setb (d := 28) (b := false) rfl h96 ?_
   have h96 : ¬ (((subCheck s) : Int) ≠ (0 : Int)) := by simpa using h96
   refine WL.want (d := 28) rfl rfl rfl ?_
   refine WL.mv rfl rfl rfl rfl rfl ?_
   refine WL.want (d := 28) rfl rfl rfl ?_
   refine WL.val (.int .i64 (((s.length : Nat) : Int))) rfl rfl rfl (fun za zC zh zk => len_34 rfl (zh.ev rfl) zk) ?_
   refine WL.want (d := 28) rfl rfl rfl ?_
   refine WL.val (.bool ((decide ((48 : Int) < (((s.length : Nat) : Int) : Int))))) rfl rfl rfl (fun za zC zh zk => gtr_3 rfl (zh.ev rfl) (zh.ev rfl) zk) ?_
   refine WL.val (.bool ((decide ((48 : Int) < (((s.length : Nat) : Int) : Int))))) rfl rfl rfl (fun za zC zh zk => wp_pickF rfl (zh.ev rfl) (zh.ev rfl) zk) ?_
   refine WL.nil (WE.next ?_)
   refine WC.cond rfl (fun h100 => ?_) (fun h100 => ?_)
   ·have h100 : (48 : Int) < (((s.length : Nat) : Int) : Int) := by simpa using h100
    refine WC.seq (WC.region ?_)
    refine WL.call rfl rfl rfl (fun za zh zC => wp_call (by kernel_rfl) rfl (hv0)) (wakes_any _) ?_
    rintro _ w102 ⟨rfl, hq101⟩
    refine WL.asg rfl rfl rfl rfl rfl ?_
    refine WL.nil (WE.sub (K' := [(0, .agg #[.slice sa sg.length sc]), (1, .agg #[.bool o.lpo, .slice p1 o.prec.length k1, .slice p2 o.weights.length k2, .int .i64 o.var]), (2, .agg #[.bool x.neg, .int .i64 x.l.f, .slice a1 x.l.args.length c1, .int .i64 x.r.f, .slice a2 x.r.args.length c2]), (3, .agg #[.bool y.neg, .int .i64 y.l.f, .slice a1y y.l.args.length c1y, .int .i64 y.r.f, .slice a2y y.r.args.length c2y]), (4, .slice as_ s.length cs), (5, .pointer (some ⟨g2, 0, none⟩)), (6, .pointer (some ⟨g9, 0, none⟩)), (7, .pointer (some ⟨g17, 0, none⟩)), (8, .pointer (some ⟨g27, 0, none⟩)), (10, .bool true), (32, .bool ((decide ((48 : Int) < (((s.length : Nat) : Int) : Int)))))]) ⟨rfl, rfl, rfl, rfl, rfl, rfl, rfl, rfl, rfl, rfl, rfl, trivial⟩ ?_)
    refine WE.next (WC.ret (WE.thenRet (WE.ret1 rfl rfl ?_)))
    have hb103 : Below w.heap.size w w102 := (bstep (bstep hb93 hq94) hq101)
    exact ⟨_, rfl, rfl, hb103⟩
   ·have h100 : ¬ ((48 : Int) < (((s.length : Nat) : Int) : Int)) := by simpa using h100
    have hF := hbf (by simpa using h89)
    have fx := hF.may [x] (by simp) x (by simp)
    have fy := hF.may [y] (by simp) y (by simp)
    refine WC.skip (WE.next (WC.seq (WC.seq (WC.region (WL.mv rfl rfl rfl rfl rfl ?_)))))
    refine WL.val (.int .i64 (((s.length : Nat) : Int))) rfl rfl rfl (fun za zC zh zk => len_34 rfl (zh.ev rfl) zk) ?_
    refine WL.mv rfl rfl rfl rfl rfl ?_
    refine WL.nil (WE.sub (K' := [(0, .agg #[.slice sa sg.length sc]), (1, .agg #[.bool o.lpo, .slice p1 o.prec.length k1, .slice p2 o.weights.length k2, .int .i64 o.var]), (2, .agg #[.bool x.neg, .int .i64 x.l.f, .slice a1 x.l.args.length c1, .int .i64 x.r.f, .slice a2 x.r.args.length c2]), (3, .agg #[.bool y.neg, .int .i64 y.l.f, .slice a1y y.l.args.length c1y, .int .i64 y.r.f, .slice a2y y.r.args.length c2y]), (4, .slice as_ s.length cs), (5, .pointer (some ⟨g2, 0, none⟩)), (6, .pointer (some ⟨g9, 0, none⟩)), (7, .pointer (some ⟨g17, 0, none⟩)), (8, .pointer (some ⟨g27, 0, none⟩)), (10, .bool false), (32, .bool ((decide ((48 : Int) < (((s.length : Nat) : Int) : Int))))), (35, .int .i64 (((s.length : Nat) : Int))), (36, .int .i64 0)]) ⟨rfl, rfl, rfl, rfl, rfl, rfl, rfl, rfl, rfl, rfl, rfl, rfl, rfl, trivial⟩ ?_)
    refine WE.next (WC.block ?_)
    refine WC.loop (X := Nat) (fun k => s.length - k) (fun k => [(0, .agg #[.slice sa sg.length sc]), (1, .agg #[.bool o.lpo, .slice p1 o.prec.length k1, .slice p2 o.weights.length k2, .int .i64 o.var]), (2, .agg #[.bool x.neg, .int .i64 x.l.f, .slice a1 x.l.args.length c1, .int .i64 x.r.f, .slice a2 x.r.args.length c2]), (3, .agg #[.bool y.neg, .int .i64 y.l.f, .slice a1y y.l.args.length c1y, .int .i64 y.r.f, .slice a2y y.r.args.length c2y]), (4, .slice as_ s.length cs), (5, .pointer (some ⟨g2, 0, none⟩)), (6, .pointer (some ⟨g9, 0, none⟩)), (7, .pointer (some ⟨g17, 0, none⟩)), (8, .pointer (some ⟨g27, 0, none⟩)), (32, .bool ((decide ((48 : Int) < (((s.length : Nat) : Int) : Int))))), (35, .int .i64 (((s.length : Nat) : Int))), (36, .int .i64 (((k : Nat) : Int)))]) (fun k w104 => k ≤ s.length ∧ (∀ q, q < k → (dget s q).t.check sg = 0 ∧ (dget s q).t.size ≤ 20) ∧ Below w.heap.size w w104 ∧ Blk w104 g2 24 #[.slice sa sg.length sc] ∧ Blk w104 g9 27 #[.bool o.lpo, .slice p1 o.prec.length k1, .slice p2 o.weights.length k2, .int .i64 o.var] ∧ Blk w104 g17 32 #[.bool x.neg, .int .i64 x.l.f, .slice a1 x.l.args.length c1, .int .i64 x.r.f, .slice a2 x.r.args.length c2] ∧ Blk w104 g27 32 #[.bool y.neg, .int .i64 y.l.f, .slice a1y y.l.args.length c1y, .int .i64 y.r.f, .slice a2y y.r.args.length c2y] ∧ Blk w104 g44 32 #[.bool x.neg, .int .i64 x.l.f, .slice a1 x.l.args.length c1, .int .i64 x.r.f, .slice a2 x.r.args.length c2] ∧ Blk w104 g57 32 #[.bool y.neg, .int .i64 y.l.f, .slice a1y y.l.args.length c1y, .int .i64 y.r.f, .slice a2y y.r.args.length c2y] ∧ Blk w104 g70 37 #[.slice ((some ⟨g44, 0, none⟩)) 1 1, .slice ((some ⟨g57, 0, none⟩)) 1 1]) 0 ⟨rfl, rfl, rfl, rfl, rfl, rfl, rfl, rfl, rfl, rfl, rfl, rfl, trivial⟩ ?_ ?_
    ·have hb105 : Below w.heap.size w w95 := (bstep hb93 hq94)
     have hb107 : Below w26.heap.size w26 w95 := (bstep (bstep (bstep hb47 hb85) hbw) hq94)
     have hB106 := hB38.below hb107
     have hB108 := hB40.below hb107
     have hB109 := hB42.below hb107
     have hb111 : Below w43.heap.size w43 w95 := (bstep (bstep hb85 hbw) hq94)
     have hB110 := hB55.below hb111
     have hb113 : Below w69.heap.size w69 w95 := (bstep hbw hq94)
     have hB112 := hB84.below hb113
     have hB114 := hB86.below hb113
     have hB115 := hB72.below hb113
     exact ⟨Nat.zero_le _, fun q h => absurd h (Nat.not_lt_zero q), hb105, hB106, hB108, hB109, hB110, hB112, hB114, hB115⟩
    ·rintro k w104 ⟨hk, hall, hb116, hB117, hB118, hB119, hB120, hB121, hB122, hB123⟩
     refine WC.seq (WC.region ?_)
     refine WL.val (.bool ((decide ((((k : Nat) : Int) : Int) < (((s.length : Nat) : Int) : Int))))) rfl rfl rfl (fun za zC zh zk => lss_3 rfl (zh.ev rfl) (zh.ev rfl) zk) ?_
     refine WL.nil (WE.next (WC.seq ?_))
     refine WC.cond rfl (fun h124 => ?_) (fun h124 => ?_)
     ·have h124 : (((k : Nat) : Int) : Int) < (((s.length : Nat) : Int) : Int) := by simpa using h124
      refine WC.skip (WE.next (WC.seq (WC.block (WC.seq (WC.region (WL.mv rfl rfl rfl rfl rfl (WL.asg rfl rfl rfl rfl rfl (WL.nil (WE.next (WC.seq ?_))))))))))
      have hob : (dget s k).t.check sg = 0 → (dget s k).t.f < sg.length := ok_bound
      obtain ⟨b125, o126, A127, C128, ha129, hc130⟩ := InRow.openB hsr
      obtain ⟨b133, o134, ha135, hc136⟩ := IsSys.open hs3
      refine WC.opt [(true, .val (.agg #[.slice sa sg.length sc])), (true, .val (.slice as_ s.length cs)), (true, .val (.int .i64 (((k : Nat) : Int)))), (true, .val (.pointer (some ⟨b125, o126 + k * 3, none⟩))), (true, .val (.pointer (some ⟨b125, o126 + k * 3 + 1, none⟩))), (true, .val (.agg #[.int .i64 ((dget s k).t.f), .slice ((A127 k)) ((dget s k).t.args.length) ((C128 k))])), (true, .val (.int .i64 (((dget s k).t.check sg)))), (true, .val (.bool (((((dget s k).t.check sg) : Int) != (0 : Int))))), (true, .val (.bool (((((dget s k).t.check sg) : Int) != (0 : Int))))), ((true && !((((dget s k).t.check sg) : Int) != (0 : Int))), .val (.slice as_ s.length cs)), ((true && !((((dget s k).t.check sg) : Int) != (0 : Int))), .val (.int .i64 (((k : Nat) : Int)))), ((true && !((((dget s k).t.check sg) : Int) != (0 : Int))), .val (.pointer (some ⟨b125, o126 + k * 3, none⟩))), ((true && !((((dget s k).t.check sg) : Int) != (0 : Int))), .val (.pointer (some ⟨b125, o126 + k * 3 + 1, none⟩))), ((true && !((((dget s k).t.check sg) : Int) != (0 : Int))), .val (.agg #[.int .i64 ((dget s k).t.f), .slice ((A127 k)) ((dget s k).t.args.length) ((C128 k))])), ((true && !((((dget s k).t.check sg) : Int) != (0 : Int))), .val (.int .i64 ((((dget s k).t.size : Nat) : Int)))), ((true && !((((dget s k).t.check sg) : Int) != (0 : Int))), .val (.bool ((decide ((20 : Int) < ((((dget s k).t.size : Nat) : Int) : Int)))))), (true, .val (.bool ((((((dget s k).t.check sg) : Int) != (0 : Int)) || (decide ((20 : Int) < ((((dget s k).t.size : Nat) : Int) : Int))))))), (true, .val (.bool ((((((dget s k).t.check sg) : Int) != (0 : Int)) || (decide ((20 : Int) < ((((dget s k).t.size : Nat) : Int) : Int))))))), ((true && !(((((dget s k).t.check sg) : Int) != (0 : Int)) || (decide ((20 : Int) < ((((dget s k).t.size : Nat) : Int) : Int))))), .val (.slice as_ s.length cs)), ((true && !(((((dget s k).t.check sg) : Int) != (0 : Int)) || (decide ((20 : Int) < ((((dget s k).t.size : Nat) : Int) : Int))))), .val (.int .i64 (((k : Nat) : Int)))), ((true && !(((((dget s k).t.check sg) : Int) != (0 : Int)) || (decide ((20 : Int) < ((((dget s k).t.size : Nat) : Int) : Int))))), .val (.pointer (some ⟨b125, o126 + k * 3, none⟩))), ((true && !(((((dget s k).t.check sg) : Int) != (0 : Int)) || (decide ((20 : Int) < ((((dget s k).t.size : Nat) : Int) : Int))))), .val (.pointer (some ⟨b125, o126 + k * 3 + 1, none⟩))), ((true && !(((((dget s k).t.check sg) : Int) != (0 : Int)) || (decide ((20 : Int) < ((((dget s k).t.size : Nat) : Int) : Int))))), .val (.pointer (some ⟨b125, o126 + k * 3 + 1, none⟩))), ((true && !(((((dget s k).t.check sg) : Int) != (0 : Int)) || (decide ((20 : Int) < ((((dget s k).t.size : Nat) : Int) : Int))))), .val (.int .i64 ((dget s k).t.f))), ((true && !(((((dget s k).t.check sg) : Int) != (0 : Int)) || (decide ((20 : Int) < ((((dget s k).t.size : Nat) : Int) : Int))))), .val (.bool ((decide ((0 : Int) ≤ ((dget s k).t.f : Int)))))), ((true && !(((((dget s k).t.check sg) : Int) != (0 : Int)) || (decide ((20 : Int) < ((((dget s k).t.size : Nat) : Int) : Int))))), .val (.bool ((decide ((0 : Int) ≤ ((dget s k).t.f : Int)))))), (((true && !(((((dget s k).t.check sg) : Int) != (0 : Int)) || (decide ((20 : Int) < ((((dget s k).t.size : Nat) : Int) : Int))))) && (decide ((0 : Int) ≤ ((dget s k).t.f : Int)))), .val (.pointer (some ⟨g2, 0, none⟩))), (((true && !(((((dget s k).t.check sg) : Int) != (0 : Int)) || (decide ((20 : Int) < ((((dget s k).t.size : Nat) : Int) : Int))))) && (decide ((0 : Int) ≤ ((dget s k).t.f : Int)))), .val (.slice sa sg.length sc)), (((true && !(((((dget s k).t.check sg) : Int) != (0 : Int)) || (decide ((20 : Int) < ((((dget s k).t.size : Nat) : Int) : Int))))) && (decide ((0 : Int) ≤ ((dget s k).t.f : Int)))), .val (.slice as_ s.length cs)), (((true && !(((((dget s k).t.check sg) : Int) != (0 : Int)) || (decide ((20 : Int) < ((((dget s k).t.size : Nat) : Int) : Int))))) && (decide ((0 : Int) ≤ ((dget s k).t.f : Int)))), .val (.int .i64 (((k : Nat) : Int)))), (((true && !(((((dget s k).t.check sg) : Int) != (0 : Int)) || (decide ((20 : Int) < ((((dget s k).t.size : Nat) : Int) : Int))))) && (decide ((0 : Int) ≤ ((dget s k).t.f : Int)))), .val (.pointer (some ⟨b125, o126 + k * 3, none⟩))), (((true && !(((((dget s k).t.check sg) : Int) != (0 : Int)) || (decide ((20 : Int) < ((((dget s k).t.size : Nat) : Int) : Int))))) && (decide ((0 : Int) ≤ ((dget s k).t.f : Int)))), .val (.pointer (some ⟨b125, o126 + k * 3 + 1, none⟩))), (((true && !(((((dget s k).t.check sg) : Int) != (0 : Int)) || (decide ((20 : Int) < ((((dget s k).t.size : Nat) : Int) : Int))))) && (decide ((0 : Int) ≤ ((dget s k).t.f : Int)))), .val (.pointer (some ⟨b125, o126 + k * 3 + 1, none⟩))), (((true && !(((((dget s k).t.check sg) : Int) != (0 : Int)) || (decide ((20 : Int) < ((((dget s k).t.size : Nat) : Int) : Int))))) && (decide ((0 : Int) ≤ ((dget s k).t.f : Int)))), .val (.int .i64 ((dget s k).t.f))), (((true && !(((((dget s k).t.check sg) : Int) != (0 : Int)) || (decide ((20 : Int) < ((((dget s k).t.size : Nat) : Int) : Int))))) && (decide ((0 : Int) ≤ ((dget s k).t.f : Int)))), .val (.pointer (some ⟨b133, o134 + (((dget s k).t.f).toNat) * 3, none⟩))), (((true && !(((((dget s k).t.check sg) : Int) != (0 : Int)) || (decide ((20 : Int) < ((((dget s k).t.size : Nat) : Int) : Int))))) && (decide ((0 : Int) ≤ ((dget s k).t.f : Int)))), .val (.pointer (some ⟨b133, o134 + (((dget s k).t.f).toNat) * 3 + 2, none⟩))), (((true && !(((((dget s k).t.check sg) : Int) != (0 : Int)) || (decide ((20 : Int) < ((((dget s k).t.size : Nat) : Int) : Int))))) && (decide ((0 : Int) ≤ ((dget s k).t.f : Int)))), .val (.bool ((sget sg (((dget s k).t.f).toNat)).pred))), ((true && !(((((dget s k).t.check sg) : Int) != (0 : Int)) || (decide ((20 : Int) < ((((dget s k).t.size : Nat) : Int) : Int))))), .val (.bool (((decide ((0 : Int) ≤ ((dget s k).t.f : Int))) && (sget sg (((dget s k).t.f).toNat)).pred)))), (true, .val (.bool (((((((dget s k).t.check sg) : Int) != (0 : Int)) || (decide ((20 : Int) < ((((dget s k).t.size : Nat) : Int) : Int)))) || ((decide ((0 : Int) ≤ ((dget s k).t.f : Int))) && (sget sg (((dget s k).t.f).toNat)).pred)))))] [(0, .agg #[.slice sa sg.length sc]), (1, .agg #[.bool o.lpo, .slice p1 o.prec.length k1, .slice p2 o.weights.length k2, .int .i64 o.var]), (2, .agg #[.bool x.neg, .int .i64 x.l.f, .slice a1 x.l.args.length c1, .int .i64 x.r.f, .slice a2 x.r.args.length c2]), (3, .agg #[.bool y.neg, .int .i64 y.l.f, .slice a1y y.l.args.length c1y, .int .i64 y.r.f, .slice a2y y.r.args.length c2y]), (4, .slice as_ s.length cs), (5, .pointer (some ⟨g2, 0, none⟩)), (6, .pointer (some ⟨g9, 0, none⟩)), (7, .pointer (some ⟨g17, 0, none⟩)), (8, .pointer (some ⟨g27, 0, none⟩)), (11, .int .i64 (((k : Nat) : Int))), (32, .bool ((decide ((48 : Int) < (((s.length : Nat) : Int) : Int))))), (35, .int .i64 (((s.length : Nat) : Int))), (36, .int .i64 (((k : Nat) : Int))), (37, .bool ((decide ((((k : Nat) : Int) : Int) < (((s.length : Nat) : Int) : Int)))))] ⟨rfl, rfl, rfl, rfl, rfl, rfl, rfl, rfl, rfl, rfl, rfl, rfl, rfl, rfl, trivial⟩ (by kernel_rfl) (by kernel_rfl) (by kernel_rfl) ?_ ?_
      ·refine ⟨⟨true, .none rfl, fun h w => optUndef h, fun zβ za zw zc => ?_⟩, ?_⟩
       ·exact ld_24 rfl (zc.kn.ev rfl) (bkeeps zc.below _ _ ((hB117.cell 0).trans rfl)) ⟨_, rfl, Below.refl _ _, optDef zβ rfl⟩
       refine ⟨⟨true, .none rfl, fun h w => optUndef h, fun zβ za zw zc => ?_⟩, ?_⟩
       ·exact wp_move rfl (zc.kn.ev rfl) ⟨_, rfl, Below.refl _ _, optDef zβ rfl⟩
       refine ⟨⟨true, .none rfl, fun h w => optUndef h, fun zβ za zw zc => ?_⟩, ?_⟩
       ·exact wp_move rfl (zc.kn.ev rfl) ⟨_, rfl, Below.refl _ _, optDef zβ rfl⟩
       refine ⟨⟨true, .none rfl, fun h w => optUndef h, fun zβ za zw zc => ?_⟩, ?_⟩
       ·exact ix_34 (k := k) rfl ((evt za 40).trans (optVal (zc.dep 1 40 (by kernel_rfl)) rfl rfl)) (ha129 k (by first | omega | (simp; omega))) ((evt za 41).trans (optVal (zc.dep 2 41 (by kernel_rfl)) rfl rfl)) (by first | omega | (simp; omega)) ⟨_, rfl, Below.refl _ _, optDef zβ rfl⟩
       refine ⟨⟨true, .none rfl, fun h w => optUndef h, fun zβ za zw zc => ?_⟩, ?_⟩
       ·exact fld_44_1 rfl ((evt za 42).trans (optVal (zc.dep 3 42 (by kernel_rfl)) rfl rfl)) ⟨_, rfl, Below.refl _ _, optDef zβ rfl⟩
       refine ⟨⟨true, .none rfl, fun h w => optUndef h, fun zβ za zw zc => ?_⟩, ?_⟩
       ·exact ld_30 rfl ((evt za 43).trans (optVal (zc.dep 4 43 (by kernel_rfl)) rfl rfl)) (bkeeps (bstep hb116 zc.below) _ _ (hc130 k (by first | omega | (simp; omega))).2.1) (bkeeps (bstep hb116 zc.below) _ _ (hc130 k (by first | omega | (simp; omega))).2.2.1) ⟨_, rfl, Below.refl _ _, optDef zβ rfl⟩
       refine ⟨⟨true, .none rfl, fun h w => optUndef h, fun zβ za zw zc => ?_⟩, ?_⟩
       ·exact wp_call (by kernel_rfl) rfl (hv2 ((evt za 39).trans (optVal (zc.dep 0 39 (by kernel_rfl)) rfl rfl)) ((evt za 44).trans (optVal (zc.dep 5 44 (by kernel_rfl)) rfl rfl))) (ret_of (tcheck_any sg (dget s k).t _ _ _ (hzs k (by omega)) (IsSig.below (bstep hb116 zc.below) hst) (IsT.below (bstep hb116 zc.below) (InT.isT (hc130 k (by first | omega | (simp; omega))).2.2.2.1)))) (fun v w' h => ⟨v, rfl, h.2, optDef zβ h.1⟩)
       refine ⟨⟨true, .none rfl, fun h w => optUndef h, fun zβ za zw zc => ?_⟩, ?_⟩
       ·exact neq_39 rfl ((evt za 45).trans (optVal (zc.dep 6 45 (by kernel_rfl)) rfl rfl)) (zc.kn.ev rfl) ⟨_, rfl, Below.refl _ _, optDef zβ rfl⟩
       refine ⟨⟨true, .none rfl, fun h w => optUndef h, fun zβ za zw zc => ?_⟩, ?_⟩
       ·exact wp_move rfl ((evt za 46).trans (optVal (zc.dep 7 46 (by kernel_rfl)) rfl rfl)) ⟨_, rfl, Below.refl _ _, optDef zβ rfl⟩
       refine ⟨⟨_, .no (c := ((((dget s k).t.check sg) : Int) != (0 : Int))) (d := true) rfl (fun v w h => h), fun h w => optUndef h, fun zβ za zw zc => ?_⟩, ?_⟩
       ·exact wp_move rfl (zc.kn.ev rfl) ⟨_, rfl, Below.refl _ _, optDef zβ rfl⟩
       refine ⟨⟨_, .no (c := ((((dget s k).t.check sg) : Int) != (0 : Int))) (d := true) rfl (fun v w h => h), fun h w => optUndef h, fun zβ za zw zc => ?_⟩, ?_⟩
       ·exact wp_move rfl (zc.kn.ev rfl) ⟨_, rfl, Below.refl _ _, optDef zβ rfl⟩
       refine ⟨⟨_, .no (c := ((((dget s k).t.check sg) : Int) != (0 : Int))) (d := true) rfl (fun v w h => h), fun h w => optUndef h, fun zβ za zw zc => ?_⟩, ?_⟩
       ·exact ix_34 (k := k) rfl ((evt za 48).trans (optVal (zc.dep 9 48 (by kernel_rfl)) rfl zβ)) (ha129 k (by first | omega | (have zz := zβ; simp only [Bool.and_eq_true, Bool.or_eq_true, Bool.true_and, Bool.not_eq_true', Bool.or_eq_false_iff, Bool.and_eq_false_iff, beq_eq_false_iff_ne, ne_eq, beq_iff_eq, decide_eq_true_eq, decide_eq_false_iff_not, bne_iff_ne, bne_eq_false_iff_eq] at zz; omega))) ((evt za 49).trans (optVal (zc.dep 10 49 (by kernel_rfl)) rfl zβ)) (by first | omega | (have zz := zβ; simp only [Bool.and_eq_true, Bool.or_eq_true, Bool.true_and, Bool.not_eq_true', Bool.or_eq_false_iff, Bool.and_eq_false_iff, beq_eq_false_iff_ne, ne_eq, beq_iff_eq, decide_eq_true_eq, decide_eq_false_iff_not, bne_iff_ne, bne_eq_false_iff_eq] at zz; omega)) ⟨_, rfl, Below.refl _ _, optDef zβ rfl⟩
       refine ⟨⟨_, .no (c := ((((dget s k).t.check sg) : Int) != (0 : Int))) (d := true) rfl (fun v w h => h), fun h w => optUndef h, fun zβ za zw zc => ?_⟩, ?_⟩
       ·exact fld_44_1 rfl ((evt za 50).trans (optVal (zc.dep 11 50 (by kernel_rfl)) rfl zβ)) ⟨_, rfl, Below.refl _ _, optDef zβ rfl⟩
       refine ⟨⟨_, .no (c := ((((dget s k).t.check sg) : Int) != (0 : Int))) (d := true) rfl (fun v w h => h), fun h w => optUndef h, fun zβ za zw zc => ?_⟩, ?_⟩
       ·exact ld_30 rfl ((evt za 51).trans (optVal (zc.dep 12 51 (by kernel_rfl)) rfl zβ)) (bkeeps (bstep hb116 zc.below) _ _ (hc130 k (by first | omega | (have zz := zβ; simp only [Bool.and_eq_true, Bool.or_eq_true, Bool.true_and, Bool.not_eq_true', Bool.or_eq_false_iff, Bool.and_eq_false_iff, beq_eq_false_iff_ne, ne_eq, beq_iff_eq, decide_eq_true_eq, decide_eq_false_iff_not, bne_iff_ne, bne_eq_false_iff_eq] at zz; omega))).2.1) (bkeeps (bstep hb116 zc.below) _ _ (hc130 k (by first | omega | (have zz := zβ; simp only [Bool.and_eq_true, Bool.or_eq_true, Bool.true_and, Bool.not_eq_true', Bool.or_eq_false_iff, Bool.and_eq_false_iff, beq_eq_false_iff_ne, ne_eq, beq_iff_eq, decide_eq_true_eq, decide_eq_false_iff_not, bne_iff_ne, bne_eq_false_iff_eq] at zz; omega))).2.2.1) ⟨_, rfl, Below.refl _ _, optDef zβ rfl⟩
       refine ⟨⟨_, .no (c := ((((dget s k).t.check sg) : Int) != (0 : Int))) (d := true) rfl (fun v w h => h), fun h w => optUndef h, fun zβ za zw zc => ?_⟩, ?_⟩
       ·exact wp_call (by kernel_rfl) rfl (hv1 ((evt za 52).trans (optVal (zc.dep 13 52 (by kernel_rfl)) rfl zβ))) (rsize_of (dget s k).t _ _ (hzs k (by omega)) (IsT.below (bstep hb116 zc.below) (InT.isT (hc130 k (by first | omega | (have zz := zβ; simp only [Bool.and_eq_true, Bool.or_eq_true, Bool.true_and, Bool.not_eq_true', Bool.or_eq_false_iff, Bool.and_eq_false_iff, beq_eq_false_iff_ne, ne_eq, beq_iff_eq, decide_eq_true_eq, decide_eq_false_iff_not, bne_iff_ne, bne_eq_false_iff_eq] at zz; omega))).2.2.2.1))) (fun v w' h => ⟨v, rfl, h.2, optDef zβ h.1⟩)
       refine ⟨⟨_, .no (c := ((((dget s k).t.check sg) : Int) != (0 : Int))) (d := true) rfl (fun v w h => h), fun h w => optUndef h, fun zβ za zw zc => ?_⟩, ?_⟩
       ·exact gtr_3 rfl ((evt za 53).trans (optVal (zc.dep 14 53 (by kernel_rfl)) rfl zβ)) (zc.kn.ev rfl) ⟨_, rfl, Below.refl _ _, optDef zβ rfl⟩
       refine ⟨⟨true, .none rfl, fun h w => optUndef h, fun zβ za zw zc => ?_⟩, ?_⟩
       ·exact wp_or rfl ((evt za 47).trans (optVal (zc.dep 8 47 (by kernel_rfl)) rfl rfl)) (fun hp => ((evt za 54).trans (optVal (zc.dep 15 54 (by kernel_rfl)) rfl (bMkN zβ hp)))) ⟨_, rfl, Below.refl _ _, optDef zβ rfl⟩
       refine ⟨⟨true, .none rfl, fun h w => optUndef h, fun zβ za zw zc => ?_⟩, ?_⟩
       ·exact wp_move rfl ((evt za 55).trans (optVal (zc.dep 16 55 (by kernel_rfl)) rfl rfl)) ⟨_, rfl, Below.refl _ _, optDef zβ rfl⟩
       refine ⟨⟨_, .no (c := (((((dget s k).t.check sg) : Int) != (0 : Int)) || (decide ((20 : Int) < ((((dget s k).t.size : Nat) : Int) : Int))))) (d := true) rfl (fun v w h => h), fun h w => optUndef h, fun zβ za zw zc => ?_⟩, ?_⟩
       ·exact wp_move rfl (zc.kn.ev rfl) ⟨_, rfl, Below.refl _ _, optDef zβ rfl⟩
       refine ⟨⟨_, .no (c := (((((dget s k).t.check sg) : Int) != (0 : Int)) || (decide ((20 : Int) < ((((dget s k).t.size : Nat) : Int) : Int))))) (d := true) rfl (fun v w h => h), fun h w => optUndef h, fun zβ za zw zc => ?_⟩, ?_⟩
       ·exact wp_move rfl (zc.kn.ev rfl) ⟨_, rfl, Below.refl _ _, optDef zβ rfl⟩
       refine ⟨⟨_, .no (c := (((((dget s k).t.check sg) : Int) != (0 : Int)) || (decide ((20 : Int) < ((((dget s k).t.size : Nat) : Int) : Int))))) (d := true) rfl (fun v w h => h), fun h w => optUndef h, fun zβ za zw zc => ?_⟩, ?_⟩
       ·exact ix_34 (k := k) rfl ((evt za 57).trans (optVal (zc.dep 18 57 (by kernel_rfl)) rfl zβ)) (ha129 k (by first | omega | (have zz := zβ; simp only [Bool.and_eq_true, Bool.or_eq_true, Bool.true_and, Bool.not_eq_true', Bool.or_eq_false_iff, Bool.and_eq_false_iff, beq_eq_false_iff_ne, ne_eq, beq_iff_eq, decide_eq_true_eq, decide_eq_false_iff_not, bne_iff_ne, bne_eq_false_iff_eq] at zz; omega))) ((evt za 58).trans (optVal (zc.dep 19 58 (by kernel_rfl)) rfl zβ)) (by first | omega | (have zz := zβ; simp only [Bool.and_eq_true, Bool.or_eq_true, Bool.true_and, Bool.not_eq_true', Bool.or_eq_false_iff, Bool.and_eq_false_iff, beq_eq_false_iff_ne, ne_eq, beq_iff_eq, decide_eq_true_eq, decide_eq_false_iff_not, bne_iff_ne, bne_eq_false_iff_eq] at zz; omega)) ⟨_, rfl, Below.refl _ _, optDef zβ rfl⟩
       refine ⟨⟨_, .no (c := (((((dget s k).t.check sg) : Int) != (0 : Int)) || (decide ((20 : Int) < ((((dget s k).t.size : Nat) : Int) : Int))))) (d := true) rfl (fun v w h => h), fun h w => optUndef h, fun zβ za zw zc => ?_⟩, ?_⟩
       ·exact fld_44_1 rfl ((evt za 59).trans (optVal (zc.dep 20 59 (by kernel_rfl)) rfl zβ)) ⟨_, rfl, Below.refl _ _, optDef zβ rfl⟩
       refine ⟨⟨_, .no (c := (((((dget s k).t.check sg) : Int) != (0 : Int)) || (decide ((20 : Int) < ((((dget s k).t.size : Nat) : Int) : Int))))) (d := true) rfl (fun v w h => h), fun h w => optUndef h, fun zβ za zw zc => ?_⟩, ?_⟩
       ·exact fld_30_0 rfl ((evt za 60).trans (optVal (zc.dep 21 60 (by kernel_rfl)) rfl zβ)) ⟨_, rfl, Below.refl _ _, optDef zβ rfl⟩
       refine ⟨⟨_, .no (c := (((((dget s k).t.check sg) : Int) != (0 : Int)) || (decide ((20 : Int) < ((((dget s k).t.size : Nat) : Int) : Int))))) (d := true) rfl (fun v w h => h), fun h w => optUndef h, fun zβ za zw zc => ?_⟩, ?_⟩
       ·exact ld_3 rfl ((evt za 61).trans (optVal (zc.dep 22 61 (by kernel_rfl)) rfl zβ)) (bkeeps (bstep hb116 zc.below) _ _ (hc130 k (by first | omega | (have zz := zβ; simp only [Bool.and_eq_true, Bool.or_eq_true, Bool.true_and, Bool.not_eq_true', Bool.or_eq_false_iff, Bool.and_eq_false_iff, beq_eq_false_iff_ne, ne_eq, beq_iff_eq, decide_eq_true_eq, decide_eq_false_iff_not, bne_iff_ne, bne_eq_false_iff_eq] at zz; omega))).2.1) ⟨_, rfl, Below.refl _ _, optDef zβ rfl⟩
       refine ⟨⟨_, .no (c := (((((dget s k).t.check sg) : Int) != (0 : Int)) || (decide ((20 : Int) < ((((dget s k).t.size : Nat) : Int) : Int))))) (d := true) rfl (fun v w h => h), fun h w => optUndef h, fun zβ za zw zc => ?_⟩, ?_⟩
       ·exact geq_3 rfl ((evt za 62).trans (optVal (zc.dep 23 62 (by kernel_rfl)) rfl zβ)) (zc.kn.ev rfl) ⟨_, rfl, Below.refl _ _, optDef zβ rfl⟩
       refine ⟨⟨_, .no (c := (((((dget s k).t.check sg) : Int) != (0 : Int)) || (decide ((20 : Int) < ((((dget s k).t.size : Nat) : Int) : Int))))) (d := true) rfl (fun v w h => h), fun h w => optUndef h, fun zβ za zw zc => ?_⟩, ?_⟩
       ·exact wp_move rfl ((evt za 63).trans (optVal (zc.dep 24 63 (by kernel_rfl)) rfl zβ)) ⟨_, rfl, Below.refl _ _, optDef zβ rfl⟩
       refine ⟨⟨_, .yes (c := (decide ((0 : Int) ≤ ((dget s k).t.f : Int)))) (d := (true && !(((((dget s k).t.check sg) : Int) != (0 : Int)) || (decide ((20 : Int) < ((((dget s k).t.size : Nat) : Int) : Int)))))) rfl (fun v w h => h), fun h w => optUndef h, fun zβ za zw zc => ?_⟩, ?_⟩
       ·exact fld_24_0 rfl (zc.kn.ev rfl) ⟨_, rfl, Below.refl _ _, optDef zβ rfl⟩
       refine ⟨⟨_, .yes (c := (decide ((0 : Int) ≤ ((dget s k).t.f : Int)))) (d := (true && !(((((dget s k).t.check sg) : Int) != (0 : Int)) || (decide ((20 : Int) < ((((dget s k).t.size : Nat) : Int) : Int)))))) rfl (fun v w h => h), fun h w => optUndef h, fun zβ za zw zc => ?_⟩, ?_⟩
       ·exact ld_22 rfl ((evt za 65).trans (optVal (zc.dep 26 65 (by kernel_rfl)) rfl zβ)) (bkeeps zc.below _ _ ((hB117.cell 0).trans rfl)) ⟨_, rfl, Below.refl _ _, optDef zβ rfl⟩
       refine ⟨⟨_, .yes (c := (decide ((0 : Int) ≤ ((dget s k).t.f : Int)))) (d := (true && !(((((dget s k).t.check sg) : Int) != (0 : Int)) || (decide ((20 : Int) < ((((dget s k).t.size : Nat) : Int) : Int)))))) rfl (fun v w h => h), fun h w => optUndef h, fun zβ za zw zc => ?_⟩, ?_⟩
       ·exact wp_move rfl (zc.kn.ev rfl) ⟨_, rfl, Below.refl _ _, optDef zβ rfl⟩
       refine ⟨⟨_, .yes (c := (decide ((0 : Int) ≤ ((dget s k).t.f : Int)))) (d := (true && !(((((dget s k).t.check sg) : Int) != (0 : Int)) || (decide ((20 : Int) < ((((dget s k).t.size : Nat) : Int) : Int)))))) rfl (fun v w h => h), fun h w => optUndef h, fun zβ za zw zc => ?_⟩, ?_⟩
       ·exact wp_move rfl (zc.kn.ev rfl) ⟨_, rfl, Below.refl _ _, optDef zβ rfl⟩
       refine ⟨⟨_, .yes (c := (decide ((0 : Int) ≤ ((dget s k).t.f : Int)))) (d := (true && !(((((dget s k).t.check sg) : Int) != (0 : Int)) || (decide ((20 : Int) < ((((dget s k).t.size : Nat) : Int) : Int)))))) rfl (fun v w h => h), fun h w => optUndef h, fun zβ za zw zc => ?_⟩, ?_⟩
       ·exact ix_34 (k := k) rfl ((evt za 67).trans (optVal (zc.dep 28 67 (by kernel_rfl)) rfl zβ)) (ha129 k (by first | omega | (have zz := zβ; simp only [Bool.and_eq_true, Bool.or_eq_true, Bool.true_and, Bool.not_eq_true', Bool.or_eq_false_iff, Bool.and_eq_false_iff, beq_eq_false_iff_ne, ne_eq, beq_iff_eq, decide_eq_true_eq, decide_eq_false_iff_not, bne_iff_ne, bne_eq_false_iff_eq] at zz; omega))) ((evt za 68).trans (optVal (zc.dep 29 68 (by kernel_rfl)) rfl zβ)) (by first | omega | (have zz := zβ; simp only [Bool.and_eq_true, Bool.or_eq_true, Bool.true_and, Bool.not_eq_true', Bool.or_eq_false_iff, Bool.and_eq_false_iff, beq_eq_false_iff_ne, ne_eq, beq_iff_eq, decide_eq_true_eq, decide_eq_false_iff_not, bne_iff_ne, bne_eq_false_iff_eq] at zz; omega)) ⟨_, rfl, Below.refl _ _, optDef zβ rfl⟩
       refine ⟨⟨_, .yes (c := (decide ((0 : Int) ≤ ((dget s k).t.f : Int)))) (d := (true && !(((((dget s k).t.check sg) : Int) != (0 : Int)) || (decide ((20 : Int) < ((((dget s k).t.size : Nat) : Int) : Int)))))) rfl (fun v w h => h), fun h w => optUndef h, fun zβ za zw zc => ?_⟩, ?_⟩
       ·exact fld_44_1 rfl ((evt za 69).trans (optVal (zc.dep 30 69 (by kernel_rfl)) rfl zβ)) ⟨_, rfl, Below.refl _ _, optDef zβ rfl⟩
       refine ⟨⟨_, .yes (c := (decide ((0 : Int) ≤ ((dget s k).t.f : Int)))) (d := (true && !(((((dget s k).t.check sg) : Int) != (0 : Int)) || (decide ((20 : Int) < ((((dget s k).t.size : Nat) : Int) : Int)))))) rfl (fun v w h => h), fun h w => optUndef h, fun zβ za zw zc => ?_⟩, ?_⟩
       ·exact fld_30_0 rfl ((evt za 70).trans (optVal (zc.dep 31 70 (by kernel_rfl)) rfl zβ)) ⟨_, rfl, Below.refl _ _, optDef zβ rfl⟩
       refine ⟨⟨_, .yes (c := (decide ((0 : Int) ≤ ((dget s k).t.f : Int)))) (d := (true && !(((((dget s k).t.check sg) : Int) != (0 : Int)) || (decide ((20 : Int) < ((((dget s k).t.size : Nat) : Int) : Int)))))) rfl (fun v w h => h), fun h w => optUndef h, fun zβ za zw zc => ?_⟩, ?_⟩
       ·exact ld_3 rfl ((evt za 71).trans (optVal (zc.dep 32 71 (by kernel_rfl)) rfl zβ)) (bkeeps (bstep hb116 zc.below) _ _ (hc130 k (by first | omega | (have zz := zβ; simp only [Bool.and_eq_true, Bool.or_eq_true, Bool.true_and, Bool.not_eq_true', Bool.or_eq_false_iff, Bool.and_eq_false_iff, beq_eq_false_iff_ne, ne_eq, beq_iff_eq, decide_eq_true_eq, decide_eq_false_iff_not, bne_iff_ne, bne_eq_false_iff_eq] at zz; omega))).2.1) ⟨_, rfl, Below.refl _ _, optDef zβ rfl⟩
       refine ⟨⟨_, .yes (c := (decide ((0 : Int) ≤ ((dget s k).t.f : Int)))) (d := (true && !(((((dget s k).t.check sg) : Int) != (0 : Int)) || (decide ((20 : Int) < ((((dget s k).t.size : Nat) : Int) : Int)))))) rfl (fun v w h => h), fun h w => optUndef h, fun zβ za zw zc => ?_⟩, ?_⟩
       ·exact ix_22 (k := ((dget s k).t.f).toNat) rfl ((evt za 66).trans (optVal (zc.dep 27 66 (by kernel_rfl)) rfl zβ)) (ha135 (((dget s k).t.f).toNat) (by first | omega | (have zz := zβ; simp only [Bool.and_eq_true, Bool.or_eq_true, Bool.true_and, Bool.not_eq_true', Bool.or_eq_false_iff, Bool.and_eq_false_iff, beq_eq_false_iff_ne, ne_eq, beq_iff_eq, decide_eq_true_eq, decide_eq_false_iff_not, bne_iff_ne, bne_eq_false_iff_eq] at zz; omega))) (((evt za 72).trans (optVal (zc.dep 33 72 (by kernel_rfl)) rfl zβ)).trans (congrArg (Value.int .i64) (by have zz := zβ; simp only [Bool.and_eq_true, Bool.true_and, Bool.not_eq_true', Bool.or_eq_false_iff, decide_eq_true_eq] at zz; omega))) (by first | omega | (have zz := zβ; simp only [Bool.and_eq_true, Bool.or_eq_true, Bool.true_and, Bool.not_eq_true', Bool.or_eq_false_iff, Bool.and_eq_false_iff, beq_eq_false_iff_ne, ne_eq, beq_iff_eq, decide_eq_true_eq, decide_eq_false_iff_not, bne_iff_ne, bne_eq_false_iff_eq] at zz; omega)) ⟨_, rfl, Below.refl _ _, optDef zβ rfl⟩
       refine ⟨⟨_, .yes (c := (decide ((0 : Int) ≤ ((dget s k).t.f : Int)))) (d := (true && !(((((dget s k).t.check sg) : Int) != (0 : Int)) || (decide ((20 : Int) < ((((dget s k).t.size : Nat) : Int) : Int)))))) rfl (fun v w h => h), fun h w => optUndef h, fun zβ za zw zc => ?_⟩, ?_⟩
       ·exact fld_47_2 rfl ((evt za 73).trans (optVal (zc.dep 34 73 (by kernel_rfl)) rfl zβ)) ⟨_, rfl, Below.refl _ _, optDef zβ rfl⟩
       refine ⟨⟨_, .yes (c := (decide ((0 : Int) ≤ ((dget s k).t.f : Int)))) (d := (true && !(((((dget s k).t.check sg) : Int) != (0 : Int)) || (decide ((20 : Int) < ((((dget s k).t.size : Nat) : Int) : Int)))))) rfl (fun v w h => h), fun h w => optUndef h, fun zβ za zw zc => ?_⟩, ?_⟩
       ·exact ld_4 rfl ((evt za 74).trans (optVal (zc.dep 35 74 (by kernel_rfl)) rfl zβ)) (bkeeps (bstep hb116 zc.below) _ _ (hc136 (((dget s k).t.f).toNat) (by first | omega | (have zz := zβ; simp only [Bool.and_eq_true, Bool.or_eq_true, Bool.true_and, Bool.not_eq_true', Bool.or_eq_false_iff, Bool.and_eq_false_iff, beq_eq_false_iff_ne, ne_eq, beq_iff_eq, decide_eq_true_eq, decide_eq_false_iff_not, bne_iff_ne, bne_eq_false_iff_eq] at zz; omega))).2.2) ⟨_, rfl, Below.refl _ _, optDef zβ rfl⟩
       refine ⟨⟨_, .no (c := (((((dget s k).t.check sg) : Int) != (0 : Int)) || (decide ((20 : Int) < ((((dget s k).t.size : Nat) : Int) : Int))))) (d := true) rfl (fun v w h => h), fun h w => optUndef h, fun zβ za zw zc => ?_⟩, ?_⟩
       ·exact wp_and rfl ((evt za 64).trans (optVal (zc.dep 25 64 (by kernel_rfl)) rfl zβ)) (fun hp => ((evt za 75).trans (optVal (zc.dep 36 75 (by kernel_rfl)) rfl (bMk zβ hp)))) ⟨_, rfl, Below.refl _ _, optDef zβ rfl⟩
       refine ⟨⟨true, .none rfl, fun h w => optUndef h, fun zβ za zw zc => ?_⟩, ?_⟩
       ·exact wp_or rfl ((evt za 56).trans (optVal (zc.dep 17 56 (by kernel_rfl)) rfl rfl)) (fun hp => ((evt za 76).trans (optVal (zc.dep 37 76 (by kernel_rfl)) rfl (bMkN zβ hp)))) ⟨_, rfl, Below.refl _ _, optDef zβ rfl⟩
       exact trivial
      ·intro za w137 zh hb138 zu
       have zh := zh.cons (d := 77) (v := .bool (((((((dget s k).t.check sg) : Int) != (0 : Int)) || (decide ((20 : Int) < ((((dget s k).t.size : Nat) : Int) : Int)))) || ((decide ((0 : Int) ≤ ((dget s k).t.f : Int))) && (sget sg (((dget s k).t.f).toNat)).pred)))) (optVal (zu 38 77 (by kernel_rfl)) rfl rfl)
       clear zu
       refine WE.go zh ?_
       refine WE.next ?_
       refine WC.cond rfl (fun h139 => ?_) (fun h139 => ?_)
       ·have h139 : (((((dget s k).t.check sg) : Int) ≠ (0 : Int)) ∨ ((20 : Int) < ((((dget s k).t.size : Nat) : Int) : Int))) ∨ (((0 : Int) ≤ ((dget s k).t.f : Int)) ∧ ((sget sg (((dget s k).t.f).toNat)).pred = true)) := by simpa using h139
        refine WC.seq (WC.region ?_)
        refine WL.call rfl rfl rfl (fun za zh zC => wp_call (by kernel_rfl) rfl (hv0)) (wakes_any _) ?_
        rintro _ w141 ⟨rfl, hq140⟩
        refine WL.asg rfl rfl rfl rfl rfl (WL.nil (WE.next (WC.ret (WE.blockRet (WE.thenRet (WE.thenRet (WE.blockRet (WE.thenRet (WE.ret1 rfl rfl ?_)))))))))
        have hb142 : Below w.heap.size w w141 := (bstep (bstep hb116 hb138) hq140)
        exact ⟨_, rfl, rfl, hb142⟩
       ·have h139 : ¬ ((((((dget s k).t.check sg) : Int) ≠ (0 : Int)) ∨ ((20 : Int) < ((((dget s k).t.size : Nat) : Int) : Int))) ∨ (((0 : Int) ≤ ((dget s k).t.f : Int)) ∧ ((sget sg (((dget s k).t.f).toNat)).pred = true))) := by simpa using h139
        refine WC.skip (WE.blockNormal (WE.next (WC.region ?_)))
        refine WL.val (.int .i64 ((((k + 1) : Nat) : Int))) rfl rfl rfl (fun za zC zh zk => addb_3 rfl (zh.ev rfl) (zh.ev rfl) (wrap_eq (by omega) (by omega) (by omega)) zk) ?_
        refine WL.mv rfl rfl rfl rfl rfl (WL.nil ?_)
        refine WE.round (k + 1) ⟨rfl, rfl, rfl, rfl, rfl, rfl, rfl, rfl, rfl, rfl, rfl, rfl, trivial⟩ ?_ ?_
        ·have hb143 : Below w.heap.size w w137 := (bstep hb116 hb138)
         have hB144 := hB117.below hb138
         have hB145 := hB118.below hb138
         have hB146 := hB119.below hb138
         have hB147 := hB120.below hb138
         have hB148 := hB121.below hb138
         have hB149 := hB122.below hb138
         have hB150 := hB123.below hb138
         exact ⟨by omega, fun q hq => by
           by_cases e : q = k
           ·subst e; have z := h139; simp only [not_or, Decidable.not_not, ne_eq] at z; exact ⟨z.1.1, by have z2 := z.1.2; omega⟩
           ·exact hall q (by omega), hb143, hB144, hB145, hB146, hB147, hB148, hB149, hB150⟩
        ·omega
     ·have h124 : ¬ ((((k : Nat) : Int) : Int) < (((s.length : Nat) : Int) : Int)) := by simpa using h124
      refine WC.exit (WE.thenExit (WE.thenExit (WE.blockIs rfl (WE.next (WC.seq ?_)))))
      have hall2 : ∀ b ∈ s, b.t.check sg = 0 ∧ b.t.size ≤ 20 := fun b hb => by obtain ⟨q, hq, rfl⟩ := List.getElem_of_mem hb; have z := hall q (by omega); rwa [dget_lt hq] at z
      have happ : ∀ {x : Li}, SmallLi x → x.size ≤ 1048576 → SmallLi (x.app s) := fun {x} h hx => ⟨Nat.le_trans (app_size (m := 20) (by omega) (fun b hb => (hall2 b hb).2) x.l) (by unfold Li.size at hx; omega), Nat.le_trans (app_size (m := 20) (by omega) (fun b hb => (hall2 b hb).2) x.r) (by unfold Li.size at hx; omega)⟩
      have hst := hF.od.stable hall2 fx fy
      refine WC.opt [(true, .val (.agg #[.bool o.lpo, .slice p1 o.prec.length k1, .slice p2 o.weights.length k2, .int .i64 o.var])), (true, .val (.agg #[.bool x.neg, .int .i64 x.l.f, .slice a1 x.l.args.length c1, .int .i64 x.r.f, .slice a2 x.r.args.length c2])), (true, .val (.agg #[.bool y.neg, .int .i64 y.l.f, .slice a1y y.l.args.length c1y, .int .i64 y.r.f, .slice a2y y.r.args.length c2y])), (true, .val (.int .i64 ((o.lits x y)))), (true, .val (.agg #[.bool o.lpo, .slice p1 o.prec.length k1, .slice p2 o.weights.length k2, .int .i64 o.var])), (true, .val (.slice as_ s.length cs)), (true, .val (.agg #[.bool x.neg, .int .i64 x.l.f, .slice a1 x.l.args.length c1, .int .i64 x.r.f, .slice a2 x.r.args.length c2])), (true, .mem (fun v w => IsLi w (x.app s) v) isLi_keep), (true, .val (.slice as_ s.length cs)), (true, .val (.agg #[.bool y.neg, .int .i64 y.l.f, .slice a1y y.l.args.length c1y, .int .i64 y.r.f, .slice a2y y.r.args.length c2y])), (true, .mem (fun v w => IsLi w (y.app s) v) isLi_keep), (true, .val (.int .i64 ((o.lits (x.app s) (y.app s))))), (true, .val (.int .i64 ((o.lits x y)))), (true, .val (.int .i64 ((o.lits (x.app s) (y.app s)))))] [(0, .agg #[.slice sa sg.length sc]), (1, .agg #[.bool o.lpo, .slice p1 o.prec.length k1, .slice p2 o.weights.length k2, .int .i64 o.var]), (2, .agg #[.bool x.neg, .int .i64 x.l.f, .slice a1 x.l.args.length c1, .int .i64 x.r.f, .slice a2 x.r.args.length c2]), (3, .agg #[.bool y.neg, .int .i64 y.l.f, .slice a1y y.l.args.length c1y, .int .i64 y.r.f, .slice a2y y.r.args.length c2y]), (4, .slice as_ s.length cs), (5, .pointer (some ⟨g2, 0, none⟩)), (6, .pointer (some ⟨g9, 0, none⟩)), (7, .pointer (some ⟨g17, 0, none⟩)), (8, .pointer (some ⟨g27, 0, none⟩)), (32, .bool ((decide ((48 : Int) < (((s.length : Nat) : Int) : Int))))), (35, .int .i64 (((s.length : Nat) : Int))), (36, .int .i64 (((k : Nat) : Int))), (37, .bool ((decide ((((k : Nat) : Int) : Int) < (((s.length : Nat) : Int) : Int)))))] ⟨rfl, rfl, rfl, rfl, rfl, rfl, rfl, rfl, rfl, rfl, rfl, rfl, rfl, trivial⟩ (by kernel_rfl) (by kernel_rfl) (by kernel_rfl) ?_ ?_
      ·refine ⟨⟨true, .none rfl, fun h w => optUndef h, fun zβ za zw zc => ?_⟩, ?_⟩
       ·exact ld_27 rfl (zc.kn.ev rfl) (bkeeps zc.below _ _ ((hB118.cell 0).trans rfl)) (bkeeps zc.below _ _ ((hB118.cell 1).trans rfl)) (bkeeps zc.below _ _ ((hB118.cell 2).trans rfl)) (bkeeps zc.below _ _ ((hB118.cell 3).trans rfl)) ⟨_, rfl, Below.refl _ _, optDef zβ rfl⟩
       refine ⟨⟨true, .none rfl, fun h w => optUndef h, fun zβ za zw zc => ?_⟩, ?_⟩
       ·exact ld_32 rfl (zc.kn.ev rfl) (bkeeps zc.below _ _ ((hB119.cell 0).trans rfl)) (bkeeps zc.below _ _ ((hB119.cell 1).trans rfl)) (bkeeps zc.below _ _ ((hB119.cell 2).trans rfl)) (bkeeps zc.below _ _ ((hB119.cell 3).trans rfl)) (bkeeps zc.below _ _ ((hB119.cell 4).trans rfl)) ⟨_, rfl, Below.refl _ _, optDef zβ rfl⟩
       refine ⟨⟨true, .none rfl, fun h w => optUndef h, fun zβ za zw zc => ?_⟩, ?_⟩
       ·exact ld_32 rfl (zc.kn.ev rfl) (bkeeps zc.below _ _ ((hB120.cell 0).trans rfl)) (bkeeps zc.below _ _ ((hB120.cell 1).trans rfl)) (bkeeps zc.below _ _ ((hB120.cell 2).trans rfl)) (bkeeps zc.below _ _ ((hB120.cell 3).trans rfl)) (bkeeps zc.below _ _ ((hB120.cell 4).trans rfl)) ⟨_, rfl, Below.refl _ _, optDef zβ rfl⟩
       refine ⟨⟨true, .none rfl, fun h w => optUndef h, fun zβ za zw zc => ?_⟩, ?_⟩
       ·exact wp_call (by kernel_rfl) rfl (hv3 ((evt za 80).trans (optVal (zc.dep 0 80 (by kernel_rfl)) rfl rfl)) ((evt za 81).trans (optVal (zc.dep 1 81 (by kernel_rfl)) rfl rfl)) ((evt za 82).trans (optVal (zc.dep 2 82 (by kernel_rfl)) rfl rfl))) (olits_any o x y _ _ _ _ (hot.below (bstep hb116 zc.below)) (hxx.below (bstep hb116 zc.below)) (hyy.below (bstep hb116 zc.below)) smx smy) (fun v w' h => ⟨v, rfl, h.2, optDef zβ h.1⟩)
       refine ⟨⟨true, .none rfl, fun h w => optUndef h, fun zβ za zw zc => ?_⟩, ?_⟩
       ·exact ld_27 rfl (zc.kn.ev rfl) (bkeeps zc.below _ _ ((hB118.cell 0).trans rfl)) (bkeeps zc.below _ _ ((hB118.cell 1).trans rfl)) (bkeeps zc.below _ _ ((hB118.cell 2).trans rfl)) (bkeeps zc.below _ _ ((hB118.cell 3).trans rfl)) ⟨_, rfl, Below.refl _ _, optDef zβ rfl⟩
       refine ⟨⟨true, .none rfl, fun h w => optUndef h, fun zβ za zw zc => ?_⟩, ?_⟩
       ·exact wp_move rfl (zc.kn.ev rfl) ⟨_, rfl, Below.refl _ _, optDef zβ rfl⟩
       refine ⟨⟨true, .none rfl, fun h w => optUndef h, fun zβ za zw zc => ?_⟩, ?_⟩
       ·exact ld_32 rfl (zc.kn.ev rfl) (bkeeps zc.below _ _ ((hB119.cell 0).trans rfl)) (bkeeps zc.below _ _ ((hB119.cell 1).trans rfl)) (bkeeps zc.below _ _ ((hB119.cell 2).trans rfl)) (bkeeps zc.below _ _ ((hB119.cell 3).trans rfl)) (bkeeps zc.below _ _ ((hB119.cell 4).trans rfl)) ⟨_, rfl, Below.refl _ _, optDef zβ rfl⟩
       refine ⟨⟨true, .none rfl, fun h w => optUndef h, fun zβ za zw zc => ?_⟩, ?_⟩
       ·exact wp_call (by kernel_rfl) rfl (hv2 ((evt za 85).trans (optVal (zc.dep 5 85 (by kernel_rfl)) rfl rfl)) ((evt za 86).trans (optVal (zc.dep 6 86 (by kernel_rfl)) rfl rfl))) (rlit_of s x _ _ _ _ (smx).1 (smx).2 (hxx.below (bstep hb116 zc.below)) (hsub.below (bstep hb116 zc.below))) (fun v w' h => ⟨v, rfl, h.2, optDef zβ h.1⟩)
       refine ⟨⟨true, .none rfl, fun h w => optUndef h, fun zβ za zw zc => ?_⟩, ?_⟩
       ·exact wp_move rfl (zc.kn.ev rfl) ⟨_, rfl, Below.refl _ _, optDef zβ rfl⟩
       refine ⟨⟨true, .none rfl, fun h w => optUndef h, fun zβ za zw zc => ?_⟩, ?_⟩
       ·exact ld_32 rfl (zc.kn.ev rfl) (bkeeps zc.below _ _ ((hB120.cell 0).trans rfl)) (bkeeps zc.below _ _ ((hB120.cell 1).trans rfl)) (bkeeps zc.below _ _ ((hB120.cell 2).trans rfl)) (bkeeps zc.below _ _ ((hB120.cell 3).trans rfl)) (bkeeps zc.below _ _ ((hB120.cell 4).trans rfl)) ⟨_, rfl, Below.refl _ _, optDef zβ rfl⟩
       refine ⟨⟨true, .none rfl, fun h w => optUndef h, fun zβ za zw zc => ?_⟩, ?_⟩
       ·exact wp_call (by kernel_rfl) rfl (hv2 ((evt za 88).trans (optVal (zc.dep 8 88 (by kernel_rfl)) rfl rfl)) ((evt za 89).trans (optVal (zc.dep 9 89 (by kernel_rfl)) rfl rfl))) (rlit_of s y _ _ _ _ (smy).1 (smy).2 (hyy.below (bstep hb116 zc.below)) (hsub.below (bstep hb116 zc.below))) (fun v w' h => ⟨v, rfl, h.2, optDef zβ h.1⟩)
       refine ⟨⟨true, .none rfl, fun h w => optUndef h, fun zβ za zw zc => ?_⟩, ?_⟩
       ·have h3 := (optMem (zc.dep 7 87 (by kernel_rfl)) rfl rfl)
        have h4 := (optMem (zc.dep 10 90 (by kernel_rfl)) rfl rfl)
        exact wp_call (by kernel_rfl) rfl (hv3 ((evt za 84).trans (optVal (zc.dep 4 84 (by kernel_rfl)) rfl rfl)) rfl rfl) (olits_any o (x.app s) (y.app s) _ _ _ _ (hot.below (bstep hb116 zc.below)) h3 h4 (happ smx zx) (happ smy zy)) (fun v w' h => ⟨v, rfl, h.2, optDef zβ h.1⟩)
       refine ⟨⟨true, .none rfl, fun h w => optUndef h, fun zβ za zw zc => ?_⟩, ?_⟩
       ·exact wp_assign rfl ((evt za 83).trans (optVal (zc.dep 3 83 (by kernel_rfl)) rfl rfl)) ⟨_, rfl, Below.refl _ _, optDef zβ rfl⟩
       refine ⟨⟨true, .none rfl, fun h w => optUndef h, fun zβ za zw zc => ?_⟩, ?_⟩
       ·exact wp_assign rfl ((evt za 91).trans (optVal (zc.dep 11 91 (by kernel_rfl)) rfl rfl)) ⟨_, rfl, Below.refl _ _, optDef zβ rfl⟩
       exact trivial
      ·intro za w151 zh hb152 zu
       have zh := zh.cons (d := 12) (v := .int .i64 ((o.lits x y))) (optVal (zu 12 12 (by kernel_rfl)) rfl rfl)
       have zh := zh.cons (d := 13) (v := .int .i64 ((o.lits (x.app s) (y.app s)))) (optVal (zu 13 13 (by kernel_rfl)) rfl rfl)
       clear zu
       refine WE.go zh ?_
       refine WE.next (WC.seq ?_)
       refine WC.opt [(true, .val (.int .i64 ((o.lits x y)))), (true, .val (.bool ((((o.lits x y) : Int) != (3 : Int))))), (true, .val (.bool ((((o.lits x y) : Int) != (3 : Int))))), ((true && !(((o.lits x y) : Int) != (3 : Int))), .val (.int .i64 ((o.lits (x.app s) (y.app s))))), ((true && !(((o.lits x y) : Int) != (3 : Int))), .val (.bool ((((o.lits (x.app s) (y.app s)) : Int) == (3 : Int))))), (true, .val (.bool (((((o.lits x y) : Int) != (3 : Int)) || (((o.lits (x.app s) (y.app s)) : Int) == (3 : Int)))))), (true, .val (.bool (((((o.lits x y) : Int) != (3 : Int)) || (((o.lits (x.app s) (y.app s)) : Int) == (3 : Int)))))), ((true && ((((o.lits x y) : Int) != (3 : Int)) || (((o.lits (x.app s) (y.app s)) : Int) == (3 : Int)))), .val (.int .i64 ((o.lits x y)))), ((true && ((((o.lits x y) : Int) != (3 : Int)) || (((o.lits (x.app s) (y.app s)) : Int) == (3 : Int)))), .val (.bool ((((o.lits x y) : Int) != (2 : Int))))), ((true && ((((o.lits x y) : Int) != (3 : Int)) || (((o.lits (x.app s) (y.app s)) : Int) == (3 : Int)))), .val (.bool ((((o.lits x y) : Int) != (2 : Int))))), (((true && ((((o.lits x y) : Int) != (3 : Int)) || (((o.lits (x.app s) (y.app s)) : Int) == (3 : Int)))) && !(((o.lits x y) : Int) != (2 : Int))), .val (.int .i64 ((o.lits (x.app s) (y.app s))))), (((true && ((((o.lits x y) : Int) != (3 : Int)) || (((o.lits (x.app s) (y.app s)) : Int) == (3 : Int)))) && !(((o.lits x y) : Int) != (2 : Int))), .val (.bool ((((o.lits (x.app s) (y.app s)) : Int) == (2 : Int))))), ((true && ((((o.lits x y) : Int) != (3 : Int)) || (((o.lits (x.app s) (y.app s)) : Int) == (3 : Int)))), .val (.bool (((((o.lits x y) : Int) != (2 : Int)) || (((o.lits (x.app s) (y.app s)) : Int) == (2 : Int)))))), (true, .val (.bool ((((((o.lits x y) : Int) != (3 : Int)) || (((o.lits (x.app s) (y.app s)) : Int) == (3 : Int))) && ((((o.lits x y) : Int) != (2 : Int)) || (((o.lits (x.app s) (y.app s)) : Int) == (2 : Int))))))), (true, .val (.bool ((((((o.lits x y) : Int) != (3 : Int)) || (((o.lits (x.app s) (y.app s)) : Int) == (3 : Int))) && ((((o.lits x y) : Int) != (2 : Int)) || (((o.lits (x.app s) (y.app s)) : Int) == (2 : Int))))))), ((true && (((((o.lits x y) : Int) != (3 : Int)) || (((o.lits (x.app s) (y.app s)) : Int) == (3 : Int))) && ((((o.lits x y) : Int) != (2 : Int)) || (((o.lits (x.app s) (y.app s)) : Int) == (2 : Int))))), .val (.bool true)), (true, .val (.bool (((((((o.lits x y) : Int) != (3 : Int)) || (((o.lits (x.app s) (y.app s)) : Int) == (3 : Int))) && ((((o.lits x y) : Int) != (2 : Int)) || (((o.lits (x.app s) (y.app s)) : Int) == (2 : Int)))) && true)))), (true, .val (.bool (((((((o.lits x y) : Int) != (3 : Int)) || (((o.lits (x.app s) (y.app s)) : Int) == (3 : Int))) && ((((o.lits x y) : Int) != (2 : Int)) || (((o.lits (x.app s) (y.app s)) : Int) == (2 : Int)))) && true))))] [(0, .agg #[.slice sa sg.length sc]), (1, .agg #[.bool o.lpo, .slice p1 o.prec.length k1, .slice p2 o.weights.length k2, .int .i64 o.var]), (2, .agg #[.bool x.neg, .int .i64 x.l.f, .slice a1 x.l.args.length c1, .int .i64 x.r.f, .slice a2 x.r.args.length c2]), (3, .agg #[.bool y.neg, .int .i64 y.l.f, .slice a1y y.l.args.length c1y, .int .i64 y.r.f, .slice a2y y.r.args.length c2y]), (4, .slice as_ s.length cs), (5, .pointer (some ⟨g2, 0, none⟩)), (6, .pointer (some ⟨g9, 0, none⟩)), (7, .pointer (some ⟨g17, 0, none⟩)), (8, .pointer (some ⟨g27, 0, none⟩)), (12, .int .i64 ((o.lits x y))), (13, .int .i64 ((o.lits (x.app s) (y.app s)))), (32, .bool ((decide ((48 : Int) < (((s.length : Nat) : Int) : Int))))), (35, .int .i64 (((s.length : Nat) : Int))), (36, .int .i64 (((k : Nat) : Int))), (37, .bool ((decide ((((k : Nat) : Int) : Int) < (((s.length : Nat) : Int) : Int)))))] ⟨rfl, rfl, rfl, rfl, rfl, rfl, rfl, rfl, rfl, rfl, rfl, rfl, rfl, rfl, rfl, trivial⟩ (by kernel_rfl) (by kernel_rfl) (by kernel_rfl) ?_ ?_
       ·refine ⟨⟨true, .none rfl, fun h w => optUndef h, fun zβ za zw zc => ?_⟩, ?_⟩
        ·exact wp_move rfl (zc.kn.ev rfl) ⟨_, rfl, Below.refl _ _, optDef zβ rfl⟩
        refine ⟨⟨true, .none rfl, fun h w => optUndef h, fun zβ za zw zc => ?_⟩, ?_⟩
        ·exact neq_48 rfl ((evt za 92).trans (optVal (zc.dep 0 92 (by kernel_rfl)) rfl rfl)) (zc.kn.ev rfl) ⟨_, rfl, Below.refl _ _, optDef zβ rfl⟩
        refine ⟨⟨true, .none rfl, fun h w => optUndef h, fun zβ za zw zc => ?_⟩, ?_⟩
        ·exact wp_move rfl ((evt za 93).trans (optVal (zc.dep 1 93 (by kernel_rfl)) rfl rfl)) ⟨_, rfl, Below.refl _ _, optDef zβ rfl⟩
        refine ⟨⟨_, .no (c := (((o.lits x y) : Int) != (3 : Int))) (d := true) rfl (fun v w h => h), fun h w => optUndef h, fun zβ za zw zc => ?_⟩, ?_⟩
        ·exact wp_move rfl (zc.kn.ev rfl) ⟨_, rfl, Below.refl _ _, optDef zβ rfl⟩
        refine ⟨⟨_, .no (c := (((o.lits x y) : Int) != (3 : Int))) (d := true) rfl (fun v w h => h), fun h w => optUndef h, fun zβ za zw zc => ?_⟩, ?_⟩
        ·exact eql_48 rfl ((evt za 95).trans (optVal (zc.dep 3 95 (by kernel_rfl)) rfl zβ)) (zc.kn.ev rfl) ⟨_, rfl, Below.refl _ _, optDef zβ rfl⟩
        refine ⟨⟨true, .none rfl, fun h w => optUndef h, fun zβ za zw zc => ?_⟩, ?_⟩
        ·exact wp_or rfl ((evt za 94).trans (optVal (zc.dep 2 94 (by kernel_rfl)) rfl rfl)) (fun hp => ((evt za 96).trans (optVal (zc.dep 4 96 (by kernel_rfl)) rfl (bMkN zβ hp)))) ⟨_, rfl, Below.refl _ _, optDef zβ rfl⟩
        refine ⟨⟨true, .none rfl, fun h w => optUndef h, fun zβ za zw zc => ?_⟩, ?_⟩
        ·exact wp_move rfl ((evt za 97).trans (optVal (zc.dep 5 97 (by kernel_rfl)) rfl rfl)) ⟨_, rfl, Below.refl _ _, optDef zβ rfl⟩
        refine ⟨⟨_, .yes (c := ((((o.lits x y) : Int) != (3 : Int)) || (((o.lits (x.app s) (y.app s)) : Int) == (3 : Int)))) (d := true) rfl (fun v w h => h), fun h w => optUndef h, fun zβ za zw zc => ?_⟩, ?_⟩
        ·exact wp_move rfl (zc.kn.ev rfl) ⟨_, rfl, Below.refl _ _, optDef zβ rfl⟩
        refine ⟨⟨_, .yes (c := ((((o.lits x y) : Int) != (3 : Int)) || (((o.lits (x.app s) (y.app s)) : Int) == (3 : Int)))) (d := true) rfl (fun v w h => h), fun h w => optUndef h, fun zβ za zw zc => ?_⟩, ?_⟩
        ·exact neq_48 rfl ((evt za 99).trans (optVal (zc.dep 7 99 (by kernel_rfl)) rfl zβ)) (zc.kn.ev rfl) ⟨_, rfl, Below.refl _ _, optDef zβ rfl⟩
        refine ⟨⟨_, .yes (c := ((((o.lits x y) : Int) != (3 : Int)) || (((o.lits (x.app s) (y.app s)) : Int) == (3 : Int)))) (d := true) rfl (fun v w h => h), fun h w => optUndef h, fun zβ za zw zc => ?_⟩, ?_⟩
        ·exact wp_move rfl ((evt za 100).trans (optVal (zc.dep 8 100 (by kernel_rfl)) rfl zβ)) ⟨_, rfl, Below.refl _ _, optDef zβ rfl⟩
        refine ⟨⟨_, .no (c := (((o.lits x y) : Int) != (2 : Int))) (d := (true && ((((o.lits x y) : Int) != (3 : Int)) || (((o.lits (x.app s) (y.app s)) : Int) == (3 : Int))))) rfl (fun v w h => h), fun h w => optUndef h, fun zβ za zw zc => ?_⟩, ?_⟩
        ·exact wp_move rfl (zc.kn.ev rfl) ⟨_, rfl, Below.refl _ _, optDef zβ rfl⟩
        refine ⟨⟨_, .no (c := (((o.lits x y) : Int) != (2 : Int))) (d := (true && ((((o.lits x y) : Int) != (3 : Int)) || (((o.lits (x.app s) (y.app s)) : Int) == (3 : Int))))) rfl (fun v w h => h), fun h w => optUndef h, fun zβ za zw zc => ?_⟩, ?_⟩
        ·exact eql_48 rfl ((evt za 102).trans (optVal (zc.dep 10 102 (by kernel_rfl)) rfl zβ)) (zc.kn.ev rfl) ⟨_, rfl, Below.refl _ _, optDef zβ rfl⟩
        refine ⟨⟨_, .yes (c := ((((o.lits x y) : Int) != (3 : Int)) || (((o.lits (x.app s) (y.app s)) : Int) == (3 : Int)))) (d := true) rfl (fun v w h => h), fun h w => optUndef h, fun zβ za zw zc => ?_⟩, ?_⟩
        ·exact wp_or rfl ((evt za 101).trans (optVal (zc.dep 9 101 (by kernel_rfl)) rfl zβ)) (fun hp => ((evt za 103).trans (optVal (zc.dep 11 103 (by kernel_rfl)) rfl (bMkN zβ hp)))) ⟨_, rfl, Below.refl _ _, optDef zβ rfl⟩
        refine ⟨⟨true, .none rfl, fun h w => optUndef h, fun zβ za zw zc => ?_⟩, ?_⟩
        ·exact wp_and rfl ((evt za 98).trans (optVal (zc.dep 6 98 (by kernel_rfl)) rfl rfl)) (fun hp => ((evt za 104).trans (optVal (zc.dep 12 104 (by kernel_rfl)) rfl (bMk zβ hp)))) ⟨_, rfl, Below.refl _ _, optDef zβ rfl⟩
        refine ⟨⟨true, .none rfl, fun h w => optUndef h, fun zβ za zw zc => ?_⟩, ?_⟩
        ·exact wp_move rfl ((evt za 105).trans (optVal (zc.dep 13 105 (by kernel_rfl)) rfl rfl)) ⟨_, rfl, Below.refl _ _, optDef zβ rfl⟩
        refine ⟨⟨_, .yes (c := (((((o.lits x y) : Int) != (3 : Int)) || (((o.lits (x.app s) (y.app s)) : Int) == (3 : Int))) && ((((o.lits x y) : Int) != (2 : Int)) || (((o.lits (x.app s) (y.app s)) : Int) == (2 : Int))))) (d := true) rfl (fun v w h => h), fun h w => optUndef h, fun zβ za zw zc => ?_⟩, ?_⟩
        ·exact wp_call (by kernel_rfl) rfl (hv0) (wakes_any _) (fun v w' h => ⟨v, rfl, h.2, optDef zβ h.1⟩)
        refine ⟨⟨true, .none rfl, fun h w => optUndef h, fun zβ za zw zc => ?_⟩, ?_⟩
        ·exact wp_and rfl ((evt za 106).trans (optVal (zc.dep 14 106 (by kernel_rfl)) rfl rfl)) (fun hp => ((evt za 107).trans (optVal (zc.dep 15 107 (by kernel_rfl)) rfl (bMk zβ hp)))) ⟨_, rfl, Below.refl _ _, optDef zβ rfl⟩
        refine ⟨⟨true, .none rfl, fun h w => optUndef h, fun zβ za zw zc => ?_⟩, ?_⟩
        ·exact wp_assign rfl ((evt za 108).trans (optVal (zc.dep 16 108 (by kernel_rfl)) rfl rfl)) ⟨_, rfl, Below.refl _ _, optDef zβ rfl⟩
        exact trivial
       ·intro za w154 zh hb155 zu
        have zh := zh.cons (d := 10) (v := .bool (((((((o.lits x y) : Int) != (3 : Int)) || (((o.lits (x.app s) (y.app s)) : Int) == (3 : Int))) && ((((o.lits x y) : Int) != (2 : Int)) || (((o.lits (x.app s) (y.app s)) : Int) == (2 : Int)))) && true))) (optVal (zu 17 10 (by kernel_rfl)) rfl rfl)
        clear zu
        refine WE.go zh ?_
        refine WE.next (WC.ret (WE.ret1 rfl rfl ?_))
        have hb156 : Below w.heap.size w w154 := (bstep (bstep hb116 hb152) hb155)
        exact ⟨_, rfl, congrArg Value.bool (by rw [stB _ _ hst.1 hst.2]; rfl), hb156⟩
end Go.Proofs.Ytmdpiafeiopimaa

/- What a law's statement asks behind its call, where the call answers true and leaves all that was there as it was. -/
namespace Go.Proofs.Ytmdpiafeiopimaa
open Go.ChangeShapes Go.WideShapes Go.ChangeAt Go.RowKit
section
variable {H : Type} {enc : TypeId × Value → H} {P : Program}
theorem trodAll_below (hl : laidOutB P = true) {W W' : World} (hb : Below W.heap.size W W') : ∀ {ts : List TypeId} {vs : List Value} {ds : List (DataW H)} {ps : List MemPlace},
    (∀ t ∈ ts, P.readableRec t = true ∧ t < P.types.size) → (∀ x ∈ ps, x.block < W.heap.size) → DataW.TrodAll enc P W 0 (fun _ => true) true ts vs ds ps →
    DataW.TrodAll enc P W' 0 (fun b => decide (b < W.heap.size)) true ts vs ds ps
  | [], [], [], _, _, _, h => h
  | t :: ts, v :: vs, d :: ds, ps, hr, hlt, ⟨p, q, h1, h2, e⟩ => by
    subst e
    exact ⟨p, q, Below.trod hl (hr t (by simp)).1 (hr t (by simp)).2 h1 hb (fun x hx => hlt x (by simp [hx])), trodAll_below hl hb (fun t ht => hr t (by simp [ht])) (fun x hx => hlt x (by simp [hx])) h2, rfl⟩
  | [], _ :: _, _, _, _, _, h => h.elim
  | [], [], _ :: _, _, _, _, h => h.elim
  | _ :: _, [], _, _, _, _, h => h.elim
  | _ :: _, _ :: _, [], _, _, _, h => h.elim
theorem law_post {f : Func} {s : ChangeSpec} {W W' : World} {args : Array Value} {ds gs : List (DataW H)} {before : List MemPlace} {tb : TypeId} (hl : laidOutB P = true) (hr : ∀ t ∈ f.params.toList, P.readableRec t = true ∧ t < P.types.size)
    (htb : P.underlying tb = some .bool) (hrt : f.resultTypes = #[tb]) (hv : s.vars = []) (hs : s.fn H ds = { results := [.lit (.bool true)], args := ds })
    (hW : DataW.Whole enc P f.params.toList s.vars false W args.toList ds gs before) (hb : Below W.heap.size W W') : s.post enc P f false true false false W args (.bool true) W' := by
  have hlt : ∀ p ∈ before, p.block < W.heap.size := fun p hp => hW.lt p hp
  have hW0 := hW
  obtain ⟨p, q, hA, hV, hpq, _, _⟩ := hW
  rw [hv] at hV
  obtain ⟨rfl, rfl⟩ := trodVars_none hV
  refine ⟨ds, [], before, [], p, [], hW0, ?_, ?_, ?_, hb.frame _, fun h => by cases h⟩
  · rw [List.append_nil, hs, hrt]
    exact trodAll_cons_mk (shut_bool htb _) trodAll_mk0
  · rw [List.append_nil, hs]
    refine trodAll_below hl hb hr (fun x hx => hlt x ?_) hA
    rw [hpq]; simp [hx]
  · rw [List.append_nil, hv]
    have : (s.fn H ds).vars = [] := by rw [hs]
    rw [this]
    rfl
end
end Go.Proofs.Ytmdpiafeiopimaa

/- Arguments of a law, opened: terms, integers, truth values; rows in general. -/
namespace Go.Proofs.Ytmdpiafeiopimaa
open Go.ChangeShapes Go.WideShapes Go.ChangeAt Go.RowKit
theorem own : ownKnob Try.prog.godebug = none := by kernel_rfl
theorem one_le_bulk {H : Type} (d : DataW H) : 1 ≤ Rows.uptoBulk d := by
  cases d with
  | lit l => cases l <;> simp [Rows.uptoBulk]
  | _ => simp [Rows.uptoBulk]
theorem len_le_bulk {H : Type} (ds : List (DataW H)) : ds.length ≤ Rows.uptoBulkAll ds := by
  induction ds with
  | nil => simp
  | cons d r ih => have := one_le_bulk d; simp only [List.length_cons, Rows.uptoBulkAll]; omega
theorem readable_all {P : Program} {ts : List TypeId} (h : (ts.all fun t => P.readableRec t && Nat.blt t P.types.size) = true) : ∀ t ∈ ts, P.readableRec t = true ∧ t < P.types.size := by
  intro t ht
  have := List.all_eq_true.1 h t ht
  simp only [Bool.and_eq_true, Nat.blt_eq] at this
  exact this
theorem bulk_mem {H : Type} {l : List (DataW H)} (hk : Rows.uptoSmall H l = true) {d : DataW H} (h : d ∈ l) : Rows.uptoBulk d ≤ 1048576 :=
  Nat.le_trans (bulkAll_le h) (of_decide_eq_true hk)
section
variable {H : Type} {enc : TypeId × Value → H} {w : World} {base : Nat} {spare : Nat → Bool} {held : Bool}
theorem bulk_at {H : Type} : ∀ {ds : List (DataW H)} {d : DataW H}, d ∈ ds → Rows.uptoBulk d ≤ Rows.uptoBulkAll ds
  | [], _, h => nomatch h
  | x :: r, d, h => by
    rw [Rows.uptoBulkAll]
    rcases List.mem_cons.1 h with rfl | h
    · omega
    · have := bulk_at h; omega
/-- A row that was opened, as the rows of elements have it. -/
theorem inRow_of {α : Type} {E : Elt α} {R : World → α → List Value → Prop} {l : List α} {a : Option Addr} (hR : ∀ x cs, R w x cs → E.In (fun _ => True) w x cs) (h : IsRow w E.k R l a) : InRow E (fun _ => True) w l a := fun i hi => by
  obtain ⟨b, o, cs, h1, _, h3, h4⟩ := h i hi
  exact ⟨b, o, cs, h1, trivial, hR _ _ h4, h3⟩
theorem IsT.inTrue {t : T} {v : Value} (h : IsT w t v) : InT (fun _ => True) w t v := InT.mono (fun _ _ _ => trivial) (IsT.inT h)
end
end Go.Proofs.Ytmdpiafeiopimaa

/- Arguments of a law, opened: literals, clauses. -/
namespace Go.Proofs.Ytmdpiafeiopimaa
open Go.ChangeShapes Go.WideShapes Go.ChangeAt Go.RowKit
section
variable {H : Type} {enc : TypeId × Value → H} {w : World} {base : Nat} {spare : Nat → Bool} {held : Bool}
def IsLiC (w : World) (x : Li) (cs : List Value) : Prop := eltL.In (fun _ => True) w x cs
set_option maxRecDepth 100000 in
theorem open_Li (fuel : Nat) (cs : List Value) (x : DataW H × List MemPlace) (h : DataW.trod enc Try.prog w base spare held fuel 32 cs = some x) :
    ∃ y : Li, IsLiC w y cs ∧ 1 + y.size ≤ Rows.uptoBulk x.1 := by
  have hC : Try.prog.cellsOf 32 = 5 := by kernel_rfl
  have hC4 : Try.prog.cellsOf 4 = 1 := by kernel_rfl
  have hC32 : Try.prog.cellsOf 30 = 2 := by kernel_rfl
  obtain ⟨xs, n, rfl, rfl, hl, hlen, hf⟩ := DataW.trod_struct Try.underlying32 h
  rw [hC] at hl
  match xs, hlen, cs, hl with
  | [y0, y1, y2], _, [c0, c1, c2, c3, c4], _ =>
    have g0 : DataW.trod enc Try.prog w base spare held n 4 [c0] = some y0 := by simpa [hC4] using hf 0 _ rfl
    have g1 : DataW.trod enc Try.prog w base spare held n 30 [c1, c2] = some y1 := by simpa [hC32] using hf 1 _ rfl
    have g2 : DataW.trod enc Try.prog w base spare held n 30 [c3, c4] = some y2 := by simpa [hC32] using hf 2 _ rfl
    obtain ⟨b, e0, rfl⟩ := DataW.trod_bool Try.underlying4 g0
    simp only [List.cons.injEq, and_true] at e0
    subst e0
    obtain ⟨t1, u1, u2, e1, h1, s1⟩ := open_T _ _ _ g1
    obtain ⟨t2, u3, u4, e2, h2, s2⟩ := open_T _ _ _ g2
    simp only [List.cons.injEq, and_true] at e1 e2
    obtain ⟨rfl, rfl⟩ := e1
    obtain ⟨rfl, rfl⟩ := e2
    exact ⟨⟨b, t1, t2⟩, ⟨_, _, _, _, rfl, h1.inTrue, h2.inTrue⟩, by simp only [List.map_cons, List.map_nil, Rows.uptoBulk, Rows.uptoBulkAll, Li.size]; omega⟩
end
end Go.Proofs.Ytmdpiafeiopimaa

/- Arguments of a law, opened: signatures, orders, literals. -/
namespace Go.Proofs.Ytmdpiafeiopimaa
open Go.ChangeShapes Go.WideShapes Go.ChangeAt Go.RowKit
section
variable {H : Type} {enc : TypeId × Value → H} {w : World} {base : Nat} {spare : Nat → Bool} {held : Bool}
set_option maxRecDepth 100000 in
theorem arg_Od {r : Reach} {b : Nat} {v : Value} {d : DataW H} {p : List MemPlace} (h : Value.okWide Try.prog w r b 27 v) (ht : DataW.Trod enc Try.prog w base spare held 27 v d p) :
    ∃ o : Od, IsOd w o v := by
  obtain ⟨cs, rfl, _⟩ := okWide_struct Try.underlying27 h
  obtain ⟨fuel, hf⟩ := ht
  obtain ⟨t, v0, v1, v2, v3, e, h1⟩ := open_Od _ _ _ hf
  have e' : cs = #[v0, v1, v2, v3] := by
    apply Array.toList_inj.1
    exact e
  subst e'
  exact ⟨t, h1⟩
set_option maxRecDepth 100000 in
theorem arg_Sig {r : Reach} {b : Nat} {v : Value} {d : DataW H} {p : List MemPlace} (h : Value.okWide Try.prog w r b 24 v) (ht : DataW.Trod enc Try.prog w base spare held 24 v d p) :
    ∃ l : List Sy, IsSig w l v := by
  obtain ⟨cs, rfl, _⟩ := okWide_struct Try.underlying24 h
  obtain ⟨fuel, hf⟩ := ht
  obtain ⟨l, u, e, h1⟩ := open_Sig _ _ _ hf
  have e' : cs = #[u] := by
    apply Array.toList_inj.1
    exact e
  subst e'
  exact ⟨l, h1⟩
set_option maxRecDepth 100000 in
theorem arg_Li {r : Reach} {b : Nat} {v : Value} {d : DataW H} {p : List MemPlace} (h : Value.okWide Try.prog w r b 32 v) (ht : DataW.Trod enc Try.prog w base spare held 32 v d p) (hk : Rows.uptoBulk d ≤ 1048576) :
    ∃ x : Li, IsLi w x v ∧ x.size ≤ 1048576 := by
  obtain ⟨cs, rfl, _⟩ := okWide_struct Try.underlying32 h
  obtain ⟨fuel, hf⟩ := ht
  obtain ⟨x, h1, h2⟩ := open_Li _ _ _ hf
  obtain ⟨u1, u2, u3, u4, e, h3, h4⟩ := h1
  have e' : cs = #[.bool x.neg, u1, u2, u3, u4] := by
    apply Array.toList_inj.1
    exact e
  subst e'
  exact ⟨x, ⟨u1, u2, u3, u4, rfl, InT.isT h3, InT.isT h4⟩, by dsimp only at h2; omega⟩
end
end Go.Proofs.Ytmdpiafeiopimaa

namespace Go.Proofs.Ytmdpiafeiopimaa
open Go.ChangeShapes Go.WideShapes Go.ChangeAt Go.RowKit
section
variable {H : Type} {enc : TypeId × Value → H} {w : World} {base : Nat} {spare : Nat → Bool} {held : Bool}
def IsBdC (w : World) (x : Bd) (cs : List Value) : Prop := eltB.In (fun _ => True) w x cs
set_option maxRecDepth 100000 in
theorem open_Bd (fuel : Nat) (cs : List Value) (x : DataW H × List MemPlace) (h : DataW.trod enc Try.prog w base spare held fuel 44 cs = some x) : ∃ y : Bd, IsBdC w y cs ∧ y.t.size ≤ Rows.uptoBulk x.1 := by
  have hC : Try.prog.cellsOf 44 = 3 := by kernel_rfl
  have hC3 : Try.prog.cellsOf 3 = 1 := by kernel_rfl
  have hC2 : Try.prog.cellsOf 30 = 2 := by kernel_rfl
  obtain ⟨xs, n, rfl, rfl, hl, hlen, hf⟩ := DataW.trod_struct Try.underlying44 h
  rw [hC] at hl
  match xs, hlen, cs, hl with
  | [y0, y1], _, [c0, c1, c2], _ =>
    have g0 : DataW.trod enc Try.prog w base spare held n 3 [c0] = some y0 := by simpa [hC3] using hf 0 _ rfl
    have g1 : DataW.trod enc Try.prog w base spare held n 30 [c1, c2] = some y1 := by simpa [hC3, hC2] using hf 1 _ rfl
    obtain ⟨f, e0, rfl, wf⟩ := DataW.trod_int Try.underlying3 g0
    simp only [List.cons.injEq, and_true] at e0
    subst e0
    obtain ⟨t, u, v, e, h1, h2⟩ := open_T _ _ _ g1
    simp only [List.cons.injEq, and_true] at e
    obtain ⟨rfl, rfl⟩ := e
    refine ⟨⟨f, t⟩, ⟨c1, c2, rfl, i64_wf wf, h1.inTrue⟩, ?_⟩
    show t.size ≤ _
    simp only [Rows.uptoBulk, List.map_cons, List.map_nil, Rows.uptoBulkAll]; omega
set_option maxRecDepth 100000 in
theorem arg_Sub {r : Reach} {b : Nat} {v : Value} {d : DataW H} {p : List MemPlace} (h : Value.okWide Try.prog w r b 34 v) (ht : DataW.Trod enc Try.prog w base spare held 34 v d p) (hk : Rows.uptoBulk d ≤ 1048576) :
    ∃ (l : List Bd) (a : Option Addr) (c : Nat), v = .slice a l.length c ∧ IsSub w l a c ∧ l.length ≤ 1048576 ∧ ∀ x ∈ l, x.t.size ≤ 1048576 := by
  obtain ⟨a, n, c, rfl⟩ := okWide_slice Try.underlying34 h
  obtain ⟨fuel, hf⟩ := ht
  have : Inhabited Bd := ⟨default⟩
  obtain ⟨l, a', c', ds, sp, e, h1, h2, h3, h4, h5, h6⟩ := open_row Try.underlying34 (k := 3) (by kernel_rfl) (by omega) hf (R := IsBdC) (S := fun y d => y.t.size ≤ Rows.uptoBulk d) (fun n cs x hx => open_Bd n cs x hx)
  have e' : Value.slice a n c = .slice a' l.length c' := by simpa [Value.cells] using e
  have hlen : l.length ≤ 1048576 := by
    rcases h5 with ⟨_, rfl, _⟩ | e
    · simp
    · have := len_le_bulk ds
      have e2 : d = .slice ds sp := e
      rw [e2] at hk; simp only [Rows.uptoBulk] at hk; omega
  have hsz : ∀ x ∈ l, x.t.size ≤ 1048576 := fun x hx => by
    obtain ⟨i, hi, rfl⟩ := List.getElem_of_mem hx
    have hs := h6 i hi (by omega)
    rcases h5 with ⟨_, rfl, _⟩ | e
    · simp at hi
    · have := bulk_at (List.getElem_mem (show i < ds.length by omega))
      have e2 : d = .slice ds sp := e
      rw [e2] at hk; simp only [Rows.uptoBulk] at hk; omega
  exact ⟨l, a', c', e', ⟨inRow_of (E := eltB) (fun _ _ h => h) h3, h1, h2, by omega, fun x hx => by have := hsz x hx; omega⟩, hlen, hsz⟩
end
end Go.Proofs.Ytmdpiafeiopimaa
