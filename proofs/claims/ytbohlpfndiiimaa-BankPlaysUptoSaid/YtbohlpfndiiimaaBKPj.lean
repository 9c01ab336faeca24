/- What is done to a bank: acts, as they lie in memory, as a law's argument. -/
import Derived.Test.YtbohlpfndiiimaaBKPi
import Derived.Test.YtbohlpfndiiimaaBKPf
import Derived.Test.YtbohlpfndiiimaaBKPa
import Derived.WalkKit
import Derived.ProofKit
import Derived.JoinedCond
import Derived.OpenShut
import Derived.Test.YtbohlpfndiiimaaBKPd
import Derived.Test.YtbohlpfndiiimaaBKPh

/- What both banks tell of a number: the law's comparison. -/
namespace Go.Proofs.Ytbohlpfndiiimaa
open Go.RowKit Go
set_option linter.unusedVariables false
set_option linter.unusedSimpArgs false
theorem bhasN (g : Nat) (sg : List Sy) (N : List En) (Y : Nat → Prop) (n : Int) (w : World) (hh : hasB N n = false) (hK : BkS w g sg Y N) : Calls Try.prog 33 #[.pointer (some ⟨g, 0, none⟩), .int .i64 n] w (Ret fun v' w' => v' = .bool false ∧ Below w.heap.size w w') := by
 obtain ⟨Z, sa, sc, hBk⟩ := hK.is
 have z := bhasI_any g _ Z N w n hBk
 rw [hh] at z
 exact z
set_option maxRecDepth 100000 in
theorem bGet_no (g : Nat) (sg : List Sy) (N : List En) (Y : Nat → Prop) (n : Int) (w : World) (hh : hasB N n = false) (hK : BkS w g sg Y N) : Calls Try.prog 11 #[.pointer (some ⟨g, 0, none⟩), .int .i64 n] w (Ret fun v' w' => v' = .tuple #[.agg #[.int .i64 0, .slice none 0 0], .int .i64 4] ∧ Below w.heap.size w w') := by
 obtain ⟨Z, sa, sc, hBk⟩ := hK.is
 refine Calls.walk (l := [.pointer (some ⟨g, 0, none⟩), .int .i64 n]) Try.func11 rfl (by kernel_rfl) ?_
 refine WC.sub (K' := [(0, .pointer (some ⟨g, 0, none⟩)), (1, .int .i64 n)]) ⟨rfl, rfl, trivial⟩ ?_
 refine WC.seq (WC.region ?_)
 refine WL.step (post := NewBlk w 35 #[.int .i64 0, .slice none 0 0]) rfl rfl rfl (fun za zC zh zk => alloc_35 rfl (zk _ _ (newBlk _ _ _))) ?_
 rintro _ w1 ⟨g2, rfl, hg3, hB4, hb5, hz6⟩
 have hl7 : w.heap.size ≤ g2 := by omega
 refine WL.asg rfl rfl rfl rfl rfl (WL.nil (WE.next (WC.seq (WC.block (WC.seq (WC.region (WL.mv rfl rfl rfl rfl rfl ?_)))))))
 refine WL.call rfl rfl rfl (fun za zh zC => wp_call (by kernel_rfl) rfl (hv1 (zh.ev rfl))) (bok_any g _ Z N _ (BkIs.below hBk hb5)) ?_
 rintro _ w9 ⟨rfl, hq8⟩
 refine WL.val (.bool false) rfl rfl rfl (fun za zC zh zk => wp_not rfl (zh.ev rfl) zk) ?_
 refine WL.asg rfl rfl rfl rfl rfl (WL.nil (WE.next ?_))
 refine WC.condF rfl rfl ?_
 refine WC.seq (WC.region (WL.mv rfl rfl rfl rfl rfl (WL.mv rfl rfl rfl rfl rfl ?_)))
 have hb10 : Below w.heap.size w w9 := (bstep hb5 hq8)
 refine WL.call rfl rfl rfl (fun za zh zC => wp_call (by kernel_rfl) rfl (hv2 (zh.ev rfl) (zh.ev rfl))) (bhasN g sg N Y n _ hh (BkS.below hK hb10)) ?_
 rintro _ w12 ⟨rfl, hq11⟩
 refine WL.val (.bool true) rfl rfl rfl (fun za zC zh zk => wp_not rfl (zh.ev rfl) zk) ?_
 refine WL.asg rfl rfl rfl rfl rfl (WL.nil (WE.next ?_))
 refine WC.condT rfl rfl ?_
 refine WC.seq (WC.region ?_)
 refine WL.val (.agg #[.int .i64 0, .slice none 0 0]) rfl rfl rfl (fun za zC zh zk => build_35_ rfl  zk) ?_
 have hb14 : Below w1.heap.size w1 w12 := (bstep hq8 hq11)
 have hB13 := hB4.below hb14
 refine WL.step (post := fun _ w' => Upd g2 w12 w' ∧ Blk w' g2 35 #[.int .i64 0, .slice none 0 0]) rfl rfl rfl (fun za zC zh zk => st_35 rfl (zh.ev rfl) (zh.ev rfl) rfl rfl hB13 (by first | decide | simp) (fun v => zk v _ ⟨(Upd.at_ _ _ _ _).trans (Upd.at_ _ _ _ _), (hB13.set_ 0 _).set_ 1 _⟩)) ?_
 rintro v18 w15 ⟨hu16, hB17⟩
 have hb19 : Below w.heap.size w w12 := (bstep hb5 hb14)
 have hb20 := upd_below hb19 hu16 (by omega)
 refine WL.asg rfl rfl rfl rfl rfl (WL.nil (WE.next (WC.ret (WE.blockRet (WE.thenRet ?_)))))
 refine WE.retAny (v := .tuple #[.agg #[.int .i64 0, .slice none 0 0], .int .i64 4]) (fun za zh => ?_) ?_
 ·have z0 : za.tmps[4]?.getD undef = .pointer (some ⟨g2, 0, none⟩) := by rw [← Array.getD_eq_getD_getElem?]; exact zh.knows 4 _ rfl
  have y0_0 : w15.cell? ⟨g2, 0, none⟩ = some (.int .i64 0) := ((hB17.cell 0).trans rfl)
  have y0_1 : w15.cell? ⟨g2, 1, none⟩ = some (.slice none 0 0) := ((hB17.cell 1).trans rfl)
  have z1 : za.tmps[5]?.getD undef = .int .i64 4 := by rw [← Array.getD_eq_getD_getElem?]; exact zh.knows 5 _ rfl
  simp [results, Try.results11, z0, y0_0, y0_1, z1, go_sem]
 ·exact ⟨_, rfl, rfl, hb20⟩
set_option maxRecDepth 100000 in
theorem bArgs_no (g : Nat) (sg : List Sy) (N : List En) (Y : Nat → Prop) (n : Int) (w : World) (hh : hasB N n = false) (hK : BkS w g sg Y N) : Calls Try.prog 13 #[.pointer (some ⟨g, 0, none⟩), .int .i64 n] w (Ret fun v' w' => v' = .slice none 0 0 ∧ Below w.heap.size w w') := by
 obtain ⟨Z, sa, sc, hBk⟩ := hK.is
 refine Calls.walk (l := [.pointer (some ⟨g, 0, none⟩), .int .i64 n]) Try.func13 rfl (by kernel_rfl) ?_
 refine WC.sub (K' := [(0, .pointer (some ⟨g, 0, none⟩)), (1, .int .i64 n)]) ⟨rfl, rfl, trivial⟩ ?_
 refine WC.seq (WC.region (WL.asg rfl rfl rfl rfl rfl (WL.nil (WE.next (WC.seq (WC.seq (WC.region (WL.mv rfl rfl rfl rfl rfl (WL.mv rfl rfl rfl rfl rfl ?_)))))))))
 refine WL.call rfl rfl rfl (fun za zh zC => wp_call (by kernel_rfl) rfl (hv2 (zh.ev rfl) (zh.ev rfl))) (bhasN g sg N Y n _ hh (BkS.below hK (Below.refl _ _))) ?_
 rintro _ w2 ⟨rfl, hq1⟩
 refine WL.val (.bool true) rfl rfl rfl (fun za zC zh zk => wp_not rfl (zh.ev rfl) zk) ?_
 refine WL.nil (WE.next ?_)
 refine WC.condT rfl rfl ?_
 refine WC.seq (WC.region (WL.asg rfl rfl rfl rfl rfl (WL.nil (WE.next (WC.ret (WE.thenRet (WE.ret1 rfl rfl ?_)))))))
 exact ⟨_, rfl, rfl, hq1⟩
set_option maxRecDepth 100000 in
theorem bSize_no (g : Nat) (sg : List Sy) (N : List En) (Y : Nat → Prop) (n : Int) (w : World) (hh : hasB N n = false) (hK : BkS w g sg Y N) : Calls Try.prog 15 #[.pointer (some ⟨g, 0, none⟩), .int .i64 n] w (Ret fun v' w' => v' = .int .i64 0 ∧ Below w.heap.size w w') := by
 obtain ⟨Z, sa, sc, hBk⟩ := hK.is
 refine Calls.walk (l := [.pointer (some ⟨g, 0, none⟩), .int .i64 n]) Try.func15 rfl (by kernel_rfl) ?_
 refine WC.sub (K' := [(0, .pointer (some ⟨g, 0, none⟩)), (1, .int .i64 n)]) ⟨rfl, rfl, trivial⟩ ?_
 refine WC.seq (WC.region (WL.asg rfl rfl rfl rfl rfl (WL.nil (WE.next (WC.seq (WC.seq (WC.region (WL.mv rfl rfl rfl rfl rfl (WL.mv rfl rfl rfl rfl rfl ?_)))))))))
 refine WL.call rfl rfl rfl (fun za zh zC => wp_call (by kernel_rfl) rfl (hv2 (zh.ev rfl) (zh.ev rfl))) (bhasN g sg N Y n _ hh (BkS.below hK (Below.refl _ _))) ?_
 rintro _ w2 ⟨rfl, hq1⟩
 refine WL.val (.bool true) rfl rfl rfl (fun za zC zh zk => wp_not rfl (zh.ev rfl) zk) ?_
 refine WL.nil (WE.next ?_)
 refine WC.condT rfl rfl ?_
 refine WC.seq (WC.region (WL.asg rfl rfl rfl rfl rfl (WL.nil (WE.next (WC.ret (WE.thenRet (WE.ret1 rfl rfl ?_)))))))
 exact ⟨_, rfl, rfl, hq1⟩
set_option maxRecDepth 100000 in
theorem bGround_no (g : Nat) (sg : List Sy) (N : List En) (Y : Nat → Prop) (n : Int) (w : World) (hh : hasB N n = false) (hK : BkS w g sg Y N) : Calls Try.prog 16 #[.pointer (some ⟨g, 0, none⟩), .int .i64 n] w (Ret fun v' w' => v' = .bool false ∧ Below w.heap.size w w') := by
 obtain ⟨Z, sa, sc, hBk⟩ := hK.is
 refine Calls.walk (l := [.pointer (some ⟨g, 0, none⟩), .int .i64 n]) Try.func16 rfl (by kernel_rfl) ?_
 refine WC.sub (K' := [(0, .pointer (some ⟨g, 0, none⟩)), (1, .int .i64 n)]) ⟨rfl, rfl, trivial⟩ ?_
 refine WC.seq (WC.region (WL.asg rfl rfl rfl rfl rfl (WL.nil (WE.next (WC.seq ?_)))))
 refine WC.opt [(true, .val (.pointer (some ⟨g, 0, none⟩))), (true, .val (.int .i64 n)), (true, .val (.bool false)), (true, .val (.bool false)), ((true && false), .val undef), ((true && false), .val undef), ((true && false), .val undef), ((true && false), .val undef), ((true && false), .val undef), ((true && false), .val undef), ((true && false), .val undef), ((true && false), .val undef), ((true && false), .val undef), (true, .val (.bool false)), (true, .val (.bool false))] [(0, .pointer (some ⟨g, 0, none⟩)), (1, .int .i64 n)] ⟨rfl, rfl, trivial⟩ (by kernel_rfl) (by kernel_rfl) (by kernel_rfl) ?_ ?_
 ·refine ⟨⟨true, .none rfl, fun h w => optUndef h, fun zβ za zw zc => ?_⟩, ?_⟩
  ·exact wp_move rfl (zc.kn.ev rfl) ⟨_, rfl, Below.refl _ _, optDef zβ rfl⟩
  refine ⟨⟨true, .none rfl, fun h w => optUndef h, fun zβ za zw zc => ?_⟩, ?_⟩
  ·exact wp_move rfl (zc.kn.ev rfl) ⟨_, rfl, Below.refl _ _, optDef zβ rfl⟩
  refine ⟨⟨true, .none rfl, fun h w => optUndef h, fun zβ za zw zc => ?_⟩, ?_⟩
  ·exact wp_call (by kernel_rfl) rfl (hv2 ((evt za 5).trans (optVal (zc.dep 0 5 (by kernel_rfl)) rfl rfl)) ((evt za 6).trans (optVal (zc.dep 1 6 (by kernel_rfl)) rfl rfl))) (bhasN g sg N Y n _ hh (BkS.below hK zc.below)) (fun v w' h => ⟨v, rfl, h.2, optDef zβ h.1⟩)
  refine ⟨⟨true, .none rfl, fun h w => optUndef h, fun zβ za zw zc => ?_⟩, ?_⟩
  ·exact wp_move rfl ((evt za 7).trans (optVal (zc.dep 2 7 (by kernel_rfl)) rfl rfl)) ⟨_, rfl, Below.refl _ _, optDef zβ rfl⟩
  refine ⟨⟨(true && false), .yes (d := true) rfl (fun v w h => h), fun h w => optUndef h, fun zβ za zw zc => ?_⟩, ?_⟩
  ·simp at zβ
  refine ⟨⟨(true && false), .yes (d := true) rfl (fun v w h => h), fun h w => optUndef h, fun zβ za zw zc => ?_⟩, ?_⟩
  ·simp at zβ
  refine ⟨⟨(true && false), .yes (d := true) rfl (fun v w h => h), fun h w => optUndef h, fun zβ za zw zc => ?_⟩, ?_⟩
  ·simp at zβ
  refine ⟨⟨(true && false), .yes (d := true) rfl (fun v w h => h), fun h w => optUndef h, fun zβ za zw zc => ?_⟩, ?_⟩
  ·simp at zβ
  refine ⟨⟨(true && false), .yes (d := true) rfl (fun v w h => h), fun h w => optUndef h, fun zβ za zw zc => ?_⟩, ?_⟩
  ·simp at zβ
  refine ⟨⟨(true && false), .yes (d := true) rfl (fun v w h => h), fun h w => optUndef h, fun zβ za zw zc => ?_⟩, ?_⟩
  ·simp at zβ
  refine ⟨⟨(true && false), .yes (d := true) rfl (fun v w h => h), fun h w => optUndef h, fun zβ za zw zc => ?_⟩, ?_⟩
  ·simp at zβ
  refine ⟨⟨(true && false), .yes (d := true) rfl (fun v w h => h), fun h w => optUndef h, fun zβ za zw zc => ?_⟩, ?_⟩
  ·simp at zβ
  refine ⟨⟨(true && false), .yes (d := true) rfl (fun v w h => h), fun h w => optUndef h, fun zβ za zw zc => ?_⟩, ?_⟩
  ·simp at zβ
  refine ⟨⟨true, .none rfl, fun h w => optUndef h, fun zβ za zw zc => ?_⟩, ?_⟩
  ·exact wp_pickF rfl ((evt za 8).trans (optVal (zc.dep 3 8 (by kernel_rfl)) rfl rfl)) (zc.kn.ev rfl) ⟨_, rfl, Below.refl _ _, optDef zβ rfl⟩
  refine ⟨⟨true, .none rfl, fun h w => optUndef h, fun zβ za zw zc => ?_⟩, ?_⟩
  ·exact wp_assign rfl ((evt za 18).trans (optVal (zc.dep 13 18 (by kernel_rfl)) rfl rfl)) ⟨_, rfl, Below.refl _ _, optDef zβ rfl⟩
  exact trivial
 ·intro za w1 zh hb2 zu
  have zh := zh.cons (d := 4) (v := .bool false) (optVal (zu 14 4 (by kernel_rfl)) rfl rfl)
  clear zu
  refine WE.go zh ?_
  refine WE.next (WC.ret (WE.ret1 rfl rfl ?_))
  exact ⟨_, rfl, rfl, hb2⟩
set_option maxRecDepth 100000 in
theorem bUsers_no (g : Nat) (sg : List Sy) (N : List En) (Y : Nat → Prop) (n : Int) (w : World) (hh : hasB N n = false) (hK : BkS w g sg Y N) : Calls Try.prog 37 #[.pointer (some ⟨g, 0, none⟩), .int .i64 n] w (Ret fun v' w' => (∃ gl, v' = .func (.func 57) #[] #[.pointer (some ⟨gl, 0, none⟩)] ∧ w.heap.size ≤ gl ∧ Blk w' gl 31 #[.slice none 0 0]) ∧ Below w.heap.size w w') := by
 obtain ⟨Z, sa, sc, hBk⟩ := hK.is
 refine Calls.walk (l := [.pointer (some ⟨g, 0, none⟩), .int .i64 n]) Try.func37 rfl (by kernel_rfl) ?_
 refine WC.sub (K' := [(0, .pointer (some ⟨g, 0, none⟩)), (1, .int .i64 n)]) ⟨rfl, rfl, trivial⟩ ?_
 refine WC.seq (WC.region (WL.asg rfl rfl rfl rfl rfl (WL.nil (WE.next (WC.seq (WC.region ?_))))))
 refine WL.step (post := NewBlk w 31 #[.slice none 0 0]) rfl rfl rfl (fun za zC zh zk => alloc_31 rfl (zk _ _ (newBlk _ _ _))) ?_
 rintro _ w1 ⟨g2, rfl, hg3, hB4, hb5, hz6⟩
 have hl7 : w.heap.size ≤ g2 := by omega
 refine WL.nil (WE.next (WC.seq (WC.seq (WC.region (WL.mv rfl rfl rfl rfl rfl (WL.mv rfl rfl rfl rfl rfl ?_))))))
 refine WL.call rfl rfl rfl (fun za zh zC => wp_call (by kernel_rfl) rfl (hv2 (zh.ev rfl) (zh.ev rfl))) (bhasN g sg N Y n _ hh (BkS.below hK hb5)) ?_
 rintro _ w9 ⟨rfl, hq8⟩
 refine WL.nil (WE.next ?_)
 refine WC.condF rfl rfl ?_
 refine WC.skip (WE.next (WC.seq (WC.region ?_)))
 refine WL.val (.func (Fn.func 57) #[] #[.pointer (some ⟨g2, 0, none⟩)]) rfl rfl rfl (fun za zC zh zk => mkfn rfl (hv0) (hv1 (zh.ev rfl)) zk) ?_
 refine WL.asg rfl rfl rfl rfl rfl (WL.nil (WE.next (WC.ret (WE.ret1 rfl rfl ?_))))
 have hB10 := hB4.below hq8
 have hb11 : Below w.heap.size w w9 := (bstep hb5 hq8)
 exact ⟨_, rfl, ⟨g2, rfl, by omega, hB10⟩, hb11⟩
set_option maxRecDepth 100000 in
theorem users_no (g : Nat) (sg : List Sy) (N : List En) (Y : Nat → Prop) (n leave : Int) (w : World) (hh : hasB N n = false) (hK : BkS w g sg Y N) : Calls Try.prog 17 #[.pointer (some ⟨g, 0, none⟩), .int .i64 n, .int .i64 leave] w (Ret fun v' w' => v' = .slice none 0 0 ∧ Below w.heap.size w w') := by
 skip
 refine Calls.walk (l := [.pointer (some ⟨g, 0, none⟩), .int .i64 n, .int .i64 leave]) Try.func17 rfl (by kernel_rfl) ?_
 refine WC.sub (K' := [(0, .pointer (some ⟨g, 0, none⟩)), (1, .int .i64 n), (2, .int .i64 leave)]) ⟨rfl, rfl, rfl, trivial⟩ ?_
 refine WC.seq (WC.region ?_)
 refine WL.step (post := NewBlk w 3 #[.int .i64 leave]) rfl rfl rfl (fun za zC zh zk => box_3 rfl (zh.ev rfl) (zk _ _ (newBlk _ _ _))) ?_
 rintro _ w1 ⟨g2, rfl, hg3, hB4, hb5, hz6⟩
 have hl7 : w.heap.size ≤ g2 := by omega
 refine WL.asg rfl rfl rfl rfl rfl (WL.nil (WE.next (WC.seq (WC.region ?_))))
 refine WL.step (post := NewBlk w1 31 #[.slice none 0 0]) rfl rfl rfl (fun za zC zh zk => alloc_31 rfl (zk _ _ (newBlk _ _ _))) ?_
 rintro _ w8 ⟨g9, rfl, hg10, hB11, hb12, hz13⟩
 have hl14 : g2 < g9 := by have z1 := hB4.lt; omega
 have hl15 : w.heap.size ≤ g9 := by have z2 := (hb5).size; omega
 refine WL.nil (WE.next (WC.seq (WC.region (WL.mv rfl rfl rfl rfl rfl (WL.mv rfl rfl rfl rfl rfl ?_)))))
 have hB20 := hB4.below hb12
 have hl21 := hB20.lt
 have hl22 := hB11.lt
 have hb23 : Below w.heap.size w w8 := (bstep hb5 hb12)
 refine WL.call rfl rfl rfl (fun za zh zC => wp_call (by kernel_rfl) rfl (hv2 (zh.ev rfl) (zh.ev rfl))) (bUsers_no g sg N Y n _ hh (BkS.below hK hb23)) ?_
 rintro _ w24 ⟨⟨gl16, rfl, hg18, hB17⟩, hb19⟩
 have hIT : UIt w24 w8.heap.size w24.heap.size gl16 [] none 0 := ⟨⟨hg18, hB17.lt⟩, Nat.le_refl _, hB17, InRow.nil⟩
 have hsz12 : w8.heap.size ≤ w24.heap.size := (hb19).size
 refine WL.asg rfl rfl rfl rfl rfl (WL.nil (WE.next (WC.seq (WC.seq (WC.region (WL.mv rfl rfl rfl rfl rfl ?_))))))
 refine WL.val (.bool false) rfl rfl rfl (fun za zC zh zk => eqlfn_85 rfl (zh.ev rfl) (zh.ev rfl) zk) ?_
 refine WL.nil (WE.next ?_)
 refine WC.condF rfl rfl ?_
 refine WC.skip (WE.next (WC.seq (WC.seq (WC.region (WL.mv rfl rfl rfl rfl rfl (WL.nil (WE.next (WC.block ?_))))))))
 have hwn1 : w.heap.size ≤ w8.heap.size := by omega
 refine WC.range (γ := Unit) (encs := fun zx => [.int .i64 (((zx : Nat) : Int))]) ((fun b => b < w8.heap.size ∨ w24.heap.size ≤ b)) rfl (by kernel_rfl) (by kernel_rfl) (users_seq (l := []) _ (fun b h1 h2 h => by omega) (by simp) hIT) ((fun l hl => .inr (Nat.le_trans ((Nat.le_refl _)) hl))) ((Below.refl _ _)) (fun _ => rfl) (fun x zy => [(0, .pointer (some ⟨g, 0, none⟩)), (1, .int .i64 n), (2, .int .i64 leave), (5, .pointer (some ⟨g2, 0, none⟩)), (6, .slice none 0 0), (7, .pointer (some ⟨g9, 0, none⟩)), (8, .func (.func 57) #[] #[.pointer (some ⟨gl16, 0, none⟩)]), (9, .int .i64 (((x : Nat) : Int))), (14, .bool false), (15, .func (.func 57) #[] #[.pointer (some ⟨gl16, 0, none⟩)])]) (fun x zy w25 => True) (fun pre w25 => 0 = 0 ∧ w24.heap.size ≤ (w25).heap.size ∧ Below w.heap.size w w25 ∧ Blk w25 g2 3 #[.int .i64 leave] ∧ Blk w25 g9 31 #[.slice none 0 0]) (fun zc pre w25 => False) (fun pre w1 w2 t h => (by obtain ⟨z0, z1, z2, z3, z4⟩ := h; exact ⟨z0, Nat.le_trans z1 t.size, below_turn z2 t (Nat.le_trans hb23.size hb19.size), blk_turn z3 t, blk_turn z4 t⟩)) (fun zc pre w1 w2 t h => h.elim) (fun x zy w1 w2 t h => h) ?_ ?_ ?_ ?_ ?_
 ·have hb26 : Below w.heap.size w w24 := (bstep hb23 hb19)
  have hB27 := hB20.below hb19
  have hB28 := hB11.below hb19
  exact ⟨rfl, (Nat.le_refl _), hb26, hB27, hB28⟩
 ·rintro zl29 pre x w30 ⟨_, hzs, hb31, _, _⟩
  refine WC.sub (K' := [(0, .pointer (some ⟨g, 0, none⟩)), (1, .int .i64 n), (2, .int .i64 leave), (5, .pointer (some ⟨g2, 0, none⟩)), (6, .slice none 0 0), (7, .pointer (some ⟨g9, 0, none⟩)), (8, .func (.func 57) #[] #[.pointer (some ⟨gl16, 0, none⟩)]), (14, .bool false), (15, .func (.func 57) #[] #[.pointer (some ⟨gl16, 0, none⟩)]), (16, .int .i64 (((x : Nat) : Int)))]) ⟨rfl, rfl, rfl, rfl, rfl, rfl, rfl, rfl, rfl, rfl, trivial⟩ ?_
  refine WC.region (WL.asg rfl rfl rfl rfl rfl (WL.nil ?_))
  exact fun _ zk => ⟨(Below.refl _ _), (), zk.sub ⟨rfl, rfl, rfl, rfl, rfl, rfl, rfl, rfl, rfl, rfl, trivial⟩, trivial⟩
 ·rintro zl32 pre x zy w33 ⟨_, hz38, hb35, hB36, hB37⟩ _ hl34
  exact absurd hl34 (Nat.not_lt_zero _)
 ·rintro D39 xs40 w41 hD42 hS43 ⟨_, hz48, hb45, hB46, hB47⟩ hw44
  have hx0 := hS43
  refine WE.blockNormal (WE.next (WC.seq (WC.region ?_)))
  refine WL.val _ rfl rfl rfl (fun za zC zh zk => ld_31 rfl (zh.ev rfl) ((hB47.cell 0).trans rfl) zk) ?_
  refine WL.asg rfl rfl rfl rfl rfl (WL.nil (WE.next (WC.ret ?_)))
  obtain ⟨w49, hs50, hc51, hk52⟩ := shut_all [D39] w41 (by intro D hD; simp only [List.mem_cons, List.not_mem_nil, or_false] at hD; rcases hD with rfl <;> assumption) (by simp <;> omega)
  have hB53 : Blk w49 g2 3 #[.int .i64 leave] := hk52 _ _ hB46 rfl
  have hB54 : Blk w49 g9 31 #[.slice none 0 0] := hk52 _ _ hB47 rfl
  have hb55 := chg_below hb45 hc51 (fun b hb => by simp only [List.mem_cons, List.not_mem_nil, or_false]; omega)
  refine WE.retS1 rfl rfl hs50 ?_
  exact ⟨_, rfl, rfl, hb55⟩
 ·rintro D56 zc57 pre58 w59 hD60 hS61 hI62 hw63
  exact hI62.elim
set_option maxRecDepth 100000 in
theorem told_no (g gr : Nat) (sg : List Sy) (N : List En) (Y Yr : Nat → Prop) (n : Int) (w : World) (hh : hasB N n = false) (hK : BkS w g sg Y N) (hR : RbS w gr sg Yr N) : Calls Try.prog 22 #[.pointer (some ⟨g, 0, none⟩), .pointer (some ⟨gr, 0, none⟩), .int .i64 n] w (Ret fun v' w' => v' = .bool true ∧ Below w.heap.size w w') := by
 have hRn : ∀ u, RbS u gr sg Yr N → Calls Try.prog 41 #[.pointer (some ⟨gr, 0, none⟩), .int .i64 n] u (Ret fun v' w' => v' = .bool false ∧ Below u.heap.size u w') := fun u h => by
  have z := rbhas_any gr sg N Yr n u h
  rw [hh] at z
  exact z
 refine Calls.walk (l := [.pointer (some ⟨g, 0, none⟩), .pointer (some ⟨gr, 0, none⟩), .int .i64 n]) Try.func22 rfl (by kernel_rfl) ?_
 refine WC.sub (K' := [(0, .pointer (some ⟨g, 0, none⟩)), (1, .pointer (some ⟨gr, 0, none⟩)), (2, .int .i64 n)]) ⟨rfl, rfl, rfl, trivial⟩ ?_
 refine WC.seq (WC.region (WL.asg rfl rfl rfl rfl rfl (WL.nil (WE.next (WC.seq (WC.region (WL.mv rfl rfl rfl rfl rfl (WL.mv rfl rfl rfl rfl rfl ?_))))))))
 refine WL.call rfl rfl rfl (fun za zh zC => wp_call (by kernel_rfl) rfl (hv2 (zh.ev rfl) (zh.ev rfl))) (bGet_no g sg N Y n _ hh (BkS.below hK (Below.refl _ _))) ?_
 rintro _ w2 ⟨rfl, hq1⟩
 refine WL.mv rfl rfl rfl rfl rfl ?_
 refine WL.val (.agg #[.int .i64 0, .slice none 0 0]) rfl rfl rfl (fun za zC zh zk => ext2_0 rfl (zh.ev rfl) zk) ?_
 refine WL.val (.int .i64 4) rfl rfl rfl (fun za zC zh zk => ext2_1 rfl (zh.ev rfl) zk) ?_
 refine WL.step (post := NewBlk w2 35 #[.int .i64 0, .slice none 0 0]) rfl rfl rfl (fun za zC zh zk => alloc_35 rfl (zk _ _ (newBlk _ _ _))) ?_
 rintro _ w3 ⟨g4, rfl, hg5, hB6, hb7, hz8⟩
 have hl9 : w.heap.size ≤ g4 := by have z2 := (hq1).size; omega
 refine WL.step (post := fun _ w' => Upd g4 w3 w' ∧ Blk w' g4 35 #[.int .i64 0, .slice none 0 0]) rfl rfl rfl (fun za zC zh zk => st_35 rfl (zh.ev rfl) (zh.ev rfl) rfl rfl hB6 (by first | decide | simp) (fun v => zk v _ ⟨(Upd.at_ _ _ _ _).trans (Upd.at_ _ _ _ _), (hB6.set_ 0 _).set_ 1 _⟩)) ?_
 rintro v13 w10 ⟨hu11, hB12⟩
 have hb14 : Below w.heap.size w w3 := (bstep hq1 hb7)
 have hb15 := upd_below hb14 hu11 (by omega)
 refine WL.asg rfl rfl rfl rfl rfl (WL.nil (WE.next (WC.seq (WC.seq (WC.region (WL.mv rfl rfl rfl rfl rfl (WL.mv rfl rfl rfl rfl rfl ?_)))))))
 refine WL.call rfl rfl rfl (fun za zh zC => wp_call (by kernel_rfl) rfl (hv2 (zh.ev rfl) (zh.ev rfl))) (hRn _ (RbS.below hR hb15)) ?_
 rintro _ w17 ⟨rfl, hq16⟩
 refine WL.val (.bool true) rfl rfl rfl (fun za zC zh zk => wp_not rfl (zh.ev rfl) zk) ?_
 refine WL.nil (WE.next ?_)
 refine WC.condT rfl rfl ?_
 refine WC.seq (WC.region (WL.mv rfl rfl rfl rfl rfl ?_))
 refine WL.val (.bool true) rfl rfl rfl (fun za zC zh zk => eql_27 rfl (zh.ev rfl) (zh.ev rfl) zk) ?_
 refine WL.mv rfl rfl rfl rfl rfl ?_
 refine WL.want (d := 23) rfl rfl rfl ?_
 refine WL.val _ rfl rfl rfl (fun za zC zh zk => fld_35_0 rfl (zh.ev rfl) zk) ?_
 refine WL.want (d := 23) rfl rfl rfl ?_
 have hB18 := hB12.below hq16
 refine WL.val _ rfl rfl rfl (fun za zC zh zk => ld_3 rfl (zh.ev rfl) ((hB18.cell 0).trans rfl) zk) ?_
 refine WL.want (d := 23) rfl rfl rfl ?_
 refine WL.val (.bool true) rfl rfl rfl (fun za zC zh zk => eql_3 rfl (zh.ev rfl) (zh.ev rfl) zk) ?_
 refine WL.val (.bool true) rfl rfl rfl (fun za zC zh zk => wp_pickT rfl (zh.ev rfl) (zh.ev rfl) zk) ?_
 refine WL.mv rfl rfl rfl rfl rfl ?_
 refine WL.want (d := 28) rfl rfl rfl ?_
 refine WL.val _ rfl rfl rfl (fun za zC zh zk => fld_35_1 rfl (zh.ev rfl) zk) ?_
 refine WL.want (d := 28) rfl rfl rfl ?_
 refine WL.val _ rfl rfl rfl (fun za zC zh zk => ld_25 rfl (zh.ev rfl) ((hB18.cell 1).trans rfl) zk) ?_
 refine WL.want (d := 28) rfl rfl rfl ?_
 refine WL.val (.int .i64 0) rfl rfl rfl (fun za zC zh zk => len_25 rfl (zh.ev rfl) zk) ?_
 refine WL.want (d := 28) rfl rfl rfl ?_
 refine WL.val (.bool true) rfl rfl rfl (fun za zC zh zk => eql_3 rfl (zh.ev rfl) (zh.ev rfl) zk) ?_
 refine WL.val (.bool true) rfl rfl rfl (fun za zC zh zk => wp_pickT rfl (zh.ev rfl) (zh.ev rfl) zk) ?_
 refine WL.mv rfl rfl rfl rfl rfl ?_
 refine WL.want (d := 34) rfl rfl rfl ?_
 refine WL.mv rfl rfl rfl rfl rfl ?_
 refine WL.want (d := 34) rfl rfl rfl ?_
 refine WL.mv rfl rfl rfl rfl rfl ?_
 refine WL.want (d := 34) rfl rfl rfl ?_
 have hb19 : Below w.heap.size w w17 := (bstep hb15 hq16)
 refine WL.call rfl rfl rfl (fun za zh zC => wp_call (by kernel_rfl) rfl (hv2 (zh.ev rfl) (zh.ev rfl))) (bArgs_no g sg N Y n _ hh (BkS.below hK hb19)) ?_
 rintro _ w21 ⟨rfl, hq20⟩
 refine WL.want (d := 34) rfl rfl rfl ?_
 refine WL.val (.int .i64 0) rfl rfl rfl (fun za zC zh zk => len_31 rfl (zh.ev rfl) zk) ?_
 refine WL.want (d := 34) rfl rfl rfl ?_
 refine WL.val (.bool true) rfl rfl rfl (fun za zC zh zk => eql_3 rfl (zh.ev rfl) (zh.ev rfl) zk) ?_
 refine WL.val (.bool true) rfl rfl rfl (fun za zC zh zk => wp_pickT rfl (zh.ev rfl) (zh.ev rfl) zk) ?_
 refine WL.mv rfl rfl rfl rfl rfl ?_
 refine WL.want (d := 41) rfl rfl rfl ?_
 refine WL.mv rfl rfl rfl rfl rfl ?_
 refine WL.want (d := 41) rfl rfl rfl ?_
 refine WL.mv rfl rfl rfl rfl rfl ?_
 refine WL.want (d := 41) rfl rfl rfl ?_
 have hb22 : Below w.heap.size w w21 := (bstep hb19 hq20)
 refine WL.call rfl rfl rfl (fun za zh zC => wp_call (by kernel_rfl) rfl (hv2 (zh.ev rfl) (zh.ev rfl))) (bSize_no g sg N Y n _ hh (BkS.below hK hb22)) ?_
 rintro _ w24 ⟨rfl, hq23⟩
 refine WL.want (d := 41) rfl rfl rfl ?_
 refine WL.val (.bool true) rfl rfl rfl (fun za zC zh zk => eql_3 rfl (zh.ev rfl) (zh.ev rfl) zk) ?_
 refine WL.val (.bool true) rfl rfl rfl (fun za zC zh zk => wp_pickT rfl (zh.ev rfl) (zh.ev rfl) zk) ?_
 refine WL.mv rfl rfl rfl rfl rfl ?_
 refine WL.want (d := 47) rfl rfl rfl ?_
 refine WL.mv rfl rfl rfl rfl rfl ?_
 refine WL.want (d := 47) rfl rfl rfl ?_
 refine WL.mv rfl rfl rfl rfl rfl ?_
 refine WL.want (d := 47) rfl rfl rfl ?_
 have hb25 : Below w.heap.size w w24 := (bstep hb22 hq23)
 refine WL.call rfl rfl rfl (fun za zh zC => wp_call (by kernel_rfl) rfl (hv2 (zh.ev rfl) (zh.ev rfl))) (bGround_no g sg N Y n _ hh (BkS.below hK hb25)) ?_
 rintro _ w27 ⟨rfl, hq26⟩
 refine WL.want (d := 47) rfl rfl rfl ?_
 refine WL.val (.bool true) rfl rfl rfl (fun za zC zh zk => wp_not rfl (zh.ev rfl) zk) ?_
 refine WL.val (.bool true) rfl rfl rfl (fun za zC zh zk => wp_pickT rfl (zh.ev rfl) (zh.ev rfl) zk) ?_
 refine WL.mv rfl rfl rfl rfl rfl ?_
 refine WL.want (d := 53) rfl rfl rfl ?_
 refine WL.mv rfl rfl rfl rfl rfl ?_
 refine WL.want (d := 53) rfl rfl rfl ?_
 refine WL.mv rfl rfl rfl rfl rfl ?_
 refine WL.want (d := 53) rfl rfl rfl ?_
 have hb28 : Below w.heap.size w w27 := (bstep hb25 hq26)
 refine WL.call rfl rfl rfl (fun za zh zC => wp_call (by kernel_rfl) rfl (hv3 (zh.ev rfl) (zh.ev rfl) (zh.ev rfl))) (users_no g sg N Y n (-1) _ hh (BkS.below hK hb28)) ?_
 rintro _ w30 ⟨rfl, hq29⟩
 refine WL.want (d := 53) rfl rfl rfl ?_
 refine WL.val (.int .i64 0) rfl rfl rfl (fun za zC zh zk => len_31 rfl (zh.ev rfl) zk) ?_
 refine WL.want (d := 53) rfl rfl rfl ?_
 refine WL.val (.bool true) rfl rfl rfl (fun za zC zh zk => eql_3 rfl (zh.ev rfl) (zh.ev rfl) zk) ?_
 refine WL.val (.bool true) rfl rfl rfl (fun za zC zh zk => wp_pickT rfl (zh.ev rfl) (zh.ev rfl) zk) ?_
 refine WL.asg rfl rfl rfl rfl rfl ?_
 refine WL.nil (WE.sub (K' := [(0, .pointer (some ⟨g, 0, none⟩)), (1, .pointer (some ⟨gr, 0, none⟩)), (2, .int .i64 n), (6, .bool true), (7, .pointer (some ⟨g4, 0, none⟩)), (8, .int .i64 4), (20, .bool true)]) ⟨rfl, rfl, rfl, rfl, rfl, rfl, rfl, trivial⟩ ?_)
 refine WE.next (WC.ret (WE.thenRet (WE.ret1 rfl rfl ?_)))
 have hb31 : Below w.heap.size w w30 := (bstep hb28 hq29)
 exact ⟨_, rfl, rfl, hb31⟩
set_option maxRecDepth 100000 in
theorem nsame_eq (l : List Nat) (S S' : Nat → Prop) (w : World) (a b : Option Addr) (c d : Nat) (hz : l.length ≤ 4294967296) (hl : InRow eltN S w l a) (hm : InRow eltN S' w l b) : Calls Try.prog 43 #[.slice a l.length c, .slice b l.length d] w (Ret fun v' w' => v' = .bool true ∧ Below w.heap.size w w') := by
 obtain ⟨lb, lo, hla, hlc⟩ := InRow.openN hl
 obtain ⟨mb, mo, hma, hmc⟩ := InRow.openN hm
 refine Calls.walk (l := [.slice a l.length c, .slice b l.length d]) Try.func43 rfl (by kernel_rfl) ?_
 refine WC.sub (K' := [(0, .slice a l.length c), (1, .slice b l.length d)]) ⟨rfl, rfl, trivial⟩ ?_
 refine WC.seq (WC.region (WL.asg rfl rfl rfl rfl rfl (WL.nil (WE.next (WC.seq (WC.seq (WC.region (WL.mv rfl rfl rfl rfl rfl ?_))))))))
 refine WL.val (.int .i64 (((l.length : Nat) : Int))) rfl rfl rfl (fun za zC zh zk => len_31 rfl (zh.ev rfl) zk) ?_
 refine WL.mv rfl rfl rfl rfl rfl ?_
 refine WL.val (.int .i64 (((l.length : Nat) : Int))) rfl rfl rfl (fun za zC zh zk => len_31 rfl (zh.ev rfl) zk) ?_
 refine WL.val (.bool (((((l.length : Nat) : Int) : Int) != (((l.length : Nat) : Int) : Int)))) rfl rfl rfl (fun za zC zh zk => neq_3 rfl (zh.ev rfl) (zh.ev rfl) zk) ?_
 refine WL.nil (WE.next ?_)
 refine WC.condF rfl ((by simp)) ?_
 refine WC.skip (WE.next (WC.seq (WC.seq (WC.region (WL.asg rfl rfl rfl rfl rfl (WL.nil (WE.next (WC.block ?_))))))))
 refine WC.loop (X := Nat) (fun k => l.length - k) (fun k => [(0, .slice a l.length c), (1, .slice b l.length d), (5, .int .i64 (((k : Nat) : Int))), (10, .bool (((((l.length : Nat) : Int) : Int) != (((l.length : Nat) : Int) : Int))))]) (fun k w1 => k ≤ l.length ∧ Below w.heap.size w w1) 0 ⟨rfl, rfl, rfl, rfl, trivial⟩ ?_ ?_
 ·exact ⟨Nat.zero_le _, (Below.refl _ _)⟩
 ·rintro k w1 ⟨hk, hb2⟩
  refine WC.seq (WC.seq (WC.region (WL.mv rfl rfl rfl rfl rfl (WL.mv rfl rfl rfl rfl rfl ?_))))
  refine WL.val (.int .i64 (((l.length : Nat) : Int))) rfl rfl rfl (fun za zC zh zk => len_31 rfl (zh.ev rfl) zk) ?_
  refine WL.val (.bool ((decide ((((k : Nat) : Int) : Int) < (((l.length : Nat) : Int) : Int))))) rfl rfl rfl (fun za zC zh zk => lss_3 rfl (zh.ev rfl) (zh.ev rfl) zk) ?_
  refine WL.nil (WE.next ?_)
  refine WC.cond rfl (fun h3 => ?_) (fun h3 => ?_)
  ·have h3 : (((k : Nat) : Int) : Int) < (((l.length : Nat) : Int) : Int) := by simpa using h3
   refine WC.skip (WE.next (WC.seq (WC.block (WC.seq ?_))))
   refine WC.opt [(true, .val (.slice a l.length c)), (true, .val (.int .i64 (((k : Nat) : Int)))), (true, .val (.pointer (some ⟨lb, lo + k, none⟩))), (true, .val (.int .i64 ((((aget l k) : Nat) : Int)))), (true, .val (.slice b l.length d)), (true, .val (.int .i64 (((k : Nat) : Int)))), (true, .val (.pointer (some ⟨mb, mo + k, none⟩))), (true, .val (.int .i64 ((((aget l k) : Nat) : Int)))), (true, .val (.bool ((((((aget l k) : Nat) : Int) : Int) != ((((aget l k) : Nat) : Int) : Int)))))] [(0, .slice a l.length c), (1, .slice b l.length d), (5, .int .i64 (((k : Nat) : Int))), (10, .bool (((((l.length : Nat) : Int) : Int) != (((l.length : Nat) : Int) : Int)))), (14, .bool ((decide ((((k : Nat) : Int) : Int) < (((l.length : Nat) : Int) : Int)))))] ⟨rfl, rfl, rfl, rfl, rfl, trivial⟩ (by kernel_rfl) (by kernel_rfl) (by kernel_rfl) ?_ ?_
   ·refine ⟨⟨true, .none rfl, fun h w => optUndef h, fun zβ za zw zc => ?_⟩, ?_⟩
    ·exact wp_move rfl (zc.kn.ev rfl) ⟨_, rfl, Below.refl _ _, optDef zβ rfl⟩
    refine ⟨⟨true, .none rfl, fun h w => optUndef h, fun zβ za zw zc => ?_⟩, ?_⟩
    ·exact wp_move rfl (zc.kn.ev rfl) ⟨_, rfl, Below.refl _ _, optDef zβ rfl⟩
    refine ⟨⟨true, .none rfl, fun h w => optUndef h, fun zβ za zw zc => ?_⟩, ?_⟩
    ·exact ix_31 (k := k) rfl ((evt za 17).trans (optVal (zc.dep 0 17 (by kernel_rfl)) rfl rfl)) (hla k (by first | omega | (simp; omega))) ((evt za 18).trans (optVal (zc.dep 1 18 (by kernel_rfl)) rfl rfl)) (by first | omega | (simp; omega)) ⟨_, rfl, Below.refl _ _, optDef zβ rfl⟩
    refine ⟨⟨true, .none rfl, fun h w => optUndef h, fun zβ za zw zc => ?_⟩, ?_⟩
    ·exact ld_3 rfl ((evt za 19).trans (optVal (zc.dep 2 19 (by kernel_rfl)) rfl rfl)) (bkeeps (bstep hb2 zc.below) _ _ (hlc k (by first | omega | (simp; omega)))) ⟨_, rfl, Below.refl _ _, optDef zβ rfl⟩
    refine ⟨⟨true, .none rfl, fun h w => optUndef h, fun zβ za zw zc => ?_⟩, ?_⟩
    ·exact wp_move rfl (zc.kn.ev rfl) ⟨_, rfl, Below.refl _ _, optDef zβ rfl⟩
    refine ⟨⟨true, .none rfl, fun h w => optUndef h, fun zβ za zw zc => ?_⟩, ?_⟩
    ·exact wp_move rfl (zc.kn.ev rfl) ⟨_, rfl, Below.refl _ _, optDef zβ rfl⟩
    refine ⟨⟨true, .none rfl, fun h w => optUndef h, fun zβ za zw zc => ?_⟩, ?_⟩
    ·exact ix_31 (k := k) rfl ((evt za 21).trans (optVal (zc.dep 4 21 (by kernel_rfl)) rfl rfl)) (hma k (by first | omega | (simp; omega))) ((evt za 22).trans (optVal (zc.dep 5 22 (by kernel_rfl)) rfl rfl)) (by first | omega | (simp; omega)) ⟨_, rfl, Below.refl _ _, optDef zβ rfl⟩
    refine ⟨⟨true, .none rfl, fun h w => optUndef h, fun zβ za zw zc => ?_⟩, ?_⟩
    ·exact ld_3 rfl ((evt za 23).trans (optVal (zc.dep 6 23 (by kernel_rfl)) rfl rfl)) (bkeeps (bstep hb2 zc.below) _ _ (hmc k (by first | omega | (simp; omega)))) ⟨_, rfl, Below.refl _ _, optDef zβ rfl⟩
    refine ⟨⟨true, .none rfl, fun h w => optUndef h, fun zβ za zw zc => ?_⟩, ?_⟩
    ·exact neq_3 rfl ((evt za 20).trans (optVal (zc.dep 3 20 (by kernel_rfl)) rfl rfl)) ((evt za 24).trans (optVal (zc.dep 7 24 (by kernel_rfl)) rfl rfl)) ⟨_, rfl, Below.refl _ _, optDef zβ rfl⟩
    exact trivial
   ·intro za w4 zh hb5 zu
    have zh := zh.cons (d := 25) (v := .bool ((((((aget l k) : Nat) : Int) : Int) != ((((aget l k) : Nat) : Int) : Int)))) (optVal (zu 8 25 (by kernel_rfl)) rfl rfl)
    clear zu
    refine WE.go zh ?_
    refine WE.next ?_
    refine WC.condF rfl ((by simp)) ?_
    refine WC.skip (WE.blockNormal (WE.next (WC.region (WL.mv rfl rfl rfl rfl rfl ?_))))
    refine WL.val (.int .i64 ((((k + 1) : Nat) : Int))) rfl rfl rfl (fun za zC zh zk => addb_3 rfl (zh.ev rfl) (zh.ev rfl) (wrap_eq (by omega) (by omega) (by omega)) zk) ?_
    refine WL.asg rfl rfl rfl rfl rfl (WL.nil ?_)
    refine WE.round (k + 1) ⟨rfl, rfl, rfl, rfl, trivial⟩ ?_ ?_
    ·have hb6 : Below w.heap.size w w4 := (bstep hb2 hb5)
     exact ⟨by omega, hb6⟩
    ·omega
  ·have h3 : ¬ ((((k : Nat) : Int) : Int) < (((l.length : Nat) : Int) : Int)) := by simpa using h3
   refine WC.exit (WE.thenExit (WE.thenExit (WE.blockIs rfl (WE.next (WC.seq (WC.region (WL.asg rfl rfl rfl rfl rfl (WL.nil (WE.next (WC.ret (WE.ret1 rfl rfl ?_)))))))))))
   exact ⟨_, rfl, rfl, hb2⟩
/-- A row of numbers. -/
def NsV (l : List Nat) (v : Value) (w : World) : Prop := ∃ ra rc, v = .slice ra l.length rc ∧ InRow eltN (fun _ => True) w l ra
theorem NsV.below {l : List Nat} {v : Value} {w w' : World} (h : NsV l v w) (hb : Below w.heap.size w w') : NsV l v w' := by
 obtain ⟨ra, rc, e, h1⟩ := h
 exact ⟨ra, rc, e, h1.below hb⟩
theorem NsAt.any {l : List Nat} {w : World} {B : Nat} {a : Option Addr} (h : NsAt w B l a) : InRow eltN (fun _ => True) w l a := h.row.mono (by decide) (fun _ _ _ => trivial)
theorem NsV.of {l : List Nat} {v : Value} {w : World} {B : Nat} (h : ∃ ra rc, v = .slice ra l.length rc ∧ NsAt w B l ra) : NsV l v w := by
 obtain ⟨ra, rc, e, h1⟩ := h
 exact ⟨ra, rc, e, h1.any⟩
theorem usAll (N : List En) (k : Nat) : usI (-1) (usersE N k) = usersE N k := usI_all (by omega)
theorem us1 (l : List Nat) : usI 1 l = l.take 1 := by unfold usI; rw [if_pos (by decide)]; rfl
theorem sameT {s t : T} (h : s = t) (w : World) (v u : Value) (hv : IsT w s v) (hu : IsT w t u) : Calls Try.prog 10 #[v, u] w (Ret fun v' w' => v' = .bool true ∧ Below w.heap.size w w') := by
 have z := ret_of (rsame_any s t w v u hv hu)
 rw [h, T.same_refl] at z
 exact z
theorem sizeT {s t : T} (h : s = t) (w : World) (v : Value) (hz : t.size ≤ 4294967296) (hv : IsT w s v) : Calls Try.prog 45 #[v] w (Ret fun v' w' => v' = .int .i64 ((t.size : Nat) : Int) ∧ Below w.heap.size w w') := by
 subst h
 exact rsize_any s w v hz hv
def VarV (b : Bool) (v : Value) (_ : World) : Prop := ∃ a n c, v = .slice a n c ∧ (((n : Nat) : Int) == 0) = b
def LenV (b : Bool) (v : Value) (_ : World) : Prop := ∃ n : Nat, v = .int .i64 ((n : Nat) : Int) ∧ (((n : Nat) : Int) == 0) = b
theorem jUsersK {w : World} {B g : Nat} {sg : List Sy} {N : List En} {X : Nat → Prop} (k : Nat) (hNl : N.length ≤ 1000000) (hk : k < N.length) (h : BkSJ w B g sg N X) : Calls Try.prog 17 #[.pointer (some ⟨g, 0, none⟩), .int .i64 (k : Int), .int .i64 (-1)] w (Ret fun v' w' => (∃ ra rc, v' = .slice ra (usersE N k).length rc ∧ NsAt w' w.heap.size (usersE N k) ra) ∧ Below w.heap.size w w') := by
 have z := jUsers k (-1) hNl hk h
 rw [usAll] at z
 exact z
theorem jUsers1 {w : World} {B g : Nat} {sg : List Sy} {N : List En} {X : Nat → Prop} (k : Nat) (hNl : N.length ≤ 1000000) (hk : k < N.length) (h : BkSJ w B g sg N X) : Calls Try.prog 17 #[.pointer (some ⟨g, 0, none⟩), .int .i64 (k : Int), .int .i64 1] w (Ret fun v' w' => (∃ ra rc, v' = .slice ra ((usersE N k).take 1).length rc ∧ NsAt w' w.heap.size ((usersE N k).take 1) ra) ∧ Below w.heap.size w w') := by
 have z := jUsers k 1 hNl hk h
 rw [us1] at z
 exact z
set_option maxRecDepth 100000 in
theorem told_yes (g gr : Nat) (sg : List Sy) (N : List En) (Y Yr : Nat → Prop) (k : Nat) (w : World) (hNl : N.length ≤ 900000) (hk : k < N.length) (hK : BkS w g sg Y N) (hR : RbS w gr sg Yr N) : Calls Try.prog 22 #[.pointer (some ⟨g, 0, none⟩), .pointer (some ⟨gr, 0, none⟩), .int .i64 (k : Int)] w (Ret fun v' w' => v' = .bool true ∧ Below w.heap.size w w') := by
 have hJ : BkSJ w 0 g sg N (fun _ => False) := ⟨Y, hK, fun _ _ => Nat.zero_le _, fun _ q => q.elim⟩
 have hok := hK.ok
 have hz := (hok.at_ hk).1
 have htk := tms_get hk
 have hul : (usersE N k).length ≤ 1000000 := by have z := usersT_len N k N.length; rw [usersT_end] at z; omega
 have hal : (eget N k).args.length ≤ 300 := by
  have z := hz
  rw [tmE_eq hok.ok hk, T.size] at z
  have z2 := len_le_sizeL ((eget N k).args.map (tmE N))
  rw [List.length_map] at z2; omega
 obtain ⟨S9, sa, sc, ta, tc, hO⟩ := id hR
 have htl := tms_len N
 refine Calls.walk (l := [.pointer (some ⟨g, 0, none⟩), .pointer (some ⟨gr, 0, none⟩), .int .i64 (((k : Nat) : Int))]) Try.func22 rfl (by kernel_rfl) ?_
 refine WC.sub (K' := [(0, .pointer (some ⟨g, 0, none⟩)), (1, .pointer (some ⟨gr, 0, none⟩)), (2, .int .i64 (((k : Nat) : Int)))]) ⟨rfl, rfl, rfl, trivial⟩ ?_
 refine WC.seq (WC.region (WL.asg rfl rfl rfl rfl rfl (WL.nil (WE.next (WC.seq (WC.region (WL.mv rfl rfl rfl rfl rfl (WL.mv rfl rfl rfl rfl rfl ?_))))))))
 refine WL.call rfl rfl rfl (fun za zh zC => wp_call (by kernel_rfl) rfl (hv2 (zh.ev rfl) (zh.ev rfl))) (jGet k (by omega) hk (BkSJ.below hJ (Below.refl _ _))) ?_
 rintro _ w4 ⟨⟨u1, rfl, hn2⟩, hb3⟩
 obtain ⟨_, a5, c6, rfl, _, _, _⟩ := hn2.form
 refine WL.mv rfl rfl rfl rfl rfl ?_
 refine WL.val (.agg #[.int .i64 (((tmE N k)).f), .slice a5 (((tmE N k)).args.length) c6]) rfl rfl rfl (fun za zC zh zk => ext2_0 rfl (zh.ev rfl) zk) ?_
 refine WL.val (.int .i64 0) rfl rfl rfl (fun za zC zh zk => ext2_1 rfl (zh.ev rfl) zk) ?_
 refine WL.step (post := NewBlk w4 35 #[.int .i64 0, .slice none 0 0]) rfl rfl rfl (fun za zC zh zk => alloc_35 rfl (zk _ _ (newBlk _ _ _))) ?_
 rintro _ w7 ⟨g8, rfl, hg9, hB10, hb11, hz12⟩
 have hl13 : w.heap.size ≤ g8 := by have z2 := (hb3).size; omega
 have hl14 : w4.heap.size ≤ g8 := by omega
 refine WL.step (post := fun _ w' => Upd g8 w7 w' ∧ Blk w' g8 35 #[.int .i64 (((tmE N k)).f), .slice a5 (((tmE N k)).args.length) c6]) rfl rfl rfl (fun za zC zh zk => st_35 rfl (zh.ev rfl) (zh.ev rfl) rfl rfl hB10 (by first | decide | simp) (fun v => zk v _ ⟨(Upd.at_ _ _ _ _).trans (Upd.at_ _ _ _ _), (hB10.set_ 0 _).set_ 1 _⟩)) ?_
 rintro v18 w15 ⟨hu16, hB17⟩
 have hb19 : Below w.heap.size w w7 := (bstep hb3 hb11)
 have hb20 := upd_below hb19 hu16 (by omega)
 have hb21 := upd_below hb11 hu16 (by omega)
 refine WL.asg rfl rfl rfl rfl rfl (WL.nil (WE.next (WC.seq (WC.seq (WC.region (WL.mv rfl rfl rfl rfl rfl (WL.mv rfl rfl rfl rfl rfl ?_)))))))
 refine WL.call rfl rfl rfl (fun za zh zC => wp_call (by kernel_rfl) rfl (hv2 (zh.ev rfl) (zh.ev rfl))) (rbhas_yes gr sg N Yr _ hk (RbS.below hR hb20)) ?_
 rintro _ w23 ⟨rfl, hq22⟩
 refine WL.val (.bool false) rfl rfl rfl (fun za zC zh zk => wp_not rfl (zh.ev rfl) zk) ?_
 refine WL.nil (WE.next ?_)
 refine WC.condF rfl rfl ?_
 refine WC.skip (WE.next (WC.seq (WC.region (WL.mv rfl rfl rfl rfl rfl ?_))))
 refine WL.val _ rfl rfl rfl (fun za zC zh zk => nilCheck_ rfl (zh.ev rfl) zk) ?_
 refine WL.val _ rfl rfl rfl (fun za zC zh zk => fld_60_1 rfl (zh.ev rfl) zk) ?_
 have hb25 : Below w.heap.size w w23 := (bstep hb20 hq22)
 have hc24 := bkeeps hb25 _ _ hO.c1
 refine WL.val _ rfl rfl rfl (fun za zC zh zk => ld_25 rfl (zh.ev rfl) hc24 zk) ?_
 refine WL.mv rfl rfl rfl rfl rfl ?_
 obtain ⟨b26, o27, A28, C29, ha30, hc31⟩ := IsTs.open hO.ts
 refine WL.val _ rfl rfl rfl (fun za zC zh zk => ix_25 (k := k) rfl (zh.ev rfl) (ha30 k (by first | omega | (simp; omega))) (zh.ev rfl) (by first | omega | (simp; omega)) zk) ?_
 refine WL.val _ rfl rfl rfl (fun za zC zh zk => ld_35 rfl (zh.ev rfl) (bkeeps hb25 _ _ (hc31 k (by first | omega | (simp; omega))).1) (bkeeps hb25 _ _ (hc31 k (by first | omega | (simp; omega))).2.1) zk) ?_
 refine WL.step (post := NewBlk w23 35 #[.int .i64 0, .slice none 0 0]) rfl rfl rfl (fun za zC zh zk => alloc_35 rfl (zk _ _ (newBlk _ _ _))) ?_
 rintro _ w32 ⟨g33, rfl, hg34, hB35, hb36, hz37⟩
 have hl38 : g8 < g33 := by have z1 := hB17.lt; have z2 := (hq22).size; omega
 have hl39 : w.heap.size ≤ g33 := by have z2 := (hb25).size; omega
 have hb40 : Below w4.heap.size w4 w23 := (bstep hb21 hq22)
 have hl41 : w4.heap.size ≤ g33 := by have z2 := (hb40).size; omega
 refine WL.step (post := fun _ w' => Upd g33 w32 w' ∧ Blk w' g33 35 #[.int .i64 ((tget ((tms N)) k).f), .slice ((A28 k)) ((tget ((tms N)) k).args.length) ((C29 k))]) rfl rfl rfl (fun za zC zh zk => st_35 rfl (zh.ev rfl) (zh.ev rfl) rfl rfl hB35 (by first | decide | simp) (fun v => zk v _ ⟨(Upd.at_ _ _ _ _).trans (Upd.at_ _ _ _ _), (hB35.set_ 0 _).set_ 1 _⟩)) ?_
 rintro v45 w42 ⟨hu43, hB44⟩
 have hb46 : Below w.heap.size w w32 := (bstep hb25 hb36)
 have hb47 : Below w4.heap.size w4 w32 := (bstep hb40 hb36)
 have hb48 := upd_below hb46 hu43 (by omega)
 have hb49 := upd_below hb47 hu43 (by omega)
 have hb51 : Below w15.heap.size w15 w32 := (bstep hq22 hb36)
 have hB50 := hB17.below hb51
 have hB52 := upd_blk hB50 hu43 (by omega)
 refine WL.nil (WE.next (WC.seq (WC.region (WL.mv rfl rfl rfl rfl rfl (WL.mv rfl rfl rfl rfl rfl ?_)))))
 refine WL.call rfl rfl rfl (fun za zh zC => wp_call (by kernel_rfl) rfl (hv2 (zh.ev rfl) (zh.ev rfl))) (rbUsers_any gr sg N Yr _ k (by omega) hk (RbS.below hR hb48)) ?_
 rintro _ w58 ⟨⟨ra53, rc54, rfl, hr55, hcap56⟩, hb57⟩
 refine WL.asg rfl rfl rfl rfl rfl ?_
 refine WL.nil (WE.sub (K' := [(0, .pointer (some ⟨g, 0, none⟩)), (1, .pointer (some ⟨gr, 0, none⟩)), (2, .int .i64 (((k : Nat) : Int))), (6, .bool false), (7, .pointer (some ⟨g8, 0, none⟩)), (8, .int .i64 0), (9, .pointer (some ⟨g33, 0, none⟩)), (10, .slice ra53 ((usersE N k).length) rc54), (20, .bool false)]) ⟨rfl, rfl, rfl, rfl, rfl, rfl, rfl, rfl, rfl, trivial⟩ ?_)
 refine WE.next (WC.seq (WC.seq ?_))
 have hB59 := hB52.below hb57
 have hB60 := hB44.below hb57
 have hb62 : Below w4.heap.size w4 w58 := (bstep hb49 hb57)
 have ho61 := hn2.below hb62
 have hb63 : Below w.heap.size w w58 := (bstep hb3 hb62)
 refine WC.opt [(true, .val (.int .i64 0)), (true, .val (.bool false)), (true, .val (.bool false)), ((true && !false), .val (.agg #[.int .i64 (((tmE N k)).f), .slice a5 (((tmE N k)).args.length) c6])), ((true && !false), .val (.agg #[.int .i64 ((tget ((tms N)) k).f), .slice ((A28 k)) ((tget ((tms N)) k).args.length) ((C29 k))])), ((true && !false), .val (.bool true)), ((true && !false), .val (.bool ((!true)))), (true, .val (.bool ((!true)))), (true, .val (.bool ((!true)))), ((true && !(!true)), .val (.pointer (some ⟨g, 0, none⟩))), ((true && !(!true)), .val (.int .i64 (((k : Nat) : Int)))), ((true && !(!true)), .mem (fun v w => NsV (eget N k).args v w) (fun v w w' hb h => h.below hb)), ((true && !(!true)), .val (.pointer (some ⟨gr, 0, none⟩))), ((true && !(!true)), .val (.int .i64 (((k : Nat) : Int)))), ((true && !(!true)), .mem (fun v w => NsV (eget N k).args v w) (fun v w w' hb h => h.below hb)), ((true && !(!true)), .val (.bool true)), ((true && !(!true)), .val (.bool ((!true)))), (true, .val (.bool (((!true) || (!true))))), (true, .val (.bool (((!true) || (!true))))), ((true && !((!true) || (!true))), .val (.pointer (some ⟨g, 0, none⟩))), ((true && !((!true) || (!true))), .val (.int .i64 (((k : Nat) : Int)))), ((true && !((!true) || (!true))), .mem (fun v w => NsV (usersE N k) v w) (fun v w w' hb h => h.below hb)), ((true && !((!true) || (!true))), .val (.slice ra53 ((usersE N k).length) rc54)), ((true && !((!true) || (!true))), .val (.bool true)), ((true && !((!true) || (!true))), .val (.bool ((!true)))), (true, .val (.bool ((((!true) || (!true)) || (!true))))), (true, .val (.bool ((((!true) || (!true)) || (!true))))), ((true && !(((!true) || (!true)) || (!true))), .val (.pointer (some ⟨g, 0, none⟩))), ((true && !(((!true) || (!true)) || (!true))), .val (.int .i64 (((k : Nat) : Int)))), ((true && !(((!true) || (!true)) || (!true))), .val (.int .i64 ((((tmE N k).size : Nat) : Int)))), ((true && !(((!true) || (!true)) || (!true))), .val (.agg #[.int .i64 ((tget ((tms N)) k).f), .slice ((A28 k)) ((tget ((tms N)) k).args.length) ((C29 k))])), ((true && !(((!true) || (!true)) || (!true))), .val (.int .i64 ((((tmE N k).size : Nat) : Int)))), ((true && !(((!true) || (!true)) || (!true))), .val (.bool ((((((tmE N k).size : Nat) : Int) : Int) != ((((tmE N k).size : Nat) : Int) : Int))))), (true, .val (.bool (((((!true) || (!true)) || (!true)) || (((((tmE N k).size : Nat) : Int) : Int) != ((((tmE N k).size : Nat) : Int) : Int))))))] [(0, .pointer (some ⟨g, 0, none⟩)), (1, .pointer (some ⟨gr, 0, none⟩)), (2, .int .i64 (((k : Nat) : Int))), (6, .bool false), (7, .pointer (some ⟨g8, 0, none⟩)), (8, .int .i64 0), (9, .pointer (some ⟨g33, 0, none⟩)), (10, .slice ra53 ((usersE N k).length) rc54), (20, .bool false)] ⟨rfl, rfl, rfl, rfl, rfl, rfl, rfl, rfl, rfl, trivial⟩ (by kernel_rfl) (by kernel_rfl) (by kernel_rfl) ?_ ?_
 ·refine ⟨⟨true, .none rfl, fun h w => optUndef h, fun zβ za zw zc => ?_⟩, ?_⟩
  ·exact wp_move rfl (zc.kn.ev rfl) ⟨_, rfl, Below.refl _ _, optDef zβ rfl⟩
  refine ⟨⟨true, .none rfl, fun h w => optUndef h, fun zβ za zw zc => ?_⟩, ?_⟩
  ·exact neq_27 rfl ((evt za 70).trans (optVal (zc.dep 0 70 (by kernel_rfl)) rfl rfl)) (zc.kn.ev rfl) ⟨_, rfl, Below.refl _ _, optDef zβ rfl⟩
  refine ⟨⟨true, .none rfl, fun h w => optUndef h, fun zβ za zw zc => ?_⟩, ?_⟩
  ·exact wp_move rfl ((evt za 71).trans (optVal (zc.dep 1 71 (by kernel_rfl)) rfl rfl)) ⟨_, rfl, Below.refl _ _, optDef zβ rfl⟩
  refine ⟨⟨_, .no (d := true) rfl (fun v w h => h), fun h w => optUndef h, fun zβ za zw zc => ?_⟩, ?_⟩
  ·exact ld_35 rfl (zc.kn.ev rfl) (bkeeps zc.below _ _ ((hB59.cell 0).trans rfl)) (bkeeps zc.below _ _ ((hB59.cell 1).trans rfl)) ⟨_, rfl, Below.refl _ _, optDef zβ rfl⟩
  refine ⟨⟨_, .no (d := true) rfl (fun v w h => h), fun h w => optUndef h, fun zβ za zw zc => ?_⟩, ?_⟩
  ·exact ld_35 rfl (zc.kn.ev rfl) (bkeeps zc.below _ _ ((hB60.cell 0).trans rfl)) (bkeeps zc.below _ _ ((hB60.cell 1).trans rfl)) ⟨_, rfl, Below.refl _ _, optDef zβ rfl⟩
  refine ⟨⟨_, .no (d := true) rfl (fun v w h => h), fun h w => optUndef h, fun zβ za zw zc => ?_⟩, ?_⟩
  ·exact wp_call (by kernel_rfl) rfl (hv2 ((evt za 73).trans (optVal (zc.dep 3 73 (by kernel_rfl)) rfl rfl)) ((evt za 74).trans (optVal (zc.dep 4 74 (by kernel_rfl)) rfl rfl))) (sameT (s := tmE N k) htk.symm _ _ _ (IsT.below zc.below (InT.isT ho61)) (IsT.below (bstep hb63 zc.below) (hc31 k (by first | omega | (have zz := zβ; simp only [Bool.and_eq_true, Bool.or_eq_true, Bool.true_and, Bool.not_eq_true', Bool.or_eq_false_iff, Bool.and_eq_false_iff, beq_eq_false_iff_ne, ne_eq, beq_iff_eq, decide_eq_true_eq, decide_eq_false_iff_not, bne_iff_ne, bne_eq_false_iff_eq] at zz; omega))).2.2)) (fun v w' h => ⟨v, rfl, h.2, optDef zβ h.1⟩)
  refine ⟨⟨_, .no (d := true) rfl (fun v w h => h), fun h w => optUndef h, fun zβ za zw zc => ?_⟩, ?_⟩
  ·exact wp_not rfl ((evt za 75).trans (optVal (zc.dep 5 75 (by kernel_rfl)) rfl rfl)) ⟨_, rfl, Below.refl _ _, optDef zβ rfl⟩
  refine ⟨⟨true, .none rfl, fun h w => optUndef h, fun zβ za zw zc => ?_⟩, ?_⟩
  ·exact wp_pickF rfl ((evt za 72).trans (optVal (zc.dep 2 72 (by kernel_rfl)) rfl rfl)) ((evt za 76).trans (optVal (zc.dep 6 76 (by kernel_rfl)) rfl rfl)) ⟨_, rfl, Below.refl _ _, optDef zβ rfl⟩
  refine ⟨⟨true, .none rfl, fun h w => optUndef h, fun zβ za zw zc => ?_⟩, ?_⟩
  ·exact wp_move rfl ((evt za 77).trans (optVal (zc.dep 7 77 (by kernel_rfl)) rfl rfl)) ⟨_, rfl, Below.refl _ _, optDef zβ rfl⟩
  refine ⟨⟨_, .no (d := true) rfl (fun v w h => h), fun h w => optUndef h, fun zβ za zw zc => ?_⟩, ?_⟩
  ·exact wp_move rfl (zc.kn.ev rfl) ⟨_, rfl, Below.refl _ _, optDef zβ rfl⟩
  refine ⟨⟨_, .no (d := true) rfl (fun v w h => h), fun h w => optUndef h, fun zβ za zw zc => ?_⟩, ?_⟩
  ·exact wp_move rfl (zc.kn.ev rfl) ⟨_, rfl, Below.refl _ _, optDef zβ rfl⟩
  refine ⟨⟨_, .no (d := true) rfl (fun v w h => h), fun h w => optUndef h, fun zβ za zw zc => ?_⟩, ?_⟩
  ·exact wp_call (by kernel_rfl) rfl (hv2 ((evt za 79).trans (optVal (zc.dep 9 79 (by kernel_rfl)) rfl rfl)) ((evt za 80).trans (optVal (zc.dep 10 80 (by kernel_rfl)) rfl rfl))) (jArgs k (by omega) hk (BkSJ.below hJ (bstep hb63 zc.below))) (fun v w' h => ⟨v, rfl, h.2, optDef zβ (NsV.of h.1)⟩)
  refine ⟨⟨_, .no (d := true) rfl (fun v w h => h), fun h w => optUndef h, fun zβ za zw zc => ?_⟩, ?_⟩
  ·exact wp_move rfl (zc.kn.ev rfl) ⟨_, rfl, Below.refl _ _, optDef zβ rfl⟩
  refine ⟨⟨_, .no (d := true) rfl (fun v w h => h), fun h w => optUndef h, fun zβ za zw zc => ?_⟩, ?_⟩
  ·exact wp_move rfl (zc.kn.ev rfl) ⟨_, rfl, Below.refl _ _, optDef zβ rfl⟩
  refine ⟨⟨_, .no (d := true) rfl (fun v w h => h), fun h w => optUndef h, fun zβ za zw zc => ?_⟩, ?_⟩
  ·exact wp_call (by kernel_rfl) rfl (hv2 ((evt za 82).trans (optVal (zc.dep 12 82 (by kernel_rfl)) rfl rfl)) ((evt za 83).trans (optVal (zc.dep 13 83 (by kernel_rfl)) rfl rfl))) (rbArgs_any gr sg N Yr _ k (by omega) hk (RbS.below hR (bstep hb63 zc.below))) (fun v w' h => ⟨v, rfl, h.2, optDef zβ (NsV.of h.1)⟩)
  refine ⟨⟨_, .no (d := true) rfl (fun v w h => h), fun h w => optUndef h, fun zβ za zw zc => ?_⟩, ?_⟩
  ·obtain ⟨ra, rc, e1, h1⟩ := (optMem (zc.dep 11 81 (by kernel_rfl)) rfl rfl)
   obtain ⟨rb, rd, e2, h2⟩ := (optMem (zc.dep 14 84 (by kernel_rfl)) rfl rfl)
   exact wp_call (by kernel_rfl) rfl (hv2 ((evt za 81).trans e1) ((evt za 84).trans e2)) (nsame_eq (eget N k).args _ _ _ _ _ _ _ (by first | omega | (rw [List.length_take]; omega)) h1 h2) (fun v w' h => ⟨v, rfl, h.2, optDef zβ h.1⟩)
  refine ⟨⟨_, .no (d := true) rfl (fun v w h => h), fun h w => optUndef h, fun zβ za zw zc => ?_⟩, ?_⟩
  ·exact wp_not rfl ((evt za 85).trans (optVal (zc.dep 15 85 (by kernel_rfl)) rfl rfl)) ⟨_, rfl, Below.refl _ _, optDef zβ rfl⟩
  refine ⟨⟨true, .none rfl, fun h w => optUndef h, fun zβ za zw zc => ?_⟩, ?_⟩
  ·exact wp_or rfl ((evt za 78).trans (optVal (zc.dep 8 78 (by kernel_rfl)) rfl rfl)) (fun hp => ((evt za 86).trans (optVal (zc.dep 16 86 (by kernel_rfl)) rfl rfl))) ⟨_, rfl, Below.refl _ _, optDef zβ rfl⟩
  refine ⟨⟨true, .none rfl, fun h w => optUndef h, fun zβ za zw zc => ?_⟩, ?_⟩
  ·exact wp_move rfl ((evt za 87).trans (optVal (zc.dep 17 87 (by kernel_rfl)) rfl rfl)) ⟨_, rfl, Below.refl _ _, optDef zβ rfl⟩
  refine ⟨⟨_, .no (d := true) rfl (fun v w h => h), fun h w => optUndef h, fun zβ za zw zc => ?_⟩, ?_⟩
  ·exact wp_move rfl (zc.kn.ev rfl) ⟨_, rfl, Below.refl _ _, optDef zβ rfl⟩
  refine ⟨⟨_, .no (d := true) rfl (fun v w h => h), fun h w => optUndef h, fun zβ za zw zc => ?_⟩, ?_⟩
  ·exact wp_move rfl (zc.kn.ev rfl) ⟨_, rfl, Below.refl _ _, optDef zβ rfl⟩
  refine ⟨⟨_, .no (d := true) rfl (fun v w h => h), fun h w => optUndef h, fun zβ za zw zc => ?_⟩, ?_⟩
  ·exact wp_call (by kernel_rfl) rfl (hv3 ((evt za 89).trans (optVal (zc.dep 19 89 (by kernel_rfl)) rfl zβ)) ((evt za 90).trans (optVal (zc.dep 20 90 (by kernel_rfl)) rfl zβ)) (zc.kn.ev rfl)) (jUsersK k (by omega) hk (BkSJ.below hJ (bstep hb63 zc.below))) (fun v w' h => ⟨v, rfl, h.2, optDef zβ (NsV.of h.1)⟩)
  refine ⟨⟨_, .no (d := true) rfl (fun v w h => h), fun h w => optUndef h, fun zβ za zw zc => ?_⟩, ?_⟩
  ·exact wp_move rfl (zc.kn.ev rfl) ⟨_, rfl, Below.refl _ _, optDef zβ rfl⟩
  refine ⟨⟨_, .no (d := true) rfl (fun v w h => h), fun h w => optUndef h, fun zβ za zw zc => ?_⟩, ?_⟩
  ·obtain ⟨ra, rc, e1, h1⟩ := (optMem (zc.dep 21 91 (by kernel_rfl)) rfl zβ)
   exact wp_call (by kernel_rfl) rfl (hv2 ((evt za 91).trans e1) ((evt za 92).trans (optVal (zc.dep 22 92 (by kernel_rfl)) rfl zβ))) (nsame_eq (usersE N k) _ _ _ _ _ _ _ (by first | omega | (rw [List.length_take]; omega)) h1 (InRow.below (NsAt.any hr55) zc.below)) (fun v w' h => ⟨v, rfl, h.2, optDef zβ h.1⟩)
  refine ⟨⟨_, .no (d := true) rfl (fun v w h => h), fun h w => optUndef h, fun zβ za zw zc => ?_⟩, ?_⟩
  ·exact wp_not rfl ((evt za 93).trans (optVal (zc.dep 23 93 (by kernel_rfl)) rfl zβ)) ⟨_, rfl, Below.refl _ _, optDef zβ rfl⟩
  refine ⟨⟨true, .none rfl, fun h w => optUndef h, fun zβ za zw zc => ?_⟩, ?_⟩
  ·exact wp_or rfl ((evt za 88).trans (optVal (zc.dep 18 88 (by kernel_rfl)) rfl rfl)) (fun hp => ((evt za 94).trans (optVal (zc.dep 24 94 (by kernel_rfl)) rfl (bMkN zβ hp)))) ⟨_, rfl, Below.refl _ _, optDef zβ rfl⟩
  refine ⟨⟨true, .none rfl, fun h w => optUndef h, fun zβ za zw zc => ?_⟩, ?_⟩
  ·exact wp_move rfl ((evt za 95).trans (optVal (zc.dep 25 95 (by kernel_rfl)) rfl rfl)) ⟨_, rfl, Below.refl _ _, optDef zβ rfl⟩
  refine ⟨⟨_, .no (d := true) rfl (fun v w h => h), fun h w => optUndef h, fun zβ za zw zc => ?_⟩, ?_⟩
  ·exact wp_move rfl (zc.kn.ev rfl) ⟨_, rfl, Below.refl _ _, optDef zβ rfl⟩
  refine ⟨⟨_, .no (d := true) rfl (fun v w h => h), fun h w => optUndef h, fun zβ za zw zc => ?_⟩, ?_⟩
  ·exact wp_move rfl (zc.kn.ev rfl) ⟨_, rfl, Below.refl _ _, optDef zβ rfl⟩
  refine ⟨⟨_, .no (d := true) rfl (fun v w h => h), fun h w => optUndef h, fun zβ za zw zc => ?_⟩, ?_⟩
  ·exact wp_call (by kernel_rfl) rfl (hv2 ((evt za 97).trans (optVal (zc.dep 27 97 (by kernel_rfl)) rfl zβ)) ((evt za 98).trans (optVal (zc.dep 28 98 (by kernel_rfl)) rfl zβ))) (jSize k hk (BkSJ.below hJ (bstep hb63 zc.below))) (fun v w' h => ⟨v, rfl, h.2, optDef zβ h.1⟩)
  refine ⟨⟨_, .no (d := true) rfl (fun v w h => h), fun h w => optUndef h, fun zβ za zw zc => ?_⟩, ?_⟩
  ·exact ld_35 rfl (zc.kn.ev rfl) (bkeeps zc.below _ _ ((hB60.cell 0).trans rfl)) (bkeeps zc.below _ _ ((hB60.cell 1).trans rfl)) ⟨_, rfl, Below.refl _ _, optDef zβ rfl⟩
  refine ⟨⟨_, .no (d := true) rfl (fun v w h => h), fun h w => optUndef h, fun zβ za zw zc => ?_⟩, ?_⟩
  ·exact wp_call (by kernel_rfl) rfl (hv1 ((evt za 100).trans (optVal (zc.dep 30 100 (by kernel_rfl)) rfl zβ))) (sizeT htk _ _ (by omega) (IsT.below (bstep hb63 zc.below) (hc31 k (by first | omega | (have zz := zβ; simp only [Bool.and_eq_true, Bool.or_eq_true, Bool.true_and, Bool.not_eq_true', Bool.or_eq_false_iff, Bool.and_eq_false_iff, beq_eq_false_iff_ne, ne_eq, beq_iff_eq, decide_eq_true_eq, decide_eq_false_iff_not, bne_iff_ne, bne_eq_false_iff_eq] at zz; omega))).2.2)) (fun v w' h => ⟨v, rfl, h.2, optDef zβ h.1⟩)
  refine ⟨⟨_, .no (d := true) rfl (fun v w h => h), fun h w => optUndef h, fun zβ za zw zc => ?_⟩, ?_⟩
  ·exact neq_3 rfl ((evt za 99).trans (optVal (zc.dep 29 99 (by kernel_rfl)) rfl zβ)) ((evt za 101).trans (optVal (zc.dep 31 101 (by kernel_rfl)) rfl zβ)) ⟨_, rfl, Below.refl _ _, optDef zβ rfl⟩
  refine ⟨⟨true, .none rfl, fun h w => optUndef h, fun zβ za zw zc => ?_⟩, ?_⟩
  ·exact wp_or rfl ((evt za 96).trans (optVal (zc.dep 26 96 (by kernel_rfl)) rfl rfl)) (fun hp => ((evt za 102).trans (optVal (zc.dep 32 102 (by kernel_rfl)) rfl (bMkN zβ hp)))) ⟨_, rfl, Below.refl _ _, optDef zβ rfl⟩
  exact trivial
 ·intro za w64 zh hb65 zu
  have zh := zh.cons (d := 103) (v := .bool (((((!true) || (!true)) || (!true)) || (((((tmE N k).size : Nat) : Int) : Int) != ((((tmE N k).size : Nat) : Int) : Int))))) (optVal (zu 33 103 (by kernel_rfl)) rfl rfl)
  clear zu
  refine WE.go zh ?_
  refine WE.next ?_
  refine WC.condF rfl ((by simp)) ?_
  refine WC.skip (WE.next (WC.seq ?_))
  have hb66 : Below w.heap.size w w64 := (bstep hb63 hb65)
  have hB67 := hB60.below hb65
  have ho68 := hr55.below hb65
  refine WC.opt [(true, .val (.pointer (some ⟨g, 0, none⟩))), (true, .val (.int .i64 (((k : Nat) : Int)))), (true, .val (.bool ((tmE N k).gnd))), (true, .val (.agg #[.int .i64 ((tget ((tms N)) k).f), .slice ((A28 k)) ((tget ((tms N)) k).args.length) ((C29 k))])), (true, .mem (fun v w => VarV (tmE N k).gnd v w) (fun v w w' hb h => h)), (true, .mem (fun v w => LenV (tmE N k).gnd v w) (fun v w w' hb h => h)), (true, .val (.bool ((tmE N k).gnd))), (true, .val (.bool true)), (true, .val (.bool true)), ((true && true), .val (.pointer (some ⟨g, 0, none⟩))), ((true && true), .val (.int .i64 (((k : Nat) : Int)))), ((true && true), .mem (fun v w => NsV ((usersE N k).take 1) v w) (fun v w w' hb h => h.below hb)), ((true && true), .val (.slice ra53 ((usersE N k).length) rc54)), ((true && true), .val (.slice ra53 ((usersE N k).length) rc54)), ((true && true), .val (.int .i64 ((((usersE N k).length : Nat) : Int)))), ((true && true), .val (.int .i64 (((((usersE N k).take 1).length : Nat) : Int)))), ((true && true), .val (.slice ra53 (((usersE N k).take 1).length) rc54)), ((true && true), .val (.bool true)), (true, .val (.bool true)), (true, .val (.bool true))] [(0, .pointer (some ⟨g, 0, none⟩)), (1, .pointer (some ⟨gr, 0, none⟩)), (2, .int .i64 (((k : Nat) : Int))), (7, .pointer (some ⟨g8, 0, none⟩)), (8, .int .i64 0), (9, .pointer (some ⟨g33, 0, none⟩)), (10, .slice ra53 ((usersE N k).length) rc54), (20, .bool false), (103, .bool (((((!true) || (!true)) || (!true)) || (((((tmE N k).size : Nat) : Int) : Int) != ((((tmE N k).size : Nat) : Int) : Int)))))] ⟨rfl, rfl, rfl, rfl, rfl, rfl, rfl, rfl, rfl, trivial⟩ (by kernel_rfl) (by kernel_rfl) (by kernel_rfl) ?_ ?_
  ·refine ⟨⟨true, .none rfl, fun h w => optUndef h, fun zβ za zw zc => ?_⟩, ?_⟩
   ·exact wp_move rfl (zc.kn.ev rfl) ⟨_, rfl, Below.refl _ _, optDef zβ rfl⟩
   refine ⟨⟨true, .none rfl, fun h w => optUndef h, fun zβ za zw zc => ?_⟩, ?_⟩
   ·exact wp_move rfl (zc.kn.ev rfl) ⟨_, rfl, Below.refl _ _, optDef zβ rfl⟩
   refine ⟨⟨true, .none rfl, fun h w => optUndef h, fun zβ za zw zc => ?_⟩, ?_⟩
   ·exact wp_call (by kernel_rfl) rfl (hv2 ((evt za 104).trans (optVal (zc.dep 0 104 (by kernel_rfl)) rfl rfl)) ((evt za 105).trans (optVal (zc.dep 1 105 (by kernel_rfl)) rfl rfl))) (jGround k hk (BkSJ.below hJ (bstep hb66 zc.below))) (fun v w' h => ⟨v, rfl, h.2, optDef zβ h.1⟩)
   refine ⟨⟨true, .none rfl, fun h w => optUndef h, fun zβ za zw zc => ?_⟩, ?_⟩
   ·exact ld_35 rfl (zc.kn.ev rfl) (bkeeps zc.below _ _ ((hB67.cell 0).trans rfl)) (bkeeps zc.below _ _ ((hB67.cell 1).trans rfl)) ⟨_, rfl, Below.refl _ _, optDef zβ rfl⟩
   refine ⟨⟨true, .none rfl, fun h w => optUndef h, fun zβ za zw zc => ?_⟩, ?_⟩
   ·exact wp_call (by kernel_rfl) rfl (hv1 ((evt za 107).trans (optVal (zc.dep 3 107 (by kernel_rfl)) rfl rfl))) (rvarsG_any (tget (tms N) k) _ _ (by rw [htk]; omega) (IsT.below (bstep hb66 zc.below) (hc31 k (by first | omega | (simp; omega))).2.2)) (fun v w' h => ⟨v, rfl, h.2, optDef zβ (by obtain ⟨n, a', c', e, h2, _⟩ := h.1; rw [htk] at h2; exact ⟨a', n, c', e, h2⟩)⟩)
   refine ⟨⟨true, .none rfl, fun h w => optUndef h, fun zβ za zw zc => ?_⟩, ?_⟩
   ·obtain ⟨a9, n9, c9, e9, h9⟩ := (optMem (zc.dep 4 108 (by kernel_rfl)) rfl rfl)
    exact len_31 rfl ((evt za 108).trans e9) ⟨_, rfl, Below.refl _ _, optDef zβ ⟨n9, rfl, h9⟩⟩
   refine ⟨⟨true, .none rfl, fun h w => optUndef h, fun zβ za zw zc => ?_⟩, ?_⟩
   ·obtain ⟨n9, e9, h9⟩ := (optMem (zc.dep 5 109 (by kernel_rfl)) rfl rfl)
    exact eql_3 rfl ((evt za 109).trans e9) (zc.kn.ev rfl) (by rw [h9]; exact ⟨_, rfl, Below.refl _ _, optDef zβ rfl⟩)
   refine ⟨⟨true, .none rfl, fun h w => optUndef h, fun zβ za zw zc => ?_⟩, ?_⟩
   ·have e9 : ((tmE N k).gnd == (tmE N k).gnd) = true := by simp
    exact eql_4 rfl ((evt za 106).trans (optVal (zc.dep 2 106 (by kernel_rfl)) rfl rfl)) ((evt za 110).trans (optVal (zc.dep 6 110 (by kernel_rfl)) rfl rfl)) (by rw [e9]; exact ⟨_, rfl, Below.refl _ _, optDef zβ rfl⟩)
   refine ⟨⟨true, .none rfl, fun h w => optUndef h, fun zβ za zw zc => ?_⟩, ?_⟩
   ·exact wp_move rfl ((evt za 111).trans (optVal (zc.dep 7 111 (by kernel_rfl)) rfl rfl)) ⟨_, rfl, Below.refl _ _, optDef zβ rfl⟩
   refine ⟨⟨_, .yes (d := true) rfl (fun v w h => h), fun h w => optUndef h, fun zβ za zw zc => ?_⟩, ?_⟩
   ·exact wp_move rfl (zc.kn.ev rfl) ⟨_, rfl, Below.refl _ _, optDef zβ rfl⟩
   refine ⟨⟨_, .yes (d := true) rfl (fun v w h => h), fun h w => optUndef h, fun zβ za zw zc => ?_⟩, ?_⟩
   ·exact wp_move rfl (zc.kn.ev rfl) ⟨_, rfl, Below.refl _ _, optDef zβ rfl⟩
   refine ⟨⟨_, .yes (d := true) rfl (fun v w h => h), fun h w => optUndef h, fun zβ za zw zc => ?_⟩, ?_⟩
   ·exact wp_call (by kernel_rfl) rfl (hv3 ((evt za 113).trans (optVal (zc.dep 9 113 (by kernel_rfl)) rfl rfl)) ((evt za 114).trans (optVal (zc.dep 10 114 (by kernel_rfl)) rfl rfl)) (zc.kn.ev rfl)) (jUsers1 k (by omega) hk (BkSJ.below hJ (bstep hb66 zc.below))) (fun v w' h => ⟨v, rfl, h.2, optDef zβ (NsV.of h.1)⟩)
   refine ⟨⟨_, .yes (d := true) rfl (fun v w h => h), fun h w => optUndef h, fun zβ za zw zc => ?_⟩, ?_⟩
   ·exact wp_move rfl (zc.kn.ev rfl) ⟨_, rfl, Below.refl _ _, optDef zβ rfl⟩
   refine ⟨⟨_, .yes (d := true) rfl (fun v w h => h), fun h w => optUndef h, fun zβ za zw zc => ?_⟩, ?_⟩
   ·exact wp_move rfl (zc.kn.ev rfl) ⟨_, rfl, Below.refl _ _, optDef zβ rfl⟩
   refine ⟨⟨_, .yes (d := true) rfl (fun v w h => h), fun h w => optUndef h, fun zβ za zw zc => ?_⟩, ?_⟩
   ·exact len_31 rfl ((evt za 117).trans (optVal (zc.dep 13 117 (by kernel_rfl)) rfl rfl)) ⟨_, rfl, Below.refl _ _, optDef zβ rfl⟩
   refine ⟨⟨_, .yes (d := true) rfl (fun v w h => h), fun h w => optUndef h, fun zβ za zw zc => ?_⟩, ?_⟩
   ·have e9 : (min (1 : Int) (((usersE N k).length : Nat) : Int)) = (((((usersE N k).take 1).length : Nat)) : Int) := by rw [List.length_take]; omega
    exact min_3 rfl (zc.kn.ev rfl) ((evt za 118).trans (optVal (zc.dep 14 118 (by kernel_rfl)) rfl rfl)) (by rw [e9]; exact ⟨_, rfl, Below.refl _ _, optDef zβ rfl⟩)
   refine ⟨⟨_, .yes (d := true) rfl (fun v w h => h), fun h w => optUndef h, fun zβ za zw zc => ?_⟩, ?_⟩
   ·exact shi_31 (k := ((usersE N k).take 1).length) rfl ((evt za 116).trans (optVal (zc.dep 12 116 (by kernel_rfl)) rfl rfl)) ((evt za 119).trans (optVal (zc.dep 15 119 (by kernel_rfl)) rfl rfl)) (by rw [List.length_take]; omega) ⟨_, rfl, Below.refl _ _, optDef zβ rfl⟩
   refine ⟨⟨_, .yes (d := true) rfl (fun v w h => h), fun h w => optUndef h, fun zβ za zw zc => ?_⟩, ?_⟩
   ·obtain ⟨ra, rc, e1, h1⟩ := (optMem (zc.dep 11 115 (by kernel_rfl)) rfl rfl)
    exact wp_call (by kernel_rfl) rfl (hv2 ((evt za 115).trans e1) ((evt za 120).trans (optVal (zc.dep 16 120 (by kernel_rfl)) rfl rfl))) (nsame_eq ((usersE N k).take 1) _ _ _ _ _ _ _ (by first | omega | (rw [List.length_take]; omega)) h1 (InRow.takeN (InRow.below (NsAt.any ho68) zc.below) 1)) (fun v w' h => ⟨v, rfl, h.2, optDef zβ h.1⟩)
   refine ⟨⟨true, .none rfl, fun h w => optUndef h, fun zβ za zw zc => ?_⟩, ?_⟩
   ·exact wp_pickT rfl ((evt za 112).trans (optVal (zc.dep 8 112 (by kernel_rfl)) rfl rfl)) ((evt za 121).trans (optVal (zc.dep 17 121 (by kernel_rfl)) rfl rfl)) ⟨_, rfl, Below.refl _ _, optDef zβ rfl⟩
   refine ⟨⟨true, .none rfl, fun h w => optUndef h, fun zβ za zw zc => ?_⟩, ?_⟩
   ·exact wp_assign rfl ((evt za 122).trans (optVal (zc.dep 18 122 (by kernel_rfl)) rfl rfl)) ⟨_, rfl, Below.refl _ _, optDef zβ rfl⟩
   exact trivial
  ·intro za w69 zh hb70 zu
   have zh := zh.cons (d := 6) (v := .bool true) (optVal (zu 19 6 (by kernel_rfl)) rfl rfl)
   clear zu
   refine WE.go zh ?_
   refine WE.next (WC.ret (WE.ret1 rfl rfl ?_))
   have hb71 : Below w.heap.size w w69 := (bstep hb66 hb70)
   exact ⟨_, rfl, rfl, hb71⟩
end Go.Proofs.Ytbohlpfndiiimaa

/- What wakes the laws: the program. -/
namespace Go.Proofs.Ytbohlpfndiiimaa
open Go.RowKit Go
set_option linter.unusedVariables false
set_option linter.unusedSimpArgs false
/-- The signature of 'wakes'. -/
def smallSg : List Sy := [truth, ⟨⟨#[97]⟩, 0, false⟩, ⟨⟨#[102]⟩, 2, false⟩, ⟨⟨#[112]⟩, 1, true⟩]
theorem smallSg_ok : sigCheck smallSg = 0 := by decide +kernel
theorem smallSg_wf : ∀ x ∈ smallSg, I64 x.ar ∧ x.name.size ≤ maxLen := by
 intro x hx
 simp only [smallSg, List.mem_cons, List.not_mem_nil, or_false] at hx
 unfold I64 maxLen
 rcases hx with rfl | rfl | rfl | rfl <;> decide +kernel
set_option maxRecDepth 100000 in
theorem rtruth_any (w : World) : Calls Try.prog 51 #[] w (Ret fun v' w' => v' = .agg #[.string truth.name, .int .i64 truth.ar, .bool truth.pred] ∧ Below w.heap.size w w') := by
 refine Calls.walk (l := []) Try.func51 rfl (by kernel_rfl) ?_
 refine WC.sub (K' := []) trivial ?_
 refine WC.seq (WC.region ?_)
 refine WL.step (post := NewBlk w 66 #[.string (⟨#[]⟩), .int .i64 0, .bool false]) rfl rfl rfl (fun za zC zh zk => alloc_66 rfl (zk _ _ (newBlk _ _ _))) ?_
 rintro _ w1 ⟨g2, rfl, hg3, hB4, hb5, hz6⟩
 have hl7 : w.heap.size ≤ g2 := by omega
 refine WL.nil (WE.next (WC.seq (WC.region ?_)))
 refine WL.val (.agg #[.string ((⟨#[36, 116, 114, 117, 101]⟩ : ByteArray)), .int .i64 0, .bool true]) rfl rfl rfl (fun za zC zh zk => build_66_0_1_2 rfl (zh.ev rfl) (zh.ev rfl) (zh.ev rfl) zk) ?_
 refine WL.step (post := fun _ w' => Upd g2 w1 w' ∧ Blk w' g2 66 #[.string ((⟨#[36, 116, 114, 117, 101]⟩ : ByteArray)), .int .i64 0, .bool true]) rfl rfl rfl (fun za zC zh zk => st_66 rfl (zh.ev rfl) (zh.ev rfl) rfl rfl rfl hB4 (by first | decide | simp) (fun v => zk v _ ⟨((Upd.at_ _ _ _ _).trans (Upd.at_ _ _ _ _)).trans (Upd.at_ _ _ _ _), ((hB4.set_ 0 _).set_ 1 _).set_ 2 _⟩)) ?_
 rintro v11 w8 ⟨hu9, hB10⟩
 have hb12 := upd_below hb5 hu9 (by omega)
 refine WL.nil (WE.next (WC.ret ?_))
 refine WE.retAny (v := .agg #[.string ((⟨#[36, 116, 114, 117, 101]⟩ : ByteArray)), .int .i64 0, .bool true]) (fun za zh => ?_) ?_
 ·have z0 : za.tmps[0]?.getD undef = .pointer (some ⟨g2, 0, none⟩) := by rw [← Array.getD_eq_getD_getElem?]; exact zh.knows 0 _ rfl
  have y0 : w8.cell? ⟨g2, 0, none⟩ = some (.string ((⟨#[36, 116, 114, 117, 101]⟩ : ByteArray))) := ((hB10.cell 0).trans rfl)
  have y1 : w8.cell? ⟨g2, 1, none⟩ = some (.int .i64 0) := ((hB10.cell 1).trans rfl)
  have y2 : w8.cell? ⟨g2, 2, none⟩ = some (.bool true) := ((hB10.cell 2).trans rfl)
  simp [results, Try.results51, z0, y0, y1, y2, go_sem]
 ·exact ⟨_, rfl, rfl, hb12⟩
set_option maxRecDepth 100000 in
theorem small_any (w : World) : Calls Try.prog 28 #[] w (Ret fun v' w' => IsSig w' smallSg v' ∧ Below w.heap.size w w') := by
 refine Calls.walk (l := []) Try.func28 rfl (by kernel_rfl) ?_
 refine WC.sub (K' := []) trivial ?_
 refine WC.seq (WC.region ?_)
 refine WL.step (post := NewBlk w 24 #[.slice none 0 0]) rfl rfl rfl (fun za zC zh zk => alloc_24 rfl (zk _ _ (newBlk _ _ _))) ?_
 rintro _ w1 ⟨g2, rfl, hg3, hB4, hb5, hz6⟩
 have hl7 : w.heap.size ≤ g2 := by omega
 refine WL.nil (WE.next (WC.seq (WC.region ?_)))
 refine WL.call rfl rfl rfl (fun za zh zC => wp_call (by kernel_rfl) rfl (hv0)) (rtruth_any _) ?_
 rintro _ w9 ⟨rfl, hq8⟩
 refine WL.val (.agg #[.string ((⟨#[97]⟩ : ByteArray)), .int .i64 0, .bool false]) rfl rfl rfl (fun za zC zh zk => build_66_0 rfl (zh.ev rfl) zk) ?_
 refine WL.val (.agg #[.string ((⟨#[102]⟩ : ByteArray)), .int .i64 2, .bool false]) rfl rfl rfl (fun za zC zh zk => build_66_0_1 rfl (zh.ev rfl) (zh.ev rfl) zk) ?_
 refine WL.val (.agg #[.string ((⟨#[112]⟩ : ByteArray)), .int .i64 1, .bool true]) rfl rfl rfl (fun za zC zh zk => build_66_0_1_2 rfl (zh.ev rfl) (zh.ev rfl) (zh.ev rfl) zk) ?_
 refine WL.step (post := NewRow w9 66 #[.string truth.name, .int .i64 truth.ar, .bool truth.pred, .string ((⟨#[97]⟩ : ByteArray)), .int .i64 0, .bool false, .string ((⟨#[102]⟩ : ByteArray)), .int .i64 2, .bool false, .string ((⟨#[112]⟩ : ByteArray)), .int .i64 1, .bool true] 4) rfl rfl rfl (fun za zC zh zk => row_22_4 rfl (zh.ev rfl) (zh.ev rfl) (zh.ev rfl) (zh.ev rfl) (zk _ _ (newRow _ _ _ _))) ?_
 rintro _ w10 ⟨g11, rfl, hg12, hB13, hb14, hz15⟩
 have hl16 : g2 < g11 := by have z1 := hB4.lt; have z2 := (hq8).size; omega
 have hb17 : Below w.heap.size w w9 := (bstep hb5 hq8)
 have hl18 : w.heap.size ≤ g11 := by have z2 := (hb17).size; omega
 refine WL.val (.agg #[.slice ((some ⟨g11, 0, none⟩)) 4 4]) rfl rfl rfl (fun za zC zh zk => build_24_0 rfl (zh.ev rfl) zk) ?_
 have hb20 : Below w1.heap.size w1 w10 := (bstep hq8 hb14)
 have hB19 := hB4.below hb20
 refine WL.step (post := fun _ w' => Upd g2 w10 w' ∧ Blk w' g2 24 #[.slice ((some ⟨g11, 0, none⟩)) 4 4]) rfl rfl rfl (fun za zC zh zk => st_24 rfl (zh.ev rfl) (zh.ev rfl) rfl hB19 (by first | decide | simp) (fun v => zk v _ ⟨Upd.at_ _ _ _ _, hB19.set_ 0 _⟩)) ?_
 rintro v24 w21 ⟨hu22, hB23⟩
 have hb25 : Below w.heap.size w w10 := (bstep hb5 hb20)
 have hb26 := upd_below hb25 hu22 (by omega)
 have hB27 := upd_blk hB13 hu22 (by omega)
 refine WL.nil (WE.next (WC.ret ?_))
 refine WE.retAny (v := .agg #[.slice ((some ⟨g11, 0, none⟩)) 4 4]) (fun za zh => ?_) ?_
 ·have z0 : za.tmps[0]?.getD undef = .pointer (some ⟨g2, 0, none⟩) := by rw [← Array.getD_eq_getD_getElem?]; exact zh.knows 0 _ rfl
  have y0 : w21.cell? ⟨g2, 0, none⟩ = some (.slice ((some ⟨g11, 0, none⟩)) 4 4) := ((hB23.cell 0).trans rfl)
  simp [results, Try.results28, z0, y0, go_sem]
 ·have hO9 : World.ownsRow w21 0 66 3 (.slice (some ⟨g11, 0, none⟩) 4 4) 4 (syCells smallSg) := ⟨rfl, .inr ⟨g11, 4, (syCells smallSg).toArray, rfl, Nat.zero_le _, hB27, Nat.le_refl _, by unfold maxLen; omega, rfl, rfl⟩⟩
  obtain ⟨_, _, _, z⟩ := sys_of_own hO9 smallSg_wf
  exact ⟨_, rfl, ⟨_, 4, rfl, Nat.le_refl _, by unfold maxLen; omega, z⟩, hb26⟩
def wTA : T := .mk 1 []
def wTX : T := .mk (-1) []
def wT1 : T := .mk 2 [wTA, wTX]
def wT2 : T := .mk 2 [wTX, wTA]
def wN1 : List En := [⟨1, []⟩, ⟨-1, []⟩, ⟨2, [0, 1]⟩]
def wN2 : List En := [⟨1, []⟩, ⟨-1, []⟩, ⟨2, [0, 1]⟩, ⟨2, [1, 0]⟩]
theorem newS_any (w : World) (v : Value) (hs : IsSig w smallSg v) : Calls Try.prog 7 #[v] w (Ret fun v' w' => (∃ g : Nat, v' = .tuple #[.pointer (some ⟨g, 0, none⟩), .int .i64 0] ∧ BkSJ w' w.heap.size g smallSg [] (fun _ => False)) ∧ Below w.heap.size w w') := by
 refine Calls.mono (bNew_any smallSg w v (by decide) hs) (fun e w' hr => ?_)
 obtain ⟨v', rfl, h, hb⟩ := hr
 rcases h with ⟨h, _⟩ | ⟨_, g, h1, _, h2⟩
 ·exact absurd smallSg_ok h
 ·exact ⟨v', rfl, ⟨g, h1, _, h2, fun b q => q.1, fun b q => q.elim⟩, hb⟩
theorem newE_any (w : World) : Calls Try.prog 7 #[.agg #[.slice none 0 0]] w (Ret fun v' w' => v' = .tuple #[.pointer none, .int .i64 2] ∧ Below w.heap.size w w') := by
 refine Calls.mono (bNew_any [] w _ (by decide) ⟨none, 0, rfl, Nat.le_refl _, Nat.zero_le _, fun k hk => absurd hk (Nat.not_lt_zero _)⟩) (fun e w' hr => ?_)
 obtain ⟨v', rfl, h, hb⟩ := hr
 rcases h with ⟨_, h⟩ | ⟨h, _⟩
 ·exact ⟨v', rfl, h, hb⟩
 ·exact absurd h (by decide +kernel)
theorem putS1 {w : World} {B g : Nat} {X A : Nat → Prop} {v : Value} (hA : ∀ b, A b → (X b ∨ b < B) ∧ b < w.heap.size) (hin : InT A w wT1 v) (h : BkSJ w B g smallSg [] X) : Calls Try.prog 9 #[.pointer (some ⟨g, 0, none⟩), v] w (Ret fun v' w' => v' = .tuple #[.int .i64 2, .int .i64 0] ∧ PutTo w w' B g smallSg wN1 X) := by
 have z := jPut wT1 v A (by decide) (by decide +kernel) hA hin h
 rw [show bputV smallSg [] wT1 = 2 by decide +kernel, show chkI smallSg wT1 = 0 by decide +kernel, show bputI smallSg [] wT1 = wN1 by decide +kernel] at z
 exact z
theorem putS2 {w : World} {B g : Nat} {X A : Nat → Prop} {v : Value} (hA : ∀ b, A b → (X b ∨ b < B) ∧ b < w.heap.size) (hin : InT A w wTA v) (h : BkSJ w B g smallSg wN1 X) : Calls Try.prog 9 #[.pointer (some ⟨g, 0, none⟩), v] w (Ret fun v' w' => v' = .tuple #[.int .i64 0, .int .i64 0] ∧ PutTo w w' B g smallSg wN1 X) := by
 have z := jPut wTA v A (by decide) (by decide +kernel) hA hin h
 rw [show bputV smallSg wN1 wTA = 0 by decide +kernel, show chkI smallSg wTA = 0 by decide +kernel, show bputI smallSg wN1 wTA = wN1 by decide +kernel] at z
 exact z
theorem putS3 {w : World} {B g : Nat} {X A : Nat → Prop} {v : Value} (hA : ∀ b, A b → (X b ∨ b < B) ∧ b < w.heap.size) (hin : InT A w wT2 v) (h : BkSJ w B g smallSg wN1 X) : Calls Try.prog 9 #[.pointer (some ⟨g, 0, none⟩), v] w (Ret fun v' w' => v' = .tuple #[.int .i64 3, .int .i64 0] ∧ PutTo w w' B g smallSg wN2 X) := by
 have z := jPut wT2 v A (by decide) (by decide +kernel) hA hin h
 rw [show bputV smallSg wN1 wT2 = 3 by decide +kernel, show chkI smallSg wT2 = 0 by decide +kernel, show bputI smallSg wN1 wT2 = wN2 by decide +kernel] at z
 exact z
theorem inA {w : World} {S : Nat → Prop} : InT S w wTA (.agg #[.int .i64 1, .slice none 0 0]) := ⟨by unfold I64; omega, none, 0, rfl, Nat.le_refl _, by decide, trivial⟩
theorem in2 {w : World} {q : Nat} {x y : Int} (hx : I64 x) (hy : I64 y) (hB : Blk w q 35 #[.int .i64 x, .slice none 0 0, .int .i64 y, .slice none 0 0]) : InT (fun b => b = q) w (.mk 2 [.mk x [], .mk y []]) (.agg #[.int .i64 2, .slice (some ⟨q, 0, none⟩) 2 2]) := by
 have leaf : ∀ z : Int, I64 z → InT (fun b => b = q) w (.mk z []) (.agg #[.int .i64 z, .slice none 0 0]) := fun z hz => ⟨hz, none, 0, rfl, Nat.le_refl _, by decide, trivial⟩
 exact ⟨by unfold I64; omega, some ⟨q, 0, none⟩, 2, rfl, Nat.le_refl _, by decide, ⟨q, 0, _, _, rfl, rfl, (hB.cell 0).trans rfl, (hB.cell 1).trans rfl, leaf x hx⟩, ⟨q, 0, _, _, rfl, rfl, (hB.cell 2).trans rfl, (hB.cell 3).trans rfl, leaf y hy⟩, trivial⟩
set_option maxRecDepth 100000 in
theorem wakes_any (w : World) : Calls Try.prog 8 #[] w (Ret fun v' w' => v' = .bool true ∧ Below w.heap.size w w') := by
 refine Calls.walk (l := []) Try.func8 rfl (by kernel_rfl) ?_
 refine WC.sub (K' := []) trivial ?_
 refine WC.seq (WC.region (WL.asg rfl rfl rfl rfl rfl (WL.nil (WE.next (WC.seq (WC.region ?_))))))
 refine WL.call rfl rfl rfl (fun za zh zC => wp_call (by kernel_rfl) rfl (hv0)) (small_any _) ?_
 rintro vsm w1 ⟨hsm, hbsm⟩
 refine WL.call rfl rfl rfl (fun za zh zC => wp_call (by kernel_rfl) rfl (hv1 (zh.ev rfl))) (newS_any _ _ hsm) ?_
 rintro _ w5 ⟨⟨gk2, rfl, hk3⟩, hb4⟩
 have hBw6 : w.heap.size ≤ w1.heap.size := hbsm.size
 refine WL.mv rfl rfl rfl rfl rfl ?_
 refine WL.val (.pointer (some ⟨gk2, 0, none⟩)) rfl rfl rfl (fun za zC zh zk => ext2_0 rfl (zh.ev rfl) zk) ?_
 refine WL.val (.int .i64 0) rfl rfl rfl (fun za zC zh zk => ext2_1 rfl (zh.ev rfl) zk) ?_
 refine WL.asg rfl rfl rfl rfl rfl (WL.asg rfl rfl rfl rfl rfl (WL.nil (WE.next (WC.seq (WC.seq ?_)))))
 refine WC.opt [(true, .val (.int .i64 0)), (true, .val (.bool (((0 : Int) != (0 : Int))))), (true, .val (.bool (((0 : Int) != (0 : Int))))), ((true && !((0 : Int) != (0 : Int))), .val (.pointer (some ⟨gk2, 0, none⟩))), ((true && !((0 : Int) != (0 : Int))), .val (.bool false)), (true, .val (.bool ((((0 : Int) != (0 : Int)) || false))))] [(0, .bool false), (1, .pointer (some ⟨gk2, 0, none⟩)), (2, .int .i64 0)] ⟨rfl, rfl, rfl, trivial⟩ (by kernel_rfl) (by kernel_rfl) (by kernel_rfl) ?_ ?_
 ·refine ⟨⟨true, .none rfl, fun h w => optUndef h, fun zβ za zw zc => ?_⟩, ?_⟩
  ·exact wp_move rfl (zc.kn.ev rfl) ⟨_, rfl, Below.refl _ _, optDef zβ rfl⟩
  refine ⟨⟨true, .none rfl, fun h w => optUndef h, fun zβ za zw zc => ?_⟩, ?_⟩
  ·exact neq_27 rfl ((evt za 17).trans (optVal (zc.dep 0 17 (by kernel_rfl)) rfl rfl)) (zc.kn.ev rfl) ⟨_, rfl, Below.refl _ _, optDef zβ rfl⟩
  refine ⟨⟨true, .none rfl, fun h w => optUndef h, fun zβ za zw zc => ?_⟩, ?_⟩
  ·exact wp_move rfl ((evt za 18).trans (optVal (zc.dep 1 18 (by kernel_rfl)) rfl rfl)) ⟨_, rfl, Below.refl _ _, optDef zβ rfl⟩
  refine ⟨⟨_, .no (d := true) rfl (fun v w h => h), fun h w => optUndef h, fun zβ za zw zc => ?_⟩, ?_⟩
  ·exact wp_move rfl (zc.kn.ev rfl) ⟨_, rfl, Below.refl _ _, optDef zβ rfl⟩
  refine ⟨⟨_, .no (d := true) rfl (fun v w h => h), fun h w => optUndef h, fun zβ za zw zc => ?_⟩, ?_⟩
  ·exact eqlp_26 rfl ((evt za 20).trans (optVal (zc.dep 3 20 (by kernel_rfl)) rfl zβ)) (zc.kn.ev rfl) ⟨_, rfl, Below.refl _ _, optDef zβ rfl⟩
  refine ⟨⟨true, .none rfl, fun h w => optUndef h, fun zβ za zw zc => ?_⟩, ?_⟩
  ·exact wp_or rfl ((evt za 19).trans (optVal (zc.dep 2 19 (by kernel_rfl)) rfl rfl)) (fun hp => ((evt za 21).trans (optVal (zc.dep 4 21 (by kernel_rfl)) rfl (bMkN zβ hp)))) ⟨_, rfl, Below.refl _ _, optDef zβ rfl⟩
  exact trivial
 ·intro za w7 zh hb8 zu
  have zh := zh.cons (d := 22) (v := .bool ((((0 : Int) != (0 : Int)) || false))) (optVal (zu 5 22 (by kernel_rfl)) rfl rfl)
  clear zu
  refine WE.go zh ?_
  refine WE.next ?_
  refine WC.condF rfl (by simp) ?_
  refine WC.skip (WE.next (WC.seq (WC.region ?_)))
  refine WL.val (.agg #[.int .i64 1, .slice none 0 0]) rfl rfl rfl (fun za zC zh zk => build_35_0 rfl (zh.ev rfl) zk) ?_
  refine WL.val (.agg #[.int .i64 ((-1)), .slice none 0 0]) rfl rfl rfl (fun za zC zh zk => build_35_0 rfl (zh.ev rfl) zk) ?_
  refine WL.step (post := NewBlk w7 35 #[.int .i64 0, .slice none 0 0]) rfl rfl rfl (fun za zC zh zk => alloc_35 rfl (zk _ _ (newBlk _ _ _))) ?_
  rintro _ w9 ⟨g10, rfl, hg11, hB12, hb13, hz14⟩
  have hb15 : Below w.heap.size w w7 := (bstep (bstep hbsm hb4) hb8)
  have hl16 : w.heap.size ≤ g10 := by have z2 := (hb15).size; omega
  have hl17 : w5.heap.size ≤ g10 := by have z2 := (hb8).size; omega
  refine WL.step (post := NewBlk w9 35 #[.int .i64 0, .slice none 0 0]) rfl rfl rfl (fun za zC zh zk => alloc_35 rfl (zk _ _ (newBlk _ _ _))) ?_
  rintro _ w18 ⟨g19, rfl, hg20, hB21, hb22, hz23⟩
  have hl24 : g10 < g19 := by have z1 := hB12.lt; omega
  have hb25 : Below w.heap.size w w9 := (bstep hb15 hb13)
  have hl26 : w.heap.size ≤ g19 := by have z2 := (hb25).size; omega
  have hb27 : Below w5.heap.size w5 w9 := (bstep hb8 hb13)
  have hl28 : w5.heap.size ≤ g19 := by have z2 := (hb27).size; omega
  have hB29 := hB12.below hb22
  refine WL.step (post := fun _ w' => Upd g10 w18 w' ∧ Blk w' g10 35 #[.int .i64 1, .slice none 0 0]) rfl rfl rfl (fun za zC zh zk => st_35 rfl (zh.ev rfl) (zh.ev rfl) rfl rfl hB29 (by first | decide | simp) (fun v => zk v _ ⟨(Upd.at_ _ _ _ _).trans (Upd.at_ _ _ _ _), (hB29.set_ 0 _).set_ 1 _⟩)) ?_
  rintro v33 w30 ⟨hu31, hB32⟩
  have hb34 : Below w.heap.size w w18 := (bstep hb25 hb22)
  have hb35 : Below w5.heap.size w5 w18 := (bstep hb27 hb22)
  have hb36 := upd_below hb34 hu31 (by omega)
  have hb37 := upd_below hb35 hu31 (by omega)
  have hB38 := upd_blk hB21 hu31 (by omega)
  refine WL.step (post := fun _ w' => Upd g19 w30 w' ∧ Blk w' g19 35 #[.int .i64 ((-1)), .slice none 0 0]) rfl rfl rfl (fun za zC zh zk => st_35 rfl (zh.ev rfl) (zh.ev rfl) rfl rfl hB38 (by first | decide | simp) (fun v => zk v _ ⟨(Upd.at_ _ _ _ _).trans (Upd.at_ _ _ _ _), (hB38.set_ 0 _).set_ 1 _⟩)) ?_
  rintro v42 w39 ⟨hu40, hB41⟩
  have hb43 := upd_below hb36 hu40 (by omega)
  have hb44 := upd_below hb37 hu40 (by omega)
  have hB45 := upd_blk hB32 hu40 (by omega)
  refine WL.nil (WE.next (WC.seq (WC.region (WL.mv rfl rfl rfl rfl rfl ?_))))
  refine WL.val _ rfl rfl rfl (fun za zC zh zk => ld_35 rfl (zh.ev rfl) ((hB45.cell 0).trans rfl) ((hB45.cell 1).trans rfl) zk) ?_
  refine WL.val _ rfl rfl rfl (fun za zC zh zk => ld_35 rfl (zh.ev rfl) ((hB41.cell 0).trans rfl) ((hB41.cell 1).trans rfl) zk) ?_
  refine WL.step (post := NewRow w39 35 #[.int .i64 1, .slice none 0 0, .int .i64 ((-1)), .slice none 0 0] 2) rfl rfl rfl (fun za zC zh zk => row_25_2 rfl (zh.ev rfl) (zh.ev rfl) (zk _ _ (newRow _ _ _ _))) ?_
  rintro _ w46 ⟨g47, rfl, hg48, hB49, hb50, hz51⟩
  have hl52 : g10 < g47 := by have z1 := hB45.lt; omega
  have hl53 : g19 < g47 := by have z1 := hB41.lt; omega
  have hl54 : w.heap.size ≤ g47 := by have z2 := (hb43).size; omega
  have hl55 : w5.heap.size ≤ g47 := by have z2 := (hb44).size; omega
  refine WL.val (.agg #[.int .i64 2, .slice ((some ⟨g47, 0, none⟩)) 2 2]) rfl rfl rfl (fun za zC zh zk => build_35_0_1 rfl (zh.ev rfl) (zh.ev rfl) zk) ?_
  have hB57 := hB45.below hb50
  have hB58 := hB41.below hb50
  have hk56 : BkSJ w5 w1.heap.size gk2 smallSg [] (fun b => b = g10 ∨ b = g19 ∨ b = g47) := BkSJ.avoid hk3 (fun b q => by
   rcases q with rfl | rfl | rfl <;> first | (right; left; omega) | (left; refine ⟨.inl ?_, by omega⟩; simp))
  have hb59 : Below w5.heap.size w5 w46 := (bstep hb44 hb50)
  have hb64 : Below w.heap.size w w46 := (bstep hb43 hb50)
  have hl65 := hB57.lt
  have hl66 := hB58.lt
  have hl67 := hB49.lt
  refine WL.call rfl rfl rfl (fun za zh zC => wp_call (by kernel_rfl) rfl (hv2 (zh.ev rfl) (zh.ev rfl))) (putS1 (A := fun b => b = g47) (fun b e => ⟨.inl (by rw [show b = g47 from e]; simp), by rw [show b = g47 from e]; exact hB49.lt⟩) (in2 (by unfold I64; omega) (by unfold I64; omega) hB49) (BkSJ.below hk56 hb59)) ?_
  rintro _ w68 ⟨rfl, Y60, hY61, hc62, hk63⟩
  have hb69 := chg_below hb64 hc62 (fun b q => hY61 b (.inr (by omega)) (by have z := (hb64).size; omega))
  have hB70 := chg_blk hB57 hc62 (hY61 _ (.inl (by simp)) hl65)
  have hB71 := chg_blk hB58 hc62 (hY61 _ (.inl (by simp)) hl66)
  have hB72 := chg_blk hB49 hc62 (hY61 _ (.inl (by simp)) hl67)
  refine WL.mv rfl rfl rfl rfl rfl ?_
  refine WL.val (.int .i64 2) rfl rfl rfl (fun za zC zh zk => ext2_0 rfl (zh.ev rfl) zk) ?_
  refine WL.val (.int .i64 0) rfl rfl rfl (fun za zC zh zk => ext2_1 rfl (zh.ev rfl) zk) ?_
  refine WL.asg rfl rfl rfl rfl rfl (WL.asg rfl rfl rfl rfl rfl ?_)
  refine WL.nil (WE.sub (K' := [(0, .bool false), (1, .pointer (some ⟨gk2, 0, none⟩)), (2, .int .i64 0), (3, .pointer (some ⟨g10, 0, none⟩)), (4, .pointer (some ⟨g19, 0, none⟩)), (5, .int .i64 2), (22, .bool ((((0 : Int) != (0 : Int)) || false)))]) ⟨rfl, rfl, rfl, rfl, rfl, rfl, rfl, trivial⟩ ?_)
  refine WE.next (WC.seq (WC.region (WL.mv rfl rfl rfl rfl rfl ?_)))
  refine WL.val _ rfl rfl rfl (fun za zC zh zk => ld_35 rfl (zh.ev rfl) ((hB70.cell 0).trans rfl) ((hB70.cell 1).trans rfl) zk) ?_
  have hk73 : BkSJ w68 w1.heap.size gk2 smallSg wN1 (fun b => b = g10 ∨ b = g19) := BkSJ.avoid hk63 (fun b q => by
   rcases q with rfl | rfl <;> first | (right; left; omega) | (left; refine ⟨.inl ?_, by omega⟩; simp))
  have hl78 := hB70.lt
  have hl79 := hB71.lt
  refine WL.call rfl rfl rfl (fun za zh zC => wp_call (by kernel_rfl) rfl (hv2 (zh.ev rfl) (zh.ev rfl))) (putS2 (A := fun _ => False) (fun b q => q.elim) inA hk73) ?_
  rintro _ w80 ⟨rfl, Y74, hY75, hc76, hk77⟩
  have hb81 := chg_below hb69 hc76 (fun b q => hY75 b (.inr (by omega)) (by have z := (hb69).size; omega))
  have hB82 := chg_blk hB70 hc76 (hY75 _ (.inl (by simp)) hl78)
  have hB83 := chg_blk hB71 hc76 (hY75 _ (.inl (by simp)) hl79)
  refine WL.mv rfl rfl rfl rfl rfl ?_
  refine WL.val (.int .i64 0) rfl rfl rfl (fun za zC zh zk => ext2_0 rfl (zh.ev rfl) zk) ?_
  refine WL.val (.int .i64 0) rfl rfl rfl (fun za zC zh zk => ext2_1 rfl (zh.ev rfl) zk) ?_
  refine WL.asg rfl rfl rfl rfl rfl (WL.asg rfl rfl rfl rfl rfl (WL.nil (WE.next (WC.seq (WC.region (WL.mv rfl rfl rfl rfl rfl ?_))))))
  refine WL.val _ rfl rfl rfl (fun za zC zh zk => ld_35 rfl (zh.ev rfl) ((hB83.cell 0).trans rfl) ((hB83.cell 1).trans rfl) zk) ?_
  refine WL.val _ rfl rfl rfl (fun za zC zh zk => ld_35 rfl (zh.ev rfl) ((hB82.cell 0).trans rfl) ((hB82.cell 1).trans rfl) zk) ?_
  refine WL.step (post := NewRow w80 35 #[.int .i64 ((-1)), .slice none 0 0, .int .i64 1, .slice none 0 0] 2) rfl rfl rfl (fun za zC zh zk => row_25_2 rfl (zh.ev rfl) (zh.ev rfl) (zk _ _ (newRow _ _ _ _))) ?_
  rintro _ w84 ⟨g85, rfl, hg86, hB87, hb88, hz89⟩
  have hl90 : g10 < g85 := by have z1 := hB82.lt; omega
  have hl91 : g19 < g85 := by have z1 := hB83.lt; omega
  have hl92 : w.heap.size ≤ g85 := by have z2 := (hb81).size; omega
  have hl93 : w80.heap.size ≤ g85 := by omega
  refine WL.val (.agg #[.int .i64 2, .slice ((some ⟨g85, 0, none⟩)) 2 2]) rfl rfl rfl (fun za zC zh zk => build_35_0_1 rfl (zh.ev rfl) (zh.ev rfl) zk) ?_
  have hB95 := hB82.below hb88
  have hB96 := hB83.below hb88
  have hk94 : BkSJ w80 w1.heap.size gk2 smallSg wN1 (fun b => b = g10 ∨ b = g19 ∨ b = g85) := BkSJ.avoid hk77 (fun b q => by
   rcases q with rfl | rfl | rfl <;> first | (right; left; omega) | (left; refine ⟨.inl ?_, by omega⟩; simp))
  have hb101 : Below w.heap.size w w84 := (bstep hb81 hb88)
  have hl102 := hB95.lt
  have hl103 := hB96.lt
  have hl104 := hB87.lt
  refine WL.call rfl rfl rfl (fun za zh zC => wp_call (by kernel_rfl) rfl (hv2 (zh.ev rfl) (zh.ev rfl))) (putS3 (A := fun b => b = g85) (fun b e => ⟨.inl (by rw [show b = g85 from e]; simp), by rw [show b = g85 from e]; exact hB87.lt⟩) (in2 (by unfold I64; omega) (by unfold I64; omega) hB87) (BkSJ.below hk94 hb88)) ?_
  rintro _ w105 ⟨rfl, Y97, hY98, hc99, hk100⟩
  have hb106 := chg_below hb101 hc99 (fun b q => hY98 b (.inr (by omega)) (by have z := (hb101).size; omega))
  have hB107 := chg_blk hB95 hc99 (hY98 _ (.inl (by simp)) hl102)
  have hB108 := chg_blk hB96 hc99 (hY98 _ (.inl (by simp)) hl103)
  have hB109 := chg_blk hB87 hc99 (hY98 _ (.inl (by simp)) hl104)
  refine WL.mv rfl rfl rfl rfl rfl ?_
  refine WL.val (.int .i64 3) rfl rfl rfl (fun za zC zh zk => ext2_0 rfl (zh.ev rfl) zk) ?_
  refine WL.val (.int .i64 0) rfl rfl rfl (fun za zC zh zk => ext2_1 rfl (zh.ev rfl) zk) ?_
  refine WL.asg rfl rfl rfl rfl rfl (WL.asg rfl rfl rfl rfl rfl (WL.nil (WE.next (WC.seq (WC.region ?_)))))
  refine WL.val (.agg #[.slice none 0 0]) rfl rfl rfl (fun za zC zh zk => build_24_ rfl  zk) ?_
  refine WL.call rfl rfl rfl (fun za zh zC => wp_call (by kernel_rfl) rfl (hv1 (zh.ev rfl))) (newE_any _) ?_
  rintro _ w111 ⟨rfl, hq110⟩
  refine WL.mv rfl rfl rfl rfl rfl ?_
  refine WL.val (.pointer none) rfl rfl rfl (fun za zC zh zk => ext2_0 rfl (zh.ev rfl) zk) ?_
  refine WL.val (.int .i64 2) rfl rfl rfl (fun za zC zh zk => ext2_1 rfl (zh.ev rfl) zk) ?_
  refine WL.asg rfl rfl rfl rfl rfl (WL.asg rfl rfl rfl rfl rfl ?_)
  refine WL.nil (WE.sub (K' := [(0, .bool false), (1, .pointer (some ⟨gk2, 0, none⟩)), (2, .int .i64 0), (3, .pointer (some ⟨g10, 0, none⟩)), (4, .pointer (some ⟨g19, 0, none⟩)), (5, .int .i64 2), (6, .int .i64 0), (7, .int .i64 0), (8, .int .i64 3), (9, .int .i64 0), (11, .int .i64 2), (22, .bool ((((0 : Int) != (0 : Int)) || false)))]) ⟨rfl, rfl, rfl, rfl, rfl, rfl, rfl, rfl, rfl, rfl, rfl, rfl, trivial⟩ ?_)
  refine WE.next (WC.seq ?_)
  refine WC.opt [(true, .val (.int .i64 0)), (true, .val (.bool (((0 : Int) == (0 : Int))))), (true, .val (.bool (((0 : Int) == (0 : Int))))), ((true && ((0 : Int) == (0 : Int))), .val (.int .i64 2)), ((true && ((0 : Int) == (0 : Int))), .val (.bool (((2 : Int) == (2 : Int))))), (true, .val (.bool ((((0 : Int) == (0 : Int)) && ((2 : Int) == (2 : Int)))))), (true, .val (.bool ((((0 : Int) == (0 : Int)) && ((2 : Int) == (2 : Int)))))), ((true && (((0 : Int) == (0 : Int)) && ((2 : Int) == (2 : Int)))), .val (.int .i64 0)), ((true && (((0 : Int) == (0 : Int)) && ((2 : Int) == (2 : Int)))), .val (.bool (((0 : Int) == (0 : Int))))), (true, .val (.bool (((((0 : Int) == (0 : Int)) && ((2 : Int) == (2 : Int))) && ((0 : Int) == (0 : Int)))))), (true, .val (.bool (((((0 : Int) == (0 : Int)) && ((2 : Int) == (2 : Int))) && ((0 : Int) == (0 : Int)))))), ((true && ((((0 : Int) == (0 : Int)) && ((2 : Int) == (2 : Int))) && ((0 : Int) == (0 : Int)))), .val (.int .i64 0)), ((true && ((((0 : Int) == (0 : Int)) && ((2 : Int) == (2 : Int))) && ((0 : Int) == (0 : Int)))), .val (.bool (((0 : Int) == (0 : Int))))), (true, .val (.bool ((((((0 : Int) == (0 : Int)) && ((2 : Int) == (2 : Int))) && ((0 : Int) == (0 : Int))) && ((0 : Int) == (0 : Int)))))), (true, .val (.bool ((((((0 : Int) == (0 : Int)) && ((2 : Int) == (2 : Int))) && ((0 : Int) == (0 : Int))) && ((0 : Int) == (0 : Int)))))), ((true && (((((0 : Int) == (0 : Int)) && ((2 : Int) == (2 : Int))) && ((0 : Int) == (0 : Int))) && ((0 : Int) == (0 : Int)))), .val (.int .i64 0)), ((true && (((((0 : Int) == (0 : Int)) && ((2 : Int) == (2 : Int))) && ((0 : Int) == (0 : Int))) && ((0 : Int) == (0 : Int)))), .val (.bool (((0 : Int) == (0 : Int))))), (true, .val (.bool (((((((0 : Int) == (0 : Int)) && ((2 : Int) == (2 : Int))) && ((0 : Int) == (0 : Int))) && ((0 : Int) == (0 : Int))) && ((0 : Int) == (0 : Int)))))), (true, .val (.bool (((((((0 : Int) == (0 : Int)) && ((2 : Int) == (2 : Int))) && ((0 : Int) == (0 : Int))) && ((0 : Int) == (0 : Int))) && ((0 : Int) == (0 : Int)))))), ((true && ((((((0 : Int) == (0 : Int)) && ((2 : Int) == (2 : Int))) && ((0 : Int) == (0 : Int))) && ((0 : Int) == (0 : Int))) && ((0 : Int) == (0 : Int)))), .val (.int .i64 3)), ((true && ((((((0 : Int) == (0 : Int)) && ((2 : Int) == (2 : Int))) && ((0 : Int) == (0 : Int))) && ((0 : Int) == (0 : Int))) && ((0 : Int) == (0 : Int)))), .val (.bool (((3 : Int) == (3 : Int))))), (true, .val (.bool ((((((((0 : Int) == (0 : Int)) && ((2 : Int) == (2 : Int))) && ((0 : Int) == (0 : Int))) && ((0 : Int) == (0 : Int))) && ((0 : Int) == (0 : Int))) && ((3 : Int) == (3 : Int)))))), (true, .val (.bool ((((((((0 : Int) == (0 : Int)) && ((2 : Int) == (2 : Int))) && ((0 : Int) == (0 : Int))) && ((0 : Int) == (0 : Int))) && ((0 : Int) == (0 : Int))) && ((3 : Int) == (3 : Int)))))), ((true && (((((((0 : Int) == (0 : Int)) && ((2 : Int) == (2 : Int))) && ((0 : Int) == (0 : Int))) && ((0 : Int) == (0 : Int))) && ((0 : Int) == (0 : Int))) && ((3 : Int) == (3 : Int)))), .val (.pointer (some ⟨gk2, 0, none⟩))), ((true && (((((((0 : Int) == (0 : Int)) && ((2 : Int) == (2 : Int))) && ((0 : Int) == (0 : Int))) && ((0 : Int) == (0 : Int))) && ((0 : Int) == (0 : Int))) && ((3 : Int) == (3 : Int)))), .val (.int .i64 4)), ((true && (((((((0 : Int) == (0 : Int)) && ((2 : Int) == (2 : Int))) && ((0 : Int) == (0 : Int))) && ((0 : Int) == (0 : Int))) && ((0 : Int) == (0 : Int))) && ((3 : Int) == (3 : Int)))), .val (.bool (((4 : Int) == (4 : Int))))), (true, .val (.bool (((((((((0 : Int) == (0 : Int)) && ((2 : Int) == (2 : Int))) && ((0 : Int) == (0 : Int))) && ((0 : Int) == (0 : Int))) && ((0 : Int) == (0 : Int))) && ((3 : Int) == (3 : Int))) && ((4 : Int) == (4 : Int)))))), (true, .val (.bool (((((((((0 : Int) == (0 : Int)) && ((2 : Int) == (2 : Int))) && ((0 : Int) == (0 : Int))) && ((0 : Int) == (0 : Int))) && ((0 : Int) == (0 : Int))) && ((3 : Int) == (3 : Int))) && ((4 : Int) == (4 : Int)))))), ((true && ((((((((0 : Int) == (0 : Int)) && ((2 : Int) == (2 : Int))) && ((0 : Int) == (0 : Int))) && ((0 : Int) == (0 : Int))) && ((0 : Int) == (0 : Int))) && ((3 : Int) == (3 : Int))) && ((4 : Int) == (4 : Int)))), .val (.pointer (some ⟨gk2, 0, none⟩))), ((true && ((((((((0 : Int) == (0 : Int)) && ((2 : Int) == (2 : Int))) && ((0 : Int) == (0 : Int))) && ((0 : Int) == (0 : Int))) && ((0 : Int) == (0 : Int))) && ((3 : Int) == (3 : Int))) && ((4 : Int) == (4 : Int)))), .val (.int .i64 3)), ((true && ((((((((0 : Int) == (0 : Int)) && ((2 : Int) == (2 : Int))) && ((0 : Int) == (0 : Int))) && ((0 : Int) == (0 : Int))) && ((0 : Int) == (0 : Int))) && ((3 : Int) == (3 : Int))) && ((4 : Int) == (4 : Int)))), .val (.bool (((3 : Int) == (3 : Int))))), (true, .val (.bool ((((((((((0 : Int) == (0 : Int)) && ((2 : Int) == (2 : Int))) && ((0 : Int) == (0 : Int))) && ((0 : Int) == (0 : Int))) && ((0 : Int) == (0 : Int))) && ((3 : Int) == (3 : Int))) && ((4 : Int) == (4 : Int))) && ((3 : Int) == (3 : Int)))))), (true, .val (.bool ((((((((((0 : Int) == (0 : Int)) && ((2 : Int) == (2 : Int))) && ((0 : Int) == (0 : Int))) && ((0 : Int) == (0 : Int))) && ((0 : Int) == (0 : Int))) && ((3 : Int) == (3 : Int))) && ((4 : Int) == (4 : Int))) && ((3 : Int) == (3 : Int)))))), ((true && (((((((((0 : Int) == (0 : Int)) && ((2 : Int) == (2 : Int))) && ((0 : Int) == (0 : Int))) && ((0 : Int) == (0 : Int))) && ((0 : Int) == (0 : Int))) && ((3 : Int) == (3 : Int))) && ((4 : Int) == (4 : Int))) && ((3 : Int) == (3 : Int)))), .val (.pointer (some ⟨gk2, 0, none⟩))), ((true && (((((((((0 : Int) == (0 : Int)) && ((2 : Int) == (2 : Int))) && ((0 : Int) == (0 : Int))) && ((0 : Int) == (0 : Int))) && ((0 : Int) == (0 : Int))) && ((3 : Int) == (3 : Int))) && ((4 : Int) == (4 : Int))) && ((3 : Int) == (3 : Int)))), .val (.bool true)), (true, .val (.bool (((((((((((0 : Int) == (0 : Int)) && ((2 : Int) == (2 : Int))) && ((0 : Int) == (0 : Int))) && ((0 : Int) == (0 : Int))) && ((0 : Int) == (0 : Int))) && ((3 : Int) == (3 : Int))) && ((4 : Int) == (4 : Int))) && ((3 : Int) == (3 : Int))) && true)))), (true, .val (.bool (((((((((((0 : Int) == (0 : Int)) && ((2 : Int) == (2 : Int))) && ((0 : Int) == (0 : Int))) && ((0 : Int) == (0 : Int))) && ((0 : Int) == (0 : Int))) && ((3 : Int) == (3 : Int))) && ((4 : Int) == (4 : Int))) && ((3 : Int) == (3 : Int))) && true)))), ((true && ((((((((((0 : Int) == (0 : Int)) && ((2 : Int) == (2 : Int))) && ((0 : Int) == (0 : Int))) && ((0 : Int) == (0 : Int))) && ((0 : Int) == (0 : Int))) && ((3 : Int) == (3 : Int))) && ((4 : Int) == (4 : Int))) && ((3 : Int) == (3 : Int))) && true)), .val (.pointer (some ⟨gk2, 0, none⟩))), ((true && ((((((((((0 : Int) == (0 : Int)) && ((2 : Int) == (2 : Int))) && ((0 : Int) == (0 : Int))) && ((0 : Int) == (0 : Int))) && ((0 : Int) == (0 : Int))) && ((3 : Int) == (3 : Int))) && ((4 : Int) == (4 : Int))) && ((3 : Int) == (3 : Int))) && true)), .val (.bool false)), ((true && ((((((((((0 : Int) == (0 : Int)) && ((2 : Int) == (2 : Int))) && ((0 : Int) == (0 : Int))) && ((0 : Int) == (0 : Int))) && ((0 : Int) == (0 : Int))) && ((3 : Int) == (3 : Int))) && ((4 : Int) == (4 : Int))) && ((3 : Int) == (3 : Int))) && true)), .val (.bool ((!false)))), (true, .val (.bool ((((((((((((0 : Int) == (0 : Int)) && ((2 : Int) == (2 : Int))) && ((0 : Int) == (0 : Int))) && ((0 : Int) == (0 : Int))) && ((0 : Int) == (0 : Int))) && ((3 : Int) == (3 : Int))) && ((4 : Int) == (4 : Int))) && ((3 : Int) == (3 : Int))) && true) && (!false))))), (true, .val (.bool ((((((((((((0 : Int) == (0 : Int)) && ((2 : Int) == (2 : Int))) && ((0 : Int) == (0 : Int))) && ((0 : Int) == (0 : Int))) && ((0 : Int) == (0 : Int))) && ((3 : Int) == (3 : Int))) && ((4 : Int) == (4 : Int))) && ((3 : Int) == (3 : Int))) && true) && (!false))))), ((true && (((((((((((0 : Int) == (0 : Int)) && ((2 : Int) == (2 : Int))) && ((0 : Int) == (0 : Int))) && ((0 : Int) == (0 : Int))) && ((0 : Int) == (0 : Int))) && ((3 : Int) == (3 : Int))) && ((4 : Int) == (4 : Int))) && ((3 : Int) == (3 : Int))) && true) && (!false))), .val (.int .i64 2)), ((true && (((((((((((0 : Int) == (0 : Int)) && ((2 : Int) == (2 : Int))) && ((0 : Int) == (0 : Int))) && ((0 : Int) == (0 : Int))) && ((0 : Int) == (0 : Int))) && ((3 : Int) == (3 : Int))) && ((4 : Int) == (4 : Int))) && ((3 : Int) == (3 : Int))) && true) && (!false))), .val (.bool (((2 : Int) == (2 : Int))))), (true, .val (.bool (((((((((((((0 : Int) == (0 : Int)) && ((2 : Int) == (2 : Int))) && ((0 : Int) == (0 : Int))) && ((0 : Int) == (0 : Int))) && ((0 : Int) == (0 : Int))) && ((3 : Int) == (3 : Int))) && ((4 : Int) == (4 : Int))) && ((3 : Int) == (3 : Int))) && true) && (!false)) && ((2 : Int) == (2 : Int)))))), (true, .val (.bool (((((((((((((0 : Int) == (0 : Int)) && ((2 : Int) == (2 : Int))) && ((0 : Int) == (0 : Int))) && ((0 : Int) == (0 : Int))) && ((0 : Int) == (0 : Int))) && ((3 : Int) == (3 : Int))) && ((4 : Int) == (4 : Int))) && ((3 : Int) == (3 : Int))) && true) && (!false)) && ((2 : Int) == (2 : Int))))))] [(1, .pointer (some ⟨gk2, 0, none⟩)), (2, .int .i64 0), (3, .pointer (some ⟨g10, 0, none⟩)), (4, .pointer (some ⟨g19, 0, none⟩)), (5, .int .i64 2), (6, .int .i64 0), (7, .int .i64 0), (8, .int .i64 3), (9, .int .i64 0), (11, .int .i64 2), (22, .bool ((((0 : Int) != (0 : Int)) || false)))] ⟨rfl, rfl, rfl, rfl, rfl, rfl, rfl, rfl, rfl, rfl, rfl, trivial⟩ (by kernel_rfl) (by kernel_rfl) (by kernel_rfl) ?_ ?_
  ·refine ⟨⟨true, .none rfl, fun h w => optUndef h, fun zβ za zw zc => ?_⟩, ?_⟩
   ·exact wp_move rfl (zc.kn.ev rfl) ⟨_, rfl, Below.refl _ _, optDef zβ rfl⟩
   refine ⟨⟨true, .none rfl, fun h w => optUndef h, fun zβ za zw zc => ?_⟩, ?_⟩
   ·exact eql_27 rfl ((evt za 54).trans (optVal (zc.dep 0 54 (by kernel_rfl)) rfl rfl)) (zc.kn.ev rfl) ⟨_, rfl, Below.refl _ _, optDef zβ rfl⟩
   refine ⟨⟨true, .none rfl, fun h w => optUndef h, fun zβ za zw zc => ?_⟩, ?_⟩
   ·exact wp_move rfl ((evt za 55).trans (optVal (zc.dep 1 55 (by kernel_rfl)) rfl rfl)) ⟨_, rfl, Below.refl _ _, optDef zβ rfl⟩
   refine ⟨⟨_, .yes (d := true) rfl (fun v w h => h), fun h w => optUndef h, fun zβ za zw zc => ?_⟩, ?_⟩
   ·exact wp_move rfl (zc.kn.ev rfl) ⟨_, rfl, Below.refl _ _, optDef zβ rfl⟩
   refine ⟨⟨_, .yes (d := true) rfl (fun v w h => h), fun h w => optUndef h, fun zβ za zw zc => ?_⟩, ?_⟩
   ·exact eql_3 rfl ((evt za 57).trans (optVal (zc.dep 3 57 (by kernel_rfl)) rfl zβ)) (zc.kn.ev rfl) ⟨_, rfl, Below.refl _ _, optDef zβ rfl⟩
   refine ⟨⟨true, .none rfl, fun h w => optUndef h, fun zβ za zw zc => ?_⟩, ?_⟩
   ·exact wp_and rfl ((evt za 56).trans (optVal (zc.dep 2 56 (by kernel_rfl)) rfl rfl)) (fun hp => ((evt za 58).trans (optVal (zc.dep 4 58 (by kernel_rfl)) rfl (bMk zβ hp)))) ⟨_, rfl, Below.refl _ _, optDef zβ rfl⟩
   refine ⟨⟨true, .none rfl, fun h w => optUndef h, fun zβ za zw zc => ?_⟩, ?_⟩
   ·exact wp_move rfl ((evt za 59).trans (optVal (zc.dep 5 59 (by kernel_rfl)) rfl rfl)) ⟨_, rfl, Below.refl _ _, optDef zβ rfl⟩
   refine ⟨⟨_, .yes (d := true) rfl (fun v w h => h), fun h w => optUndef h, fun zβ za zw zc => ?_⟩, ?_⟩
   ·exact wp_move rfl (zc.kn.ev rfl) ⟨_, rfl, Below.refl _ _, optDef zβ rfl⟩
   refine ⟨⟨_, .yes (d := true) rfl (fun v w h => h), fun h w => optUndef h, fun zβ za zw zc => ?_⟩, ?_⟩
   ·exact eql_27 rfl ((evt za 61).trans (optVal (zc.dep 7 61 (by kernel_rfl)) rfl zβ)) (zc.kn.ev rfl) ⟨_, rfl, Below.refl _ _, optDef zβ rfl⟩
   refine ⟨⟨true, .none rfl, fun h w => optUndef h, fun zβ za zw zc => ?_⟩, ?_⟩
   ·exact wp_and rfl ((evt za 60).trans (optVal (zc.dep 6 60 (by kernel_rfl)) rfl rfl)) (fun hp => ((evt za 62).trans (optVal (zc.dep 8 62 (by kernel_rfl)) rfl (bMk zβ hp)))) ⟨_, rfl, Below.refl _ _, optDef zβ rfl⟩
   refine ⟨⟨true, .none rfl, fun h w => optUndef h, fun zβ za zw zc => ?_⟩, ?_⟩
   ·exact wp_move rfl ((evt za 63).trans (optVal (zc.dep 9 63 (by kernel_rfl)) rfl rfl)) ⟨_, rfl, Below.refl _ _, optDef zβ rfl⟩
   refine ⟨⟨_, .yes (d := true) rfl (fun v w h => h), fun h w => optUndef h, fun zβ za zw zc => ?_⟩, ?_⟩
   ·exact wp_move rfl (zc.kn.ev rfl) ⟨_, rfl, Below.refl _ _, optDef zβ rfl⟩
   refine ⟨⟨_, .yes (d := true) rfl (fun v w h => h), fun h w => optUndef h, fun zβ za zw zc => ?_⟩, ?_⟩
   ·exact eql_3 rfl ((evt za 65).trans (optVal (zc.dep 11 65 (by kernel_rfl)) rfl zβ)) (zc.kn.ev rfl) ⟨_, rfl, Below.refl _ _, optDef zβ rfl⟩
   refine ⟨⟨true, .none rfl, fun h w => optUndef h, fun zβ za zw zc => ?_⟩, ?_⟩
   ·exact wp_and rfl ((evt za 64).trans (optVal (zc.dep 10 64 (by kernel_rfl)) rfl rfl)) (fun hp => ((evt za 66).trans (optVal (zc.dep 12 66 (by kernel_rfl)) rfl (bMk zβ hp)))) ⟨_, rfl, Below.refl _ _, optDef zβ rfl⟩
   refine ⟨⟨true, .none rfl, fun h w => optUndef h, fun zβ za zw zc => ?_⟩, ?_⟩
   ·exact wp_move rfl ((evt za 67).trans (optVal (zc.dep 13 67 (by kernel_rfl)) rfl rfl)) ⟨_, rfl, Below.refl _ _, optDef zβ rfl⟩
   refine ⟨⟨_, .yes (d := true) rfl (fun v w h => h), fun h w => optUndef h, fun zβ za zw zc => ?_⟩, ?_⟩
   ·exact wp_move rfl (zc.kn.ev rfl) ⟨_, rfl, Below.refl _ _, optDef zβ rfl⟩
   refine ⟨⟨_, .yes (d := true) rfl (fun v w h => h), fun h w => optUndef h, fun zβ za zw zc => ?_⟩, ?_⟩
   ·exact eql_27 rfl ((evt za 69).trans (optVal (zc.dep 15 69 (by kernel_rfl)) rfl zβ)) (zc.kn.ev rfl) ⟨_, rfl, Below.refl _ _, optDef zβ rfl⟩
   refine ⟨⟨true, .none rfl, fun h w => optUndef h, fun zβ za zw zc => ?_⟩, ?_⟩
   ·exact wp_and rfl ((evt za 68).trans (optVal (zc.dep 14 68 (by kernel_rfl)) rfl rfl)) (fun hp => ((evt za 70).trans (optVal (zc.dep 16 70 (by kernel_rfl)) rfl (bMk zβ hp)))) ⟨_, rfl, Below.refl _ _, optDef zβ rfl⟩
   refine ⟨⟨true, .none rfl, fun h w => optUndef h, fun zβ za zw zc => ?_⟩, ?_⟩
   ·exact wp_move rfl ((evt za 71).trans (optVal (zc.dep 17 71 (by kernel_rfl)) rfl rfl)) ⟨_, rfl, Below.refl _ _, optDef zβ rfl⟩
   refine ⟨⟨_, .yes (d := true) rfl (fun v w h => h), fun h w => optUndef h, fun zβ za zw zc => ?_⟩, ?_⟩
   ·exact wp_move rfl (zc.kn.ev rfl) ⟨_, rfl, Below.refl _ _, optDef zβ rfl⟩
   refine ⟨⟨_, .yes (d := true) rfl (fun v w h => h), fun h w => optUndef h, fun zβ za zw zc => ?_⟩, ?_⟩
   ·exact eql_3 rfl ((evt za 73).trans (optVal (zc.dep 19 73 (by kernel_rfl)) rfl zβ)) (zc.kn.ev rfl) ⟨_, rfl, Below.refl _ _, optDef zβ rfl⟩
   refine ⟨⟨true, .none rfl, fun h w => optUndef h, fun zβ za zw zc => ?_⟩, ?_⟩
   ·exact wp_and rfl ((evt za 72).trans (optVal (zc.dep 18 72 (by kernel_rfl)) rfl rfl)) (fun hp => ((evt za 74).trans (optVal (zc.dep 20 74 (by kernel_rfl)) rfl (bMk zβ hp)))) ⟨_, rfl, Below.refl _ _, optDef zβ rfl⟩
   refine ⟨⟨true, .none rfl, fun h w => optUndef h, fun zβ za zw zc => ?_⟩, ?_⟩
   ·exact wp_move rfl ((evt za 75).trans (optVal (zc.dep 21 75 (by kernel_rfl)) rfl rfl)) ⟨_, rfl, Below.refl _ _, optDef zβ rfl⟩
   refine ⟨⟨_, .yes (d := true) rfl (fun v w h => h), fun h w => optUndef h, fun zβ za zw zc => ?_⟩, ?_⟩
   ·exact wp_move rfl (zc.kn.ev rfl) ⟨_, rfl, Below.refl _ _, optDef zβ rfl⟩
   refine ⟨⟨_, .yes (d := true) rfl (fun v w h => h), fun h w => optUndef h, fun zβ za zw zc => ?_⟩, ?_⟩
   ·exact wp_call (by kernel_rfl) rfl (hv1 ((evt za 77).trans (optVal (zc.dep 23 77 (by kernel_rfl)) rfl zβ))) (jLen (BkSJ.below hk100 (bstep hq110 zc.below))) (fun v w' h => ⟨v, rfl, h.2, optDef zβ h.1⟩)
   refine ⟨⟨_, .yes (d := true) rfl (fun v w h => h), fun h w => optUndef h, fun zβ za zw zc => ?_⟩, ?_⟩
   ·exact eql_3 rfl ((evt za 78).trans (optVal (zc.dep 24 78 (by kernel_rfl)) rfl zβ)) (zc.kn.ev rfl) ⟨_, rfl, Below.refl _ _, optDef zβ rfl⟩
   refine ⟨⟨true, .none rfl, fun h w => optUndef h, fun zβ za zw zc => ?_⟩, ?_⟩
   ·exact wp_and rfl ((evt za 76).trans (optVal (zc.dep 22 76 (by kernel_rfl)) rfl rfl)) (fun hp => ((evt za 79).trans (optVal (zc.dep 25 79 (by kernel_rfl)) rfl (bMk zβ hp)))) ⟨_, rfl, Below.refl _ _, optDef zβ rfl⟩
   refine ⟨⟨true, .none rfl, fun h w => optUndef h, fun zβ za zw zc => ?_⟩, ?_⟩
   ·exact wp_move rfl ((evt za 80).trans (optVal (zc.dep 26 80 (by kernel_rfl)) rfl rfl)) ⟨_, rfl, Below.refl _ _, optDef zβ rfl⟩
   refine ⟨⟨_, .yes (d := true) rfl (fun v w h => h), fun h w => optUndef h, fun zβ za zw zc => ?_⟩, ?_⟩
   ·exact wp_move rfl (zc.kn.ev rfl) ⟨_, rfl, Below.refl _ _, optDef zβ rfl⟩
   refine ⟨⟨_, .yes (d := true) rfl (fun v w h => h), fun h w => optUndef h, fun zβ za zw zc => ?_⟩, ?_⟩
   ·exact wp_call (by kernel_rfl) rfl (hv2 ((evt za 82).trans (optVal (zc.dep 28 82 (by kernel_rfl)) rfl zβ)) (zc.kn.ev rfl)) (jSize 2 (by decide) (BkSJ.below hk100 (bstep hq110 zc.below))) (fun v w' h => ⟨v, rfl, h.2, optDef zβ h.1⟩)
   refine ⟨⟨_, .yes (d := true) rfl (fun v w h => h), fun h w => optUndef h, fun zβ za zw zc => ?_⟩, ?_⟩
   ·exact eql_3 rfl ((evt za 83).trans (optVal (zc.dep 29 83 (by kernel_rfl)) rfl zβ)) (zc.kn.ev rfl) ⟨_, rfl, Below.refl _ _, optDef zβ rfl⟩
   refine ⟨⟨true, .none rfl, fun h w => optUndef h, fun zβ za zw zc => ?_⟩, ?_⟩
   ·exact wp_and rfl ((evt za 81).trans (optVal (zc.dep 27 81 (by kernel_rfl)) rfl rfl)) (fun hp => ((evt za 84).trans (optVal (zc.dep 30 84 (by kernel_rfl)) rfl (bMk zβ hp)))) ⟨_, rfl, Below.refl _ _, optDef zβ rfl⟩
   refine ⟨⟨true, .none rfl, fun h w => optUndef h, fun zβ za zw zc => ?_⟩, ?_⟩
   ·exact wp_move rfl ((evt za 85).trans (optVal (zc.dep 31 85 (by kernel_rfl)) rfl rfl)) ⟨_, rfl, Below.refl _ _, optDef zβ rfl⟩
   refine ⟨⟨_, .yes (d := true) rfl (fun v w h => h), fun h w => optUndef h, fun zβ za zw zc => ?_⟩, ?_⟩
   ·exact wp_move rfl (zc.kn.ev rfl) ⟨_, rfl, Below.refl _ _, optDef zβ rfl⟩
   refine ⟨⟨_, .yes (d := true) rfl (fun v w h => h), fun h w => optUndef h, fun zβ za zw zc => ?_⟩, ?_⟩
   ·exact wp_call (by kernel_rfl) rfl (hv2 ((evt za 87).trans (optVal (zc.dep 33 87 (by kernel_rfl)) rfl zβ)) (zc.kn.ev rfl)) (jGround 0 (by decide) (BkSJ.below hk100 (bstep hq110 zc.below))) (fun v w' h => ⟨v, rfl, h.2, optDef zβ h.1⟩)
   refine ⟨⟨true, .none rfl, fun h w => optUndef h, fun zβ za zw zc => ?_⟩, ?_⟩
   ·exact wp_and rfl ((evt za 86).trans (optVal (zc.dep 32 86 (by kernel_rfl)) rfl rfl)) (fun hp => ((evt za 88).trans (optVal (zc.dep 34 88 (by kernel_rfl)) rfl (bMk zβ hp)))) ⟨_, rfl, Below.refl _ _, optDef zβ rfl⟩
   refine ⟨⟨true, .none rfl, fun h w => optUndef h, fun zβ za zw zc => ?_⟩, ?_⟩
   ·exact wp_move rfl ((evt za 89).trans (optVal (zc.dep 35 89 (by kernel_rfl)) rfl rfl)) ⟨_, rfl, Below.refl _ _, optDef zβ rfl⟩
   refine ⟨⟨_, .yes (d := true) rfl (fun v w h => h), fun h w => optUndef h, fun zβ za zw zc => ?_⟩, ?_⟩
   ·exact wp_move rfl (zc.kn.ev rfl) ⟨_, rfl, Below.refl _ _, optDef zβ rfl⟩
   refine ⟨⟨_, .yes (d := true) rfl (fun v w h => h), fun h w => optUndef h, fun zβ za zw zc => ?_⟩, ?_⟩
   ·exact wp_call (by kernel_rfl) rfl (hv2 ((evt za 91).trans (optVal (zc.dep 37 91 (by kernel_rfl)) rfl zβ)) (zc.kn.ev rfl)) (jGround 1 (by decide) (BkSJ.below hk100 (bstep hq110 zc.below))) (fun v w' h => ⟨v, rfl, h.2, optDef zβ h.1⟩)
   refine ⟨⟨_, .yes (d := true) rfl (fun v w h => h), fun h w => optUndef h, fun zβ za zw zc => ?_⟩, ?_⟩
   ·exact wp_not rfl ((evt za 92).trans (optVal (zc.dep 38 92 (by kernel_rfl)) rfl zβ)) ⟨_, rfl, Below.refl _ _, optDef zβ rfl⟩
   refine ⟨⟨true, .none rfl, fun h w => optUndef h, fun zβ za zw zc => ?_⟩, ?_⟩
   ·exact wp_and rfl ((evt za 90).trans (optVal (zc.dep 36 90 (by kernel_rfl)) rfl rfl)) (fun hp => ((evt za 93).trans (optVal (zc.dep 39 93 (by kernel_rfl)) rfl (bMk zβ hp)))) ⟨_, rfl, Below.refl _ _, optDef zβ rfl⟩
   refine ⟨⟨true, .none rfl, fun h w => optUndef h, fun zβ za zw zc => ?_⟩, ?_⟩
   ·exact wp_move rfl ((evt za 94).trans (optVal (zc.dep 40 94 (by kernel_rfl)) rfl rfl)) ⟨_, rfl, Below.refl _ _, optDef zβ rfl⟩
   refine ⟨⟨_, .yes (d := true) rfl (fun v w h => h), fun h w => optUndef h, fun zβ za zw zc => ?_⟩, ?_⟩
   ·exact wp_move rfl (zc.kn.ev rfl) ⟨_, rfl, Below.refl _ _, optDef zβ rfl⟩
   refine ⟨⟨_, .yes (d := true) rfl (fun v w h => h), fun h w => optUndef h, fun zβ za zw zc => ?_⟩, ?_⟩
   ·exact eql_27 rfl ((evt za 96).trans (optVal (zc.dep 42 96 (by kernel_rfl)) rfl zβ)) (zc.kn.ev rfl) ⟨_, rfl, Below.refl _ _, optDef zβ rfl⟩
   refine ⟨⟨true, .none rfl, fun h w => optUndef h, fun zβ za zw zc => ?_⟩, ?_⟩
   ·exact wp_and rfl ((evt za 95).trans (optVal (zc.dep 41 95 (by kernel_rfl)) rfl rfl)) (fun hp => ((evt za 97).trans (optVal (zc.dep 43 97 (by kernel_rfl)) rfl (bMk zβ hp)))) ⟨_, rfl, Below.refl _ _, optDef zβ rfl⟩
   refine ⟨⟨true, .none rfl, fun h w => optUndef h, fun zβ za zw zc => ?_⟩, ?_⟩
   ·exact wp_assign rfl ((evt za 98).trans (optVal (zc.dep 44 98 (by kernel_rfl)) rfl rfl)) ⟨_, rfl, Below.refl _ _, optDef zβ rfl⟩
   exact trivial
  ·intro za w112 zh hb113 zu
   have zh := zh.cons (d := 0) (v := .bool (((((((((((((0 : Int) == (0 : Int)) && ((2 : Int) == (2 : Int))) && ((0 : Int) == (0 : Int))) && ((0 : Int) == (0 : Int))) && ((0 : Int) == (0 : Int))) && ((3 : Int) == (3 : Int))) && ((4 : Int) == (4 : Int))) && ((3 : Int) == (3 : Int))) && true) && (!false)) && ((2 : Int) == (2 : Int))))) (optVal (zu 45 0 (by kernel_rfl)) rfl rfl)
   clear zu
   refine WE.go zh ?_
   refine WE.next (WC.ret (WE.ret1 rfl rfl ?_))
   have hb114 : Below w.heap.size w w112 := (bstep (bstep hb106 hq110) hb113)
   exact ⟨_, rfl, congrArg Value.bool (by simp), hb114⟩
end Go.Proofs.Ytbohlpfndiiimaa

/- The order in which terms come: the law's walk. -/
namespace Go.Proofs.Ytbohlpfndiiimaa
open Go.RowKit Go
set_option linter.unusedVariables false
set_option linter.unusedSimpArgs false
section
variable {w w' : World} {B g1 g2 : Nat} {sg : List Sy} {N1 N2 : List En}
end
theorem newY (sg : List Sy) (w : World) (v : Value) (hz : sg.length ≤ 4294967296) (hs : IsSig w sg v) (hck : sigCheck sg = 0) : Calls Try.prog 7 #[v] w (Ret fun v' w' => (∃ g : Nat, v' = .tuple #[.pointer (some ⟨g, 0, none⟩), .int .i64 0] ∧ BkS w' g sg (fun b => w.heap.size ≤ b ∧ b < w'.heap.size) []) ∧ Below w.heap.size w w') := by
  refine Calls.mono (bNew_any sg w v hz hs) (fun e w' hr => ?_)
  obtain ⟨v', rfl, h, hb⟩ := hr
  rcases h with ⟨h, _⟩ | ⟨_, g, h1, _, h2⟩
  · exact absurd hck h
  · exact ⟨v', rfl, ⟨g, h1, h2⟩, hb⟩
theorem newN (sg : List Sy) (w : World) (v : Value) (hz : sg.length ≤ 4294967296) (hs : IsSig w sg v) (hck : sigCheck sg ≠ 0) : Calls Try.prog 7 #[v] w (Ret fun v' w' => v' = .tuple #[.pointer none, .int .i64 2] ∧ Below w.heap.size w w') := by
  refine Calls.mono (bNew_any sg w v hz hs) (fun e w' hr => ?_)
  obtain ⟨v', rfl, h, hb⟩ := hr
  rcases h with ⟨_, h⟩ | ⟨h, _⟩
  · exact ⟨v', rfl, h, hb⟩
  · exact absurd h hck
end Go.Proofs.Ytbohlpfndiiimaa

/- What a law's statement asks behind its call, where the call answers true and leaves all that was there as it was. -/
namespace Go.Proofs.Ytbohlpfndiiimaa
open Go.ChangeShapes Go.WideShapes Go.ChangeAt Go.RowKit
section
variable {H : Type} {enc : TypeId × Value → H} {P : Program}
theorem trodAll_below (hl : laidOutB P = true) {W W' : World} (hb : Below W.heap.size W W') : ∀ {ts : List TypeId} {vs : List Value} {ds : List (DataW H)} {ps : List MemPlace},
    (∀ t ∈ ts, P.readableRec t = true ∧ t < P.types.size) → (∀ x ∈ ps, x.block < W.heap.size) → DataW.TrodAll enc P W 0 (fun _ => true) true ts vs ds ps →
    DataW.TrodAll enc P W' 0 (fun b => decide (b < W.heap.size)) true ts vs ds ps
  | [], [], [], _, _, _, h => h
  | t :: ts, v :: vs, d :: ds, ps, hr, hlt, ⟨p, q, h1, h2, e⟩ => by
    subst e
    exact ⟨p, q, Below.trod hl (hr t (by simp)).1 (hr t (by simp)).2 h1 hb (fun x hx => hlt x (by simp [hx])), trodAll_below hl hb (fun t ht => hr t (by simp [ht])) (fun x hx => hlt x (by simp [hx])) h2, rfl⟩
  | [], _ :: _, _, _, _, _, h => h.elim
  | [], [], _ :: _, _, _, _, h => h.elim
  | _ :: _, [], _, _, _, _, h => h.elim
  | _ :: _, _ :: _, [], _, _, _, h => h.elim
theorem law_post {f : Func} {s : ChangeSpec} {W W' : World} {args : Array Value} {ds gs : List (DataW H)} {before : List MemPlace} {tb : TypeId} (hl : laidOutB P = true) (hr : ∀ t ∈ f.params.toList, P.readableRec t = true ∧ t < P.types.size)
    (htb : P.underlying tb = some .bool) (hrt : f.resultTypes = #[tb]) (hv : s.vars = []) (hs : s.fn H ds = { results := [.lit (.bool true)], args := ds })
    (hW : DataW.Whole enc P f.params.toList s.vars false W args.toList ds gs before) (hb : Below W.heap.size W W') : s.post enc P f false true false false W args (.bool true) W' := by
  have hlt : ∀ p ∈ before, p.block < W.heap.size := fun p hp => hW.lt p hp
  have hW0 := hW
  obtain ⟨p, q, hA, hV, hpq, _, _⟩ := hW
  rw [hv] at hV
  obtain ⟨rfl, rfl⟩ := trodVars_none hV
  refine ⟨ds, [], before, [], p, [], hW0, ?_, ?_, ?_, hb.frame _, fun h => by cases h⟩
  · rw [List.append_nil, hs, hrt]
    exact trodAll_cons_mk (shut_bool htb _) trodAll_mk0
  · rw [List.append_nil, hs]
    refine trodAll_below hl hb hr (fun x hx => hlt x ?_) hA
    rw [hpq]; simp [hx]
  · rw [List.append_nil, hv]
    have : (s.fn H ds).vars = [] := by rw [hs]
    rw [this]
    rfl
end
end Go.Proofs.Ytbohlpfndiiimaa

/- Arguments of a law, opened: terms, integers, truth values; rows in general. -/
namespace Go.Proofs.Ytbohlpfndiiimaa
open Go.ChangeShapes Go.WideShapes Go.ChangeAt Go.RowKit
theorem own : ownKnob Try.prog.godebug = none := by kernel_rfl
theorem one_le_bulk {H : Type} (d : DataW H) : 1 ≤ Rows.uptoBulk d := by
  cases d with
  | lit l => cases l <;> simp [Rows.uptoBulk]
  | _ => simp [Rows.uptoBulk]
theorem len_le_bulk {H : Type} (ds : List (DataW H)) : ds.length ≤ Rows.uptoBulkAll ds := by
  induction ds with
  | nil => simp
  | cons d r ih => have := one_le_bulk d; simp only [List.length_cons, Rows.uptoBulkAll]; omega
theorem readable_all {P : Program} {ts : List TypeId} (h : (ts.all fun t => P.readableRec t && Nat.blt t P.types.size) = true) : ∀ t ∈ ts, P.readableRec t = true ∧ t < P.types.size := by
  intro t ht
  have := List.all_eq_true.1 h t ht
  simp only [Bool.and_eq_true, Nat.blt_eq] at this
  exact this
theorem bulk_mem {H : Type} {l : List (DataW H)} (hk : Rows.uptoSmall H l = true) {d : DataW H} (h : d ∈ l) : Rows.uptoBulk d ≤ 1048576 :=
  Nat.le_trans (bulkAll_le h) (of_decide_eq_true hk)
section
variable {H : Type} {enc : TypeId × Value → H} {w : World} {base : Nat} {spare : Nat → Bool} {held : Bool}
theorem bulk_at {H : Type} : ∀ {ds : List (DataW H)} {d : DataW H}, d ∈ ds → Rows.uptoBulk d ≤ Rows.uptoBulkAll ds
  | [], _, h => nomatch h
  | x :: r, d, h => by
    rw [Rows.uptoBulkAll]
    rcases List.mem_cons.1 h with rfl | h
    · omega
    · have := bulk_at h; omega
end
end Go.Proofs.Ytbohlpfndiiimaa

namespace Go.Proofs.Ytbohlpfndiiimaa
open Go.ChangeShapes Go.WideShapes Go.ChangeAt Go.RowKit Go
set_option linter.unusedVariables false
set_option linter.unusedSimpArgs false
structure Ak where
  act : Int
  t : T
  n : Int
  m : Int
  p : List Int
instance : Inhabited Ak := ⟨⟨0, .mk 0 [], 0, 0, []⟩⟩
def kget (l : List Ak) (k : Nat) : Ak := l.getD k default
theorem kget_lt {l : List Ak} {k : Nat} (h : k < l.length) : kget l k = l[k] := by simp [kget, h]
def IsAk (w : World) (x : Ak) (cs : List Value) : Prop := I64 x.act ∧ I64 x.n ∧ I64 x.m ∧ ∃ u1 u2 pa pc, cs = [.int .i64 x.act, u1, u2, .int .i64 x.n, .int .i64 x.m, .slice pa x.p.length pc] ∧ IsT w x.t (.agg #[u1, u2]) ∧ PIs w x.p pa pc ∧ pc ≤ maxLen
def IsAks (w : World) (l : List Ak) (a : Option Addr) : Prop := IsRow w 6 IsAk l a ∧ ∀ k, k < l.length → (kget l k).t.size ≤ 1048576
theorem IsAks.open {w : World} {l : List Ak} {a : Option Addr} (h : IsAks w l a) : ∃ (b o : Nat) (A : Nat → Option Addr) (C : Nat → Nat) (PA : Nat → Option Addr) (PC : Nat → Nat), (∀ k, k < l.length → a = some ⟨b, o, none⟩) ∧
    ∀ k, k < l.length → w.cell? ⟨b, o + k * 6, none⟩ = some (.int .i64 (kget l k).act) ∧ w.cell? ⟨b, o + k * 6 + 1, none⟩ = some (.int .i64 (kget l k).t.f) ∧ w.cell? ⟨b, o + k * 6 + 2, none⟩ = some (.slice (A k) (kget l k).t.args.length (C k)) ∧ w.cell? ⟨b, o + k * 6 + 3, none⟩ = some (.int .i64 (kget l k).n) ∧ w.cell? ⟨b, o + k * 6 + 4, none⟩ = some (.int .i64 (kget l k).m) ∧ w.cell? ⟨b, o + k * 6 + 5, none⟩ = some (.slice (PA k) (kget l k).p.length (PC k)) ∧
      IsT w (kget l k).t (.agg #[.int .i64 (kget l k).t.f, .slice (A k) (kget l k).t.args.length (C k)]) ∧ PIs w (kget l k).p (PA k) (PC k) ∧ PC k ≤ maxLen ∧ (kget l k).t.size ≤ 1048576 ∧ I64 (kget l k).act ∧ I64 (kget l k).n ∧ I64 (kget l k).m := by
  rcases Nat.eq_zero_or_pos l.length with h0 | h0
  · exact ⟨0, 0, fun _ => none, fun _ => 0, fun _ => none, fun _ => 0, fun k hk => by omega, fun k hk => by omega⟩
  · obtain ⟨h, hs⟩ := h
    obtain ⟨b, o, _, ha, _⟩ := h 0 h0
    have key : ∀ k, k < l.length → ∃ p : (Option Addr × Nat) × Option Addr × Nat, w.cell? ⟨b, o + k * 6, none⟩ = some (.int .i64 (kget l k).act) ∧ w.cell? ⟨b, o + k * 6 + 1, none⟩ = some (.int .i64 (kget l k).t.f) ∧ w.cell? ⟨b, o + k * 6 + 2, none⟩ = some (.slice p.1.1 (kget l k).t.args.length p.1.2) ∧ w.cell? ⟨b, o + k * 6 + 3, none⟩ = some (.int .i64 (kget l k).n) ∧ w.cell? ⟨b, o + k * 6 + 4, none⟩ = some (.int .i64 (kget l k).m) ∧ w.cell? ⟨b, o + k * 6 + 5, none⟩ = some (.slice p.2.1 (kget l k).p.length p.2.2) ∧
        IsT w (kget l k).t (.agg #[.int .i64 (kget l k).t.f, .slice p.1.1 (kget l k).t.args.length p.1.2]) ∧ PIs w (kget l k).p p.2.1 p.2.2 ∧ p.2.2 ≤ maxLen ∧ (kget l k).t.size ≤ 1048576 ∧ I64 (kget l k).act ∧ I64 (kget l k).n ∧ I64 (kget l k).m := by
      intro k hk
      have h8 := hs k hk
      obtain ⟨b2, o2, cs, e1, _, h4, ⟨i1, i2, i3, u, v, pa, pc, h3, h5, h6, h7⟩⟩ := h k hk
      rw [ha] at e1
      simp only [Option.some.injEq, Addr.mk.injEq, and_true] at e1
      obtain ⟨rfl, rfl⟩ := e1
      subst h3
      rw [← kget_lt hk] at *
      have k1 := h5
      obtain ⟨_, a1, c1, e1, _⟩ := h5.form
      simp only [Value.agg.injEq, Array.mk.injEq, List.cons.injEq, and_true] at e1
      obtain ⟨rfl, rfl⟩ := e1
      exact ⟨((a1, c1), (pa, pc)), h4 0 (by decide), h4 1 (by decide), h4 2 (by decide), h4 3 (by decide), h4 4 (by decide), h4 5 (by decide), k1, h6, h7, h8, i1, i2, i3⟩
    have : Inhabited ((Option Addr × Nat) × Option Addr × Nat) := ⟨((none, 0), (none, 0))⟩
    obtain ⟨F, hF⟩ := Go.Deep.choose_lt key
    exact ⟨b, o, fun k => (F k).1.1, fun k => (F k).1.2, fun k => (F k).2.1, fun k => (F k).2.2, fun _ _ => ha, hF⟩
section
variable {H : Type} {enc : TypeId × Value → H} {w : World} {base : Nat} {spare : Nat → Bool} {held : Bool}
set_option maxRecDepth 100000 in
theorem open_Pos (fuel : Nat) (cs : List Value) (x : DataW H × List MemPlace) (h : DataW.trod enc Try.prog w base spare held fuel 53 cs = some x) :
    ∃ (l : List Int) (a : Option Addr) (c : Nat), cs = [.slice a l.length c] ∧ c ≤ maxLen ∧ PIs w l a c := by
  obtain ⟨l, a, c, ds, sp, rfl, h1, h2, h3, h4, h5, h6⟩ := open_row Try.underlying53 (k := 1) (by kernel_rfl) (by omega) h (R := fun w t cs => cs = [.int .i64 t]) (S := fun _ _ => True) (fun n cs x hx => by
    obtain ⟨m, e, _, wf⟩ := DataW.trod_int Try.underlying3 hx
    exact ⟨m, e, trivial⟩)
  refine ⟨l, a, c, rfl, h2, h1, ?_⟩
  rcases Nat.eq_zero_or_pos l.length with h0 | h0
  · exact ⟨0, 0, fun k hk => by omega, fun k hk => by omega⟩
  · obtain ⟨b, o, _, ha, _⟩ := h3 0 h0
    refine ⟨b, o, fun _ _ => ha, fun k hk => ?_⟩
    obtain ⟨b', o', cs, ha', _, h8, h7⟩ := h3 k hk
    rw [ha] at ha'
    simp only [Option.some.injEq, Addr.mk.injEq, and_true] at ha'
    obtain ⟨rfl, rfl⟩ := ha'
    subst h7
    have := h8 0 (by decide)
    simpa [hk] using this
set_option maxRecDepth 100000 in
theorem open_Ak (fuel : Nat) (cs : List Value) (x : DataW H × List MemPlace) (h : DataW.trod enc Try.prog w base spare held fuel 55 cs = some x) :
    ∃ y : Ak, IsAk w y cs ∧ y.t.size ≤ Rows.uptoBulk x.1 := by
  have hC : Try.prog.cellsOf 55 = 6 := by kernel_rfl
  have hCi : Try.prog.cellsOf 3 = 1 := by kernel_rfl
  have hCp : Try.prog.cellsOf 53 = 1 := by kernel_rfl
  have hCt : Try.prog.cellsOf 35 = 2 := by kernel_rfl
  obtain ⟨xs, n, rfl, rfl, hl, hlen, hf⟩ := DataW.trod_struct Try.underlying55 h
  rw [hC] at hl
  match xs, hlen, cs, hl with
  | [y0, y1, y2, y3, y4], _, [c0, c1, c2, c3, c4, c5], _ =>
    have g0 : DataW.trod enc Try.prog w base spare held n 3 [c0] = some y0 := by simpa [hCi] using hf 0 _ rfl
    have g1 : DataW.trod enc Try.prog w base spare held n 35 [c1, c2] = some y1 := by simpa [hCt] using hf 1 _ rfl
    have g2 : DataW.trod enc Try.prog w base spare held n 3 [c3] = some y2 := by simpa [hCi] using hf 2 _ rfl
    have g3 : DataW.trod enc Try.prog w base spare held n 3 [c4] = some y3 := by simpa [hCi] using hf 3 _ rfl
    have g4 : DataW.trod enc Try.prog w base spare held n 53 [c5] = some y4 := by simpa [hCp] using hf 4 _ rfl
    obtain ⟨m0, e0, _, wf0⟩ := DataW.trod_int Try.underlying3 g0
    obtain ⟨m2, e2, _, wf2⟩ := DataW.trod_int Try.underlying3 g2
    obtain ⟨m3, e3, _, wf3⟩ := DataW.trod_int Try.underlying3 g3
    simp only [List.cons.injEq, and_true] at e0 e2 e3
    subst e0 e2 e3
    obtain ⟨t1, u1, u2, e1, h1, s1⟩ := open_T _ _ _ g1
    obtain ⟨p, pa, pc, e4, h4, h5⟩ := open_Pos _ _ _ g4
    simp only [List.cons.injEq, and_true] at e1 e4
    obtain ⟨rfl, rfl⟩ := e1
    subst e4
    exact ⟨⟨m0, t1, m2, m3, p⟩, ⟨i64_wf wf0, i64_wf wf2, i64_wf wf3, _, _, _, _, rfl, h1, h5, h4⟩, by simp only [List.map_cons, List.map_nil, Rows.uptoBulk, Rows.uptoBulkAll]; omega⟩
set_option maxRecDepth 100000 in
theorem arg_Aks {r : Reach} {b : Nat} {v : Value} {d : DataW H} {p : List MemPlace} (h : Value.okWide Try.prog w r b 48 v) (ht : DataW.Trod enc Try.prog w base spare held 48 v d p) (hk : Rows.uptoBulk d ≤ 1048576) :
    ∃ (l : List Ak) (a : Option Addr) (c : Nat), v = .slice a l.length c ∧ IsAks w l a ∧ l.length ≤ c ∧ c ≤ maxLen := by
  obtain ⟨a, n, c, rfl⟩ := okWide_slice Try.underlying48 h
  obtain ⟨fuel, hf⟩ := ht
  obtain ⟨l, a', c', ds, sp, e, h1, h2, h3, h4, h5, h6⟩ := open_row Try.underlying48 (k := 6) (by kernel_rfl) (by omega) hf (R := IsAk) (S := fun y d => y.t.size ≤ Rows.uptoBulk d) (fun n cs x hx => open_Ak n cs x hx)
  have e' : Value.slice a n c = .slice a' l.length c' := by simpa [Value.cells] using e
  refine ⟨l, a', c', e', ⟨h3, fun k hk2 => ?_⟩, h1, h2⟩
  have h7 := h6 k hk2 (by omega)
  rw [kget_lt hk2]
  rcases h5 with ⟨_, rfl, _⟩ | e2
  · simp at hk2
  · have e3 : d = .slice ds sp := e2
    rw [e3] at hk
    simp only [Rows.uptoBulk] at hk
    have h8 := bulk_at (List.getElem_mem (show k < ds.length by omega))
    omega
end
end Go.Proofs.Ytbohlpfndiiimaa
