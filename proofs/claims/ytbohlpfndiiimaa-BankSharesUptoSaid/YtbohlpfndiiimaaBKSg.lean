/- Terms are shared: the law's walk. -/
import Derived.Test.YtbohlpfndiiimaaBKSf
import Derived.Test.YtbohlpfndiiimaaBKSa

/- What wakes the laws: the program. -/
namespace Go.Proofs.Ytbohlpfndiiimaa
open Go.RowKit Go
set_option linter.unusedVariables false
set_option linter.unusedSimpArgs false
/-- The signature of 'wakes'. -/
def smallSg : List Sy := [truth, ⟨⟨#[97]⟩, 0, false⟩, ⟨⟨#[102]⟩, 2, false⟩, ⟨⟨#[112]⟩, 1, true⟩]
theorem smallSg_ok : sigCheck smallSg = 0 := by decide +kernel
theorem smallSg_wf : ∀ x ∈ smallSg, I64 x.ar ∧ x.name.size ≤ maxLen := by
 intro x hx
 simp only [smallSg, List.mem_cons, List.not_mem_nil, or_false] at hx
 unfold I64 maxLen
 rcases hx with rfl | rfl | rfl | rfl <;> decide +kernel
set_option maxRecDepth 100000 in
theorem rtruth_any (w : World) : Calls Try.prog 51 #[] w (Ret fun v' w' => v' = .agg #[.string truth.name, .int .i64 truth.ar, .bool truth.pred] ∧ Below w.heap.size w w') := by
 refine Calls.walk (l := []) Try.func51 rfl (by kernel_rfl) ?_
 refine WC.sub (K' := []) trivial ?_
 refine WC.seq (WC.region ?_)
 refine WL.step (post := NewBlk w 66 #[.string (⟨#[]⟩), .int .i64 0, .bool false]) rfl rfl rfl (fun za zC zh zk => alloc_66 rfl (zk _ _ (newBlk _ _ _))) ?_
 rintro _ w1 ⟨g2, rfl, hg3, hB4, hb5, hz6⟩
 have hl7 : w.heap.size ≤ g2 := by omega
 refine WL.nil (WE.next (WC.seq (WC.region ?_)))
 refine WL.val (.agg #[.string ((⟨#[36, 116, 114, 117, 101]⟩ : ByteArray)), .int .i64 0, .bool true]) rfl rfl rfl (fun za zC zh zk => build_66_0_1_2 rfl (zh.ev rfl) (zh.ev rfl) (zh.ev rfl) zk) ?_
 refine WL.step (post := fun _ w' => Upd g2 w1 w' ∧ Blk w' g2 66 #[.string ((⟨#[36, 116, 114, 117, 101]⟩ : ByteArray)), .int .i64 0, .bool true]) rfl rfl rfl (fun za zC zh zk => st_66 rfl (zh.ev rfl) (zh.ev rfl) rfl rfl rfl hB4 (by first | decide | simp) (fun v => zk v _ ⟨((Upd.at_ _ _ _ _).trans (Upd.at_ _ _ _ _)).trans (Upd.at_ _ _ _ _), ((hB4.set_ 0 _).set_ 1 _).set_ 2 _⟩)) ?_
 rintro v11 w8 ⟨hu9, hB10⟩
 have hb12 := upd_below hb5 hu9 (by omega)
 refine WL.nil (WE.next (WC.ret ?_))
 refine WE.retAny (v := .agg #[.string ((⟨#[36, 116, 114, 117, 101]⟩ : ByteArray)), .int .i64 0, .bool true]) (fun za zh => ?_) ?_
 ·have z0 : za.tmps[0]?.getD undef = .pointer (some ⟨g2, 0, none⟩) := by rw [← Array.getD_eq_getD_getElem?]; exact zh.knows 0 _ rfl
  have y0 : w8.cell? ⟨g2, 0, none⟩ = some (.string ((⟨#[36, 116, 114, 117, 101]⟩ : ByteArray))) := ((hB10.cell 0).trans rfl)
  have y1 : w8.cell? ⟨g2, 1, none⟩ = some (.int .i64 0) := ((hB10.cell 1).trans rfl)
  have y2 : w8.cell? ⟨g2, 2, none⟩ = some (.bool true) := ((hB10.cell 2).trans rfl)
  simp [results, Try.results51, z0, y0, y1, y2, go_sem]
 ·exact ⟨_, rfl, rfl, hb12⟩
set_option maxRecDepth 100000 in
theorem small_any (w : World) : Calls Try.prog 28 #[] w (Ret fun v' w' => IsSig w' smallSg v' ∧ Below w.heap.size w w') := by
 refine Calls.walk (l := []) Try.func28 rfl (by kernel_rfl) ?_
 refine WC.sub (K' := []) trivial ?_
 refine WC.seq (WC.region ?_)
 refine WL.step (post := NewBlk w 24 #[.slice none 0 0]) rfl rfl rfl (fun za zC zh zk => alloc_24 rfl (zk _ _ (newBlk _ _ _))) ?_
 rintro _ w1 ⟨g2, rfl, hg3, hB4, hb5, hz6⟩
 have hl7 : w.heap.size ≤ g2 := by omega
 refine WL.nil (WE.next (WC.seq (WC.region ?_)))
 refine WL.call rfl rfl rfl (fun za zh zC => wp_call (by kernel_rfl) rfl (hv0)) (rtruth_any _) ?_
 rintro _ w9 ⟨rfl, hq8⟩
 refine WL.val (.agg #[.string ((⟨#[97]⟩ : ByteArray)), .int .i64 0, .bool false]) rfl rfl rfl (fun za zC zh zk => build_66_0 rfl (zh.ev rfl) zk) ?_
 refine WL.val (.agg #[.string ((⟨#[102]⟩ : ByteArray)), .int .i64 2, .bool false]) rfl rfl rfl (fun za zC zh zk => build_66_0_1 rfl (zh.ev rfl) (zh.ev rfl) zk) ?_
 refine WL.val (.agg #[.string ((⟨#[112]⟩ : ByteArray)), .int .i64 1, .bool true]) rfl rfl rfl (fun za zC zh zk => build_66_0_1_2 rfl (zh.ev rfl) (zh.ev rfl) (zh.ev rfl) zk) ?_
 refine WL.step (post := NewRow w9 66 #[.string truth.name, .int .i64 truth.ar, .bool truth.pred, .string ((⟨#[97]⟩ : ByteArray)), .int .i64 0, .bool false, .string ((⟨#[102]⟩ : ByteArray)), .int .i64 2, .bool false, .string ((⟨#[112]⟩ : ByteArray)), .int .i64 1, .bool true] 4) rfl rfl rfl (fun za zC zh zk => row_22_4 rfl (zh.ev rfl) (zh.ev rfl) (zh.ev rfl) (zh.ev rfl) (zk _ _ (newRow _ _ _ _))) ?_
 rintro _ w10 ⟨g11, rfl, hg12, hB13, hb14, hz15⟩
 have hl16 : g2 < g11 := by have z1 := hB4.lt; have z2 := (hq8).size; omega
 have hb17 : Below w.heap.size w w9 := (bstep hb5 hq8)
 have hl18 : w.heap.size ≤ g11 := by have z2 := (hb17).size; omega
 refine WL.val (.agg #[.slice ((some ⟨g11, 0, none⟩)) 4 4]) rfl rfl rfl (fun za zC zh zk => build_24_0 rfl (zh.ev rfl) zk) ?_
 have hb20 : Below w1.heap.size w1 w10 := (bstep hq8 hb14)
 have hB19 := hB4.below hb20
 refine WL.step (post := fun _ w' => Upd g2 w10 w' ∧ Blk w' g2 24 #[.slice ((some ⟨g11, 0, none⟩)) 4 4]) rfl rfl rfl (fun za zC zh zk => st_24 rfl (zh.ev rfl) (zh.ev rfl) rfl hB19 (by first | decide | simp) (fun v => zk v _ ⟨Upd.at_ _ _ _ _, hB19.set_ 0 _⟩)) ?_
 rintro v24 w21 ⟨hu22, hB23⟩
 have hb25 : Below w.heap.size w w10 := (bstep hb5 hb20)
 have hb26 := upd_below hb25 hu22 (by omega)
 have hB27 := upd_blk hB13 hu22 (by omega)
 refine WL.nil (WE.next (WC.ret ?_))
 refine WE.retAny (v := .agg #[.slice ((some ⟨g11, 0, none⟩)) 4 4]) (fun za zh => ?_) ?_
 ·have z0 : za.tmps[0]?.getD undef = .pointer (some ⟨g2, 0, none⟩) := by rw [← Array.getD_eq_getD_getElem?]; exact zh.knows 0 _ rfl
  have y0 : w21.cell? ⟨g2, 0, none⟩ = some (.slice ((some ⟨g11, 0, none⟩)) 4 4) := ((hB23.cell 0).trans rfl)
  simp [results, Try.results28, z0, y0, go_sem]
 ·have hO9 : World.ownsRow w21 0 66 3 (.slice (some ⟨g11, 0, none⟩) 4 4) 4 (syCells smallSg) := ⟨rfl, .inr ⟨g11, 4, (syCells smallSg).toArray, rfl, Nat.zero_le _, hB27, Nat.le_refl _, by unfold maxLen; omega, rfl, rfl⟩⟩
  obtain ⟨_, _, _, z⟩ := sys_of_own hO9 smallSg_wf
  exact ⟨_, rfl, ⟨_, 4, rfl, Nat.le_refl _, by unfold maxLen; omega, z⟩, hb26⟩
def wTA : T := .mk 1 []
def wTX : T := .mk (-1) []
def wT1 : T := .mk 2 [wTA, wTX]
def wT2 : T := .mk 2 [wTX, wTA]
def wN1 : List En := [⟨1, []⟩, ⟨-1, []⟩, ⟨2, [0, 1]⟩]
def wN2 : List En := [⟨1, []⟩, ⟨-1, []⟩, ⟨2, [0, 1]⟩, ⟨2, [1, 0]⟩]
theorem newS_any (w : World) (v : Value) (hs : IsSig w smallSg v) : Calls Try.prog 7 #[v] w (Ret fun v' w' => (∃ g : Nat, v' = .tuple #[.pointer (some ⟨g, 0, none⟩), .int .i64 0] ∧ BkSJ w' w.heap.size g smallSg [] (fun _ => False)) ∧ Below w.heap.size w w') := by
 refine Calls.mono (bNew_any smallSg w v (by decide) hs) (fun e w' hr => ?_)
 obtain ⟨v', rfl, h, hb⟩ := hr
 rcases h with ⟨h, _⟩ | ⟨_, g, h1, _, h2⟩
 ·exact absurd smallSg_ok h
 ·exact ⟨v', rfl, ⟨g, h1, _, h2, fun b q => q.1, fun b q => q.elim⟩, hb⟩
theorem newE_any (w : World) : Calls Try.prog 7 #[.agg #[.slice none 0 0]] w (Ret fun v' w' => v' = .tuple #[.pointer none, .int .i64 2] ∧ Below w.heap.size w w') := by
 refine Calls.mono (bNew_any [] w _ (by decide) ⟨none, 0, rfl, Nat.le_refl _, Nat.zero_le _, fun k hk => absurd hk (Nat.not_lt_zero _)⟩) (fun e w' hr => ?_)
 obtain ⟨v', rfl, h, hb⟩ := hr
 rcases h with ⟨_, h⟩ | ⟨h, _⟩
 ·exact ⟨v', rfl, h, hb⟩
 ·exact absurd h (by decide +kernel)
theorem putS1 {w : World} {B g : Nat} {X A : Nat → Prop} {v : Value} (hA : ∀ b, A b → (X b ∨ b < B) ∧ b < w.heap.size) (hin : InT A w wT1 v) (h : BkSJ w B g smallSg [] X) : Calls Try.prog 9 #[.pointer (some ⟨g, 0, none⟩), v] w (Ret fun v' w' => v' = .tuple #[.int .i64 2, .int .i64 0] ∧ PutTo w w' B g smallSg wN1 X) := by
 have z := jPut wT1 v A (by decide) (by decide +kernel) hA hin h
 rw [show bputV smallSg [] wT1 = 2 by decide +kernel, show chkI smallSg wT1 = 0 by decide +kernel, show bputI smallSg [] wT1 = wN1 by decide +kernel] at z
 exact z
theorem putS2 {w : World} {B g : Nat} {X A : Nat → Prop} {v : Value} (hA : ∀ b, A b → (X b ∨ b < B) ∧ b < w.heap.size) (hin : InT A w wTA v) (h : BkSJ w B g smallSg wN1 X) : Calls Try.prog 9 #[.pointer (some ⟨g, 0, none⟩), v] w (Ret fun v' w' => v' = .tuple #[.int .i64 0, .int .i64 0] ∧ PutTo w w' B g smallSg wN1 X) := by
 have z := jPut wTA v A (by decide) (by decide +kernel) hA hin h
 rw [show bputV smallSg wN1 wTA = 0 by decide +kernel, show chkI smallSg wTA = 0 by decide +kernel, show bputI smallSg wN1 wTA = wN1 by decide +kernel] at z
 exact z
theorem putS3 {w : World} {B g : Nat} {X A : Nat → Prop} {v : Value} (hA : ∀ b, A b → (X b ∨ b < B) ∧ b < w.heap.size) (hin : InT A w wT2 v) (h : BkSJ w B g smallSg wN1 X) : Calls Try.prog 9 #[.pointer (some ⟨g, 0, none⟩), v] w (Ret fun v' w' => v' = .tuple #[.int .i64 3, .int .i64 0] ∧ PutTo w w' B g smallSg wN2 X) := by
 have z := jPut wT2 v A (by decide) (by decide +kernel) hA hin h
 rw [show bputV smallSg wN1 wT2 = 3 by decide +kernel, show chkI smallSg wT2 = 0 by decide +kernel, show bputI smallSg wN1 wT2 = wN2 by decide +kernel] at z
 exact z
theorem inA {w : World} {S : Nat → Prop} : InT S w wTA (.agg #[.int .i64 1, .slice none 0 0]) := ⟨by unfold I64; omega, none, 0, rfl, Nat.le_refl _, by decide, trivial⟩
theorem in2 {w : World} {q : Nat} {x y : Int} (hx : I64 x) (hy : I64 y) (hB : Blk w q 35 #[.int .i64 x, .slice none 0 0, .int .i64 y, .slice none 0 0]) : InT (fun b => b = q) w (.mk 2 [.mk x [], .mk y []]) (.agg #[.int .i64 2, .slice (some ⟨q, 0, none⟩) 2 2]) := by
 have leaf : ∀ z : Int, I64 z → InT (fun b => b = q) w (.mk z []) (.agg #[.int .i64 z, .slice none 0 0]) := fun z hz => ⟨hz, none, 0, rfl, Nat.le_refl _, by decide, trivial⟩
 exact ⟨by unfold I64; omega, some ⟨q, 0, none⟩, 2, rfl, Nat.le_refl _, by decide, ⟨q, 0, _, _, rfl, rfl, (hB.cell 0).trans rfl, (hB.cell 1).trans rfl, leaf x hx⟩, ⟨q, 0, _, _, rfl, rfl, (hB.cell 2).trans rfl, (hB.cell 3).trans rfl, leaf y hy⟩, trivial⟩
set_option maxRecDepth 100000 in
theorem wakes_any (w : World) : Calls Try.prog 8 #[] w (Ret fun v' w' => v' = .bool true ∧ Below w.heap.size w w') := by
 refine Calls.walk (l := []) Try.func8 rfl (by kernel_rfl) ?_
 refine WC.sub (K' := []) trivial ?_
 refine WC.seq (WC.region (WL.asg rfl rfl rfl rfl rfl (WL.nil (WE.next (WC.seq (WC.region ?_))))))
 refine WL.call rfl rfl rfl (fun za zh zC => wp_call (by kernel_rfl) rfl (hv0)) (small_any _) ?_
 rintro vsm w1 ⟨hsm, hbsm⟩
 refine WL.call rfl rfl rfl (fun za zh zC => wp_call (by kernel_rfl) rfl (hv1 (zh.ev rfl))) (newS_any _ _ hsm) ?_
 rintro _ w5 ⟨⟨gk2, rfl, hk3⟩, hb4⟩
 have hBw6 : w.heap.size ≤ w1.heap.size := hbsm.size
 refine WL.mv rfl rfl rfl rfl rfl ?_
 refine WL.val (.pointer (some ⟨gk2, 0, none⟩)) rfl rfl rfl (fun za zC zh zk => ext2_0 rfl (zh.ev rfl) zk) ?_
 refine WL.val (.int .i64 0) rfl rfl rfl (fun za zC zh zk => ext2_1 rfl (zh.ev rfl) zk) ?_
 refine WL.asg rfl rfl rfl rfl rfl (WL.asg rfl rfl rfl rfl rfl (WL.nil (WE.next (WC.seq (WC.seq ?_)))))
 refine WC.opt [(true, .val (.int .i64 0)), (true, .val (.bool (((0 : Int) != (0 : Int))))), (true, .val (.bool (((0 : Int) != (0 : Int))))), ((true && !((0 : Int) != (0 : Int))), .val (.pointer (some ⟨gk2, 0, none⟩))), ((true && !((0 : Int) != (0 : Int))), .val (.bool false)), (true, .val (.bool ((((0 : Int) != (0 : Int)) || false))))] [(0, .bool false), (1, .pointer (some ⟨gk2, 0, none⟩)), (2, .int .i64 0)] ⟨rfl, rfl, rfl, trivial⟩ (by kernel_rfl) (by kernel_rfl) (by kernel_rfl) ?_ ?_
 ·refine ⟨⟨true, .none rfl, fun h w => optUndef h, fun zβ za zw zc => ?_⟩, ?_⟩
  ·exact wp_move rfl (zc.kn.ev rfl) ⟨_, rfl, Below.refl _ _, optDef zβ rfl⟩
  refine ⟨⟨true, .none rfl, fun h w => optUndef h, fun zβ za zw zc => ?_⟩, ?_⟩
  ·exact neq_27 rfl ((evt za 17).trans (optVal (zc.dep 0 17 (by kernel_rfl)) rfl rfl)) (zc.kn.ev rfl) ⟨_, rfl, Below.refl _ _, optDef zβ rfl⟩
  refine ⟨⟨true, .none rfl, fun h w => optUndef h, fun zβ za zw zc => ?_⟩, ?_⟩
  ·exact wp_move rfl ((evt za 18).trans (optVal (zc.dep 1 18 (by kernel_rfl)) rfl rfl)) ⟨_, rfl, Below.refl _ _, optDef zβ rfl⟩
  refine ⟨⟨_, .no (c := ((0 : Int) != (0 : Int))) (d := true) rfl (fun v w h => h), fun h w => optUndef h, fun zβ za zw zc => ?_⟩, ?_⟩
  ·exact wp_move rfl (zc.kn.ev rfl) ⟨_, rfl, Below.refl _ _, optDef zβ rfl⟩
  refine ⟨⟨_, .no (c := ((0 : Int) != (0 : Int))) (d := true) rfl (fun v w h => h), fun h w => optUndef h, fun zβ za zw zc => ?_⟩, ?_⟩
  ·exact eqlp_26 rfl ((evt za 20).trans (optVal (zc.dep 3 20 (by kernel_rfl)) rfl zβ)) (zc.kn.ev rfl) ⟨_, rfl, Below.refl _ _, optDef zβ rfl⟩
  refine ⟨⟨true, .none rfl, fun h w => optUndef h, fun zβ za zw zc => ?_⟩, ?_⟩
  ·exact wp_or rfl ((evt za 19).trans (optVal (zc.dep 2 19 (by kernel_rfl)) rfl rfl)) (fun hp => ((evt za 21).trans (optVal (zc.dep 4 21 (by kernel_rfl)) rfl (bMkN zβ hp)))) ⟨_, rfl, Below.refl _ _, optDef zβ rfl⟩
  exact trivial
 ·intro za w7 zh hb8 zu
  have zh := zh.cons (d := 22) (v := .bool ((((0 : Int) != (0 : Int)) || false))) (optVal (zu 5 22 (by kernel_rfl)) rfl rfl)
  clear zu
  refine WE.go zh ?_
  refine WE.next ?_
  refine WC.condF rfl (by simp) ?_
  refine WC.skip (WE.next (WC.seq (WC.region ?_)))
  refine WL.val (.agg #[.int .i64 1, .slice none 0 0]) rfl rfl rfl (fun za zC zh zk => build_35_0 rfl (zh.ev rfl) zk) ?_
  refine WL.val (.agg #[.int .i64 ((-1)), .slice none 0 0]) rfl rfl rfl (fun za zC zh zk => build_35_0 rfl (zh.ev rfl) zk) ?_
  refine WL.step (post := NewBlk w7 35 #[.int .i64 0, .slice none 0 0]) rfl rfl rfl (fun za zC zh zk => alloc_35 rfl (zk _ _ (newBlk _ _ _))) ?_
  rintro _ w9 ⟨g10, rfl, hg11, hB12, hb13, hz14⟩
  have hb15 : Below w.heap.size w w7 := (bstep (bstep hbsm hb4) hb8)
  have hl16 : w.heap.size ≤ g10 := by have z2 := (hb15).size; omega
  have hl17 : w5.heap.size ≤ g10 := by have z2 := (hb8).size; omega
  refine WL.step (post := NewBlk w9 35 #[.int .i64 0, .slice none 0 0]) rfl rfl rfl (fun za zC zh zk => alloc_35 rfl (zk _ _ (newBlk _ _ _))) ?_
  rintro _ w18 ⟨g19, rfl, hg20, hB21, hb22, hz23⟩
  have hl24 : g10 < g19 := by have z1 := hB12.lt; omega
  have hb25 : Below w.heap.size w w9 := (bstep hb15 hb13)
  have hl26 : w.heap.size ≤ g19 := by have z2 := (hb25).size; omega
  have hb27 : Below w5.heap.size w5 w9 := (bstep hb8 hb13)
  have hl28 : w5.heap.size ≤ g19 := by have z2 := (hb27).size; omega
  have hB29 := hB12.below hb22
  refine WL.step (post := fun _ w' => Upd g10 w18 w' ∧ Blk w' g10 35 #[.int .i64 1, .slice none 0 0]) rfl rfl rfl (fun za zC zh zk => st_35 rfl (zh.ev rfl) (zh.ev rfl) rfl rfl hB29 (by first | decide | simp) (fun v => zk v _ ⟨(Upd.at_ _ _ _ _).trans (Upd.at_ _ _ _ _), (hB29.set_ 0 _).set_ 1 _⟩)) ?_
  rintro v33 w30 ⟨hu31, hB32⟩
  have hb34 : Below w.heap.size w w18 := (bstep hb25 hb22)
  have hb35 : Below w5.heap.size w5 w18 := (bstep hb27 hb22)
  have hb36 := upd_below hb34 hu31 (by omega)
  have hb37 := upd_below hb35 hu31 (by omega)
  have hB38 := upd_blk hB21 hu31 (by omega)
  refine WL.step (post := fun _ w' => Upd g19 w30 w' ∧ Blk w' g19 35 #[.int .i64 ((-1)), .slice none 0 0]) rfl rfl rfl (fun za zC zh zk => st_35 rfl (zh.ev rfl) (zh.ev rfl) rfl rfl hB38 (by first | decide | simp) (fun v => zk v _ ⟨(Upd.at_ _ _ _ _).trans (Upd.at_ _ _ _ _), (hB38.set_ 0 _).set_ 1 _⟩)) ?_
  rintro v42 w39 ⟨hu40, hB41⟩
  have hb43 := upd_below hb36 hu40 (by omega)
  have hb44 := upd_below hb37 hu40 (by omega)
  have hB45 := upd_blk hB32 hu40 (by omega)
  refine WL.nil (WE.next (WC.seq (WC.region (WL.mv rfl rfl rfl rfl rfl ?_))))
  refine WL.val _ rfl rfl rfl (fun za zC zh zk => ld_35 rfl (zh.ev rfl) ((hB45.cell 0).trans rfl) ((hB45.cell 1).trans rfl) zk) ?_
  refine WL.val _ rfl rfl rfl (fun za zC zh zk => ld_35 rfl (zh.ev rfl) ((hB41.cell 0).trans rfl) ((hB41.cell 1).trans rfl) zk) ?_
  refine WL.step (post := NewRow w39 35 #[.int .i64 1, .slice none 0 0, .int .i64 ((-1)), .slice none 0 0] 2) rfl rfl rfl (fun za zC zh zk => row_25_2 rfl (zh.ev rfl) (zh.ev rfl) (zk _ _ (newRow _ _ _ _))) ?_
  rintro _ w46 ⟨g47, rfl, hg48, hB49, hb50, hz51⟩
  have hl52 : g10 < g47 := by have z1 := hB45.lt; omega
  have hl53 : g19 < g47 := by have z1 := hB41.lt; omega
  have hl54 : w.heap.size ≤ g47 := by have z2 := (hb43).size; omega
  have hl55 : w5.heap.size ≤ g47 := by have z2 := (hb44).size; omega
  refine WL.val (.agg #[.int .i64 2, .slice ((some ⟨g47, 0, none⟩)) 2 2]) rfl rfl rfl (fun za zC zh zk => build_35_0_1 rfl (zh.ev rfl) (zh.ev rfl) zk) ?_
  have hB57 := hB45.below hb50
  have hB58 := hB41.below hb50
  have hk56 : BkSJ w5 w1.heap.size gk2 smallSg [] (fun b => b = g10 ∨ b = g19 ∨ b = g47) := BkSJ.avoid hk3 (fun b q => by
   rcases q with rfl | rfl | rfl <;> first | (right; left; omega) | (left; refine ⟨.inl ?_, by omega⟩; simp))
  have hb59 : Below w5.heap.size w5 w46 := (bstep hb44 hb50)
  have hb64 : Below w.heap.size w w46 := (bstep hb43 hb50)
  have hl65 := hB57.lt
  have hl66 := hB58.lt
  have hl67 := hB49.lt
  refine WL.call rfl rfl rfl (fun za zh zC => wp_call (by kernel_rfl) rfl (hv2 (zh.ev rfl) (zh.ev rfl))) (putS1 (A := fun b => b = g47) (fun b e => ⟨.inl (by rw [show b = g47 from e]; simp), by rw [show b = g47 from e]; exact hB49.lt⟩) (in2 (by unfold I64; omega) (by unfold I64; omega) hB49) (BkSJ.below hk56 hb59)) ?_
  rintro _ w68 ⟨rfl, Y60, hY61, hc62, hk63⟩
  have hb69 := chg_below hb64 hc62 (fun b q => hY61 b (.inr (by omega)) (by have z := (hb64).size; omega))
  have hB70 := chg_blk hB57 hc62 (hY61 _ (.inl (by simp)) hl65)
  have hB71 := chg_blk hB58 hc62 (hY61 _ (.inl (by simp)) hl66)
  have hB72 := chg_blk hB49 hc62 (hY61 _ (.inl (by simp)) hl67)
  refine WL.mv rfl rfl rfl rfl rfl ?_
  refine WL.val (.int .i64 2) rfl rfl rfl (fun za zC zh zk => ext2_0 rfl (zh.ev rfl) zk) ?_
  refine WL.val (.int .i64 0) rfl rfl rfl (fun za zC zh zk => ext2_1 rfl (zh.ev rfl) zk) ?_
  refine WL.asg rfl rfl rfl rfl rfl (WL.asg rfl rfl rfl rfl rfl ?_)
  refine WL.nil (WE.sub (K' := [(0, .bool false), (1, .pointer (some ⟨gk2, 0, none⟩)), (2, .int .i64 0), (3, .pointer (some ⟨g10, 0, none⟩)), (4, .pointer (some ⟨g19, 0, none⟩)), (5, .int .i64 2), (22, .bool ((((0 : Int) != (0 : Int)) || false)))]) ⟨rfl, rfl, rfl, rfl, rfl, rfl, rfl, trivial⟩ ?_)
  refine WE.next (WC.seq (WC.region (WL.mv rfl rfl rfl rfl rfl ?_)))
  refine WL.val _ rfl rfl rfl (fun za zC zh zk => ld_35 rfl (zh.ev rfl) ((hB70.cell 0).trans rfl) ((hB70.cell 1).trans rfl) zk) ?_
  have hk73 : BkSJ w68 w1.heap.size gk2 smallSg wN1 (fun b => b = g10 ∨ b = g19) := BkSJ.avoid hk63 (fun b q => by
   rcases q with rfl | rfl <;> first | (right; left; omega) | (left; refine ⟨.inl ?_, by omega⟩; simp))
  have hl78 := hB70.lt
  have hl79 := hB71.lt
  refine WL.call rfl rfl rfl (fun za zh zC => wp_call (by kernel_rfl) rfl (hv2 (zh.ev rfl) (zh.ev rfl))) (putS2 (A := fun _ => False) (fun b q => q.elim) inA hk73) ?_
  rintro _ w80 ⟨rfl, Y74, hY75, hc76, hk77⟩
  have hb81 := chg_below hb69 hc76 (fun b q => hY75 b (.inr (by omega)) (by have z := (hb69).size; omega))
  have hB82 := chg_blk hB70 hc76 (hY75 _ (.inl (by simp)) hl78)
  have hB83 := chg_blk hB71 hc76 (hY75 _ (.inl (by simp)) hl79)
  refine WL.mv rfl rfl rfl rfl rfl ?_
  refine WL.val (.int .i64 0) rfl rfl rfl (fun za zC zh zk => ext2_0 rfl (zh.ev rfl) zk) ?_
  refine WL.val (.int .i64 0) rfl rfl rfl (fun za zC zh zk => ext2_1 rfl (zh.ev rfl) zk) ?_
  refine WL.asg rfl rfl rfl rfl rfl (WL.asg rfl rfl rfl rfl rfl (WL.nil (WE.next (WC.seq (WC.region (WL.mv rfl rfl rfl rfl rfl ?_))))))
  refine WL.val _ rfl rfl rfl (fun za zC zh zk => ld_35 rfl (zh.ev rfl) ((hB83.cell 0).trans rfl) ((hB83.cell 1).trans rfl) zk) ?_
  refine WL.val _ rfl rfl rfl (fun za zC zh zk => ld_35 rfl (zh.ev rfl) ((hB82.cell 0).trans rfl) ((hB82.cell 1).trans rfl) zk) ?_
  refine WL.step (post := NewRow w80 35 #[.int .i64 ((-1)), .slice none 0 0, .int .i64 1, .slice none 0 0] 2) rfl rfl rfl (fun za zC zh zk => row_25_2 rfl (zh.ev rfl) (zh.ev rfl) (zk _ _ (newRow _ _ _ _))) ?_
  rintro _ w84 ⟨g85, rfl, hg86, hB87, hb88, hz89⟩
  have hl90 : g10 < g85 := by have z1 := hB82.lt; omega
  have hl91 : g19 < g85 := by have z1 := hB83.lt; omega
  have hl92 : w.heap.size ≤ g85 := by have z2 := (hb81).size; omega
  have hl93 : w80.heap.size ≤ g85 := by omega
  refine WL.val (.agg #[.int .i64 2, .slice ((some ⟨g85, 0, none⟩)) 2 2]) rfl rfl rfl (fun za zC zh zk => build_35_0_1 rfl (zh.ev rfl) (zh.ev rfl) zk) ?_
  have hB95 := hB82.below hb88
  have hB96 := hB83.below hb88
  have hk94 : BkSJ w80 w1.heap.size gk2 smallSg wN1 (fun b => b = g10 ∨ b = g19 ∨ b = g85) := BkSJ.avoid hk77 (fun b q => by
   rcases q with rfl | rfl | rfl <;> first | (right; left; omega) | (left; refine ⟨.inl ?_, by omega⟩; simp))
  have hb101 : Below w.heap.size w w84 := (bstep hb81 hb88)
  have hl102 := hB95.lt
  have hl103 := hB96.lt
  have hl104 := hB87.lt
  refine WL.call rfl rfl rfl (fun za zh zC => wp_call (by kernel_rfl) rfl (hv2 (zh.ev rfl) (zh.ev rfl))) (putS3 (A := fun b => b = g85) (fun b e => ⟨.inl (by rw [show b = g85 from e]; simp), by rw [show b = g85 from e]; exact hB87.lt⟩) (in2 (by unfold I64; omega) (by unfold I64; omega) hB87) (BkSJ.below hk94 hb88)) ?_
  rintro _ w105 ⟨rfl, Y97, hY98, hc99, hk100⟩
  have hb106 := chg_below hb101 hc99 (fun b q => hY98 b (.inr (by omega)) (by have z := (hb101).size; omega))
  have hB107 := chg_blk hB95 hc99 (hY98 _ (.inl (by simp)) hl102)
  have hB108 := chg_blk hB96 hc99 (hY98 _ (.inl (by simp)) hl103)
  have hB109 := chg_blk hB87 hc99 (hY98 _ (.inl (by simp)) hl104)
  refine WL.mv rfl rfl rfl rfl rfl ?_
  refine WL.val (.int .i64 3) rfl rfl rfl (fun za zC zh zk => ext2_0 rfl (zh.ev rfl) zk) ?_
  refine WL.val (.int .i64 0) rfl rfl rfl (fun za zC zh zk => ext2_1 rfl (zh.ev rfl) zk) ?_
  refine WL.asg rfl rfl rfl rfl rfl (WL.asg rfl rfl rfl rfl rfl (WL.nil (WE.next (WC.seq (WC.region ?_)))))
  refine WL.val (.agg #[.slice none 0 0]) rfl rfl rfl (fun za zC zh zk => build_24_ rfl  zk) ?_
  refine WL.call rfl rfl rfl (fun za zh zC => wp_call (by kernel_rfl) rfl (hv1 (zh.ev rfl))) (newE_any _) ?_
  rintro _ w111 ⟨rfl, hq110⟩
  refine WL.mv rfl rfl rfl rfl rfl ?_
  refine WL.val (.pointer none) rfl rfl rfl (fun za zC zh zk => ext2_0 rfl (zh.ev rfl) zk) ?_
  refine WL.val (.int .i64 2) rfl rfl rfl (fun za zC zh zk => ext2_1 rfl (zh.ev rfl) zk) ?_
  refine WL.asg rfl rfl rfl rfl rfl (WL.asg rfl rfl rfl rfl rfl ?_)
  refine WL.nil (WE.sub (K' := [(0, .bool false), (1, .pointer (some ⟨gk2, 0, none⟩)), (2, .int .i64 0), (3, .pointer (some ⟨g10, 0, none⟩)), (4, .pointer (some ⟨g19, 0, none⟩)), (5, .int .i64 2), (6, .int .i64 0), (7, .int .i64 0), (8, .int .i64 3), (9, .int .i64 0), (11, .int .i64 2), (22, .bool ((((0 : Int) != (0 : Int)) || false)))]) ⟨rfl, rfl, rfl, rfl, rfl, rfl, rfl, rfl, rfl, rfl, rfl, rfl, trivial⟩ ?_)
  refine WE.next (WC.seq ?_)
  refine WC.opt [(true, .val (.int .i64 0)), (true, .val (.bool (((0 : Int) == (0 : Int))))), (true, .val (.bool (((0 : Int) == (0 : Int))))), ((true && ((0 : Int) == (0 : Int))), .val (.int .i64 2)), ((true && ((0 : Int) == (0 : Int))), .val (.bool (((2 : Int) == (2 : Int))))), (true, .val (.bool ((((0 : Int) == (0 : Int)) && ((2 : Int) == (2 : Int)))))), (true, .val (.bool ((((0 : Int) == (0 : Int)) && ((2 : Int) == (2 : Int)))))), ((true && (((0 : Int) == (0 : Int)) && ((2 : Int) == (2 : Int)))), .val (.int .i64 0)), ((true && (((0 : Int) == (0 : Int)) && ((2 : Int) == (2 : Int)))), .val (.bool (((0 : Int) == (0 : Int))))), (true, .val (.bool (((((0 : Int) == (0 : Int)) && ((2 : Int) == (2 : Int))) && ((0 : Int) == (0 : Int)))))), (true, .val (.bool (((((0 : Int) == (0 : Int)) && ((2 : Int) == (2 : Int))) && ((0 : Int) == (0 : Int)))))), ((true && ((((0 : Int) == (0 : Int)) && ((2 : Int) == (2 : Int))) && ((0 : Int) == (0 : Int)))), .val (.int .i64 0)), ((true && ((((0 : Int) == (0 : Int)) && ((2 : Int) == (2 : Int))) && ((0 : Int) == (0 : Int)))), .val (.bool (((0 : Int) == (0 : Int))))), (true, .val (.bool ((((((0 : Int) == (0 : Int)) && ((2 : Int) == (2 : Int))) && ((0 : Int) == (0 : Int))) && ((0 : Int) == (0 : Int)))))), (true, .val (.bool ((((((0 : Int) == (0 : Int)) && ((2 : Int) == (2 : Int))) && ((0 : Int) == (0 : Int))) && ((0 : Int) == (0 : Int)))))), ((true && (((((0 : Int) == (0 : Int)) && ((2 : Int) == (2 : Int))) && ((0 : Int) == (0 : Int))) && ((0 : Int) == (0 : Int)))), .val (.int .i64 0)), ((true && (((((0 : Int) == (0 : Int)) && ((2 : Int) == (2 : Int))) && ((0 : Int) == (0 : Int))) && ((0 : Int) == (0 : Int)))), .val (.bool (((0 : Int) == (0 : Int))))), (true, .val (.bool (((((((0 : Int) == (0 : Int)) && ((2 : Int) == (2 : Int))) && ((0 : Int) == (0 : Int))) && ((0 : Int) == (0 : Int))) && ((0 : Int) == (0 : Int)))))), (true, .val (.bool (((((((0 : Int) == (0 : Int)) && ((2 : Int) == (2 : Int))) && ((0 : Int) == (0 : Int))) && ((0 : Int) == (0 : Int))) && ((0 : Int) == (0 : Int)))))), ((true && ((((((0 : Int) == (0 : Int)) && ((2 : Int) == (2 : Int))) && ((0 : Int) == (0 : Int))) && ((0 : Int) == (0 : Int))) && ((0 : Int) == (0 : Int)))), .val (.int .i64 3)), ((true && ((((((0 : Int) == (0 : Int)) && ((2 : Int) == (2 : Int))) && ((0 : Int) == (0 : Int))) && ((0 : Int) == (0 : Int))) && ((0 : Int) == (0 : Int)))), .val (.bool (((3 : Int) == (3 : Int))))), (true, .val (.bool ((((((((0 : Int) == (0 : Int)) && ((2 : Int) == (2 : Int))) && ((0 : Int) == (0 : Int))) && ((0 : Int) == (0 : Int))) && ((0 : Int) == (0 : Int))) && ((3 : Int) == (3 : Int)))))), (true, .val (.bool ((((((((0 : Int) == (0 : Int)) && ((2 : Int) == (2 : Int))) && ((0 : Int) == (0 : Int))) && ((0 : Int) == (0 : Int))) && ((0 : Int) == (0 : Int))) && ((3 : Int) == (3 : Int)))))), ((true && (((((((0 : Int) == (0 : Int)) && ((2 : Int) == (2 : Int))) && ((0 : Int) == (0 : Int))) && ((0 : Int) == (0 : Int))) && ((0 : Int) == (0 : Int))) && ((3 : Int) == (3 : Int)))), .val (.pointer (some ⟨gk2, 0, none⟩))), ((true && (((((((0 : Int) == (0 : Int)) && ((2 : Int) == (2 : Int))) && ((0 : Int) == (0 : Int))) && ((0 : Int) == (0 : Int))) && ((0 : Int) == (0 : Int))) && ((3 : Int) == (3 : Int)))), .val (.int .i64 4)), ((true && (((((((0 : Int) == (0 : Int)) && ((2 : Int) == (2 : Int))) && ((0 : Int) == (0 : Int))) && ((0 : Int) == (0 : Int))) && ((0 : Int) == (0 : Int))) && ((3 : Int) == (3 : Int)))), .val (.bool (((4 : Int) == (4 : Int))))), (true, .val (.bool (((((((((0 : Int) == (0 : Int)) && ((2 : Int) == (2 : Int))) && ((0 : Int) == (0 : Int))) && ((0 : Int) == (0 : Int))) && ((0 : Int) == (0 : Int))) && ((3 : Int) == (3 : Int))) && ((4 : Int) == (4 : Int)))))), (true, .val (.bool (((((((((0 : Int) == (0 : Int)) && ((2 : Int) == (2 : Int))) && ((0 : Int) == (0 : Int))) && ((0 : Int) == (0 : Int))) && ((0 : Int) == (0 : Int))) && ((3 : Int) == (3 : Int))) && ((4 : Int) == (4 : Int)))))), ((true && ((((((((0 : Int) == (0 : Int)) && ((2 : Int) == (2 : Int))) && ((0 : Int) == (0 : Int))) && ((0 : Int) == (0 : Int))) && ((0 : Int) == (0 : Int))) && ((3 : Int) == (3 : Int))) && ((4 : Int) == (4 : Int)))), .val (.pointer (some ⟨gk2, 0, none⟩))), ((true && ((((((((0 : Int) == (0 : Int)) && ((2 : Int) == (2 : Int))) && ((0 : Int) == (0 : Int))) && ((0 : Int) == (0 : Int))) && ((0 : Int) == (0 : Int))) && ((3 : Int) == (3 : Int))) && ((4 : Int) == (4 : Int)))), .val (.int .i64 3)), ((true && ((((((((0 : Int) == (0 : Int)) && ((2 : Int) == (2 : Int))) && ((0 : Int) == (0 : Int))) && ((0 : Int) == (0 : Int))) && ((0 : Int) == (0 : Int))) && ((3 : Int) == (3 : Int))) && ((4 : Int) == (4 : Int)))), .val (.bool (((3 : Int) == (3 : Int))))), (true, .val (.bool ((((((((((0 : Int) == (0 : Int)) && ((2 : Int) == (2 : Int))) && ((0 : Int) == (0 : Int))) && ((0 : Int) == (0 : Int))) && ((0 : Int) == (0 : Int))) && ((3 : Int) == (3 : Int))) && ((4 : Int) == (4 : Int))) && ((3 : Int) == (3 : Int)))))), (true, .val (.bool ((((((((((0 : Int) == (0 : Int)) && ((2 : Int) == (2 : Int))) && ((0 : Int) == (0 : Int))) && ((0 : Int) == (0 : Int))) && ((0 : Int) == (0 : Int))) && ((3 : Int) == (3 : Int))) && ((4 : Int) == (4 : Int))) && ((3 : Int) == (3 : Int)))))), ((true && (((((((((0 : Int) == (0 : Int)) && ((2 : Int) == (2 : Int))) && ((0 : Int) == (0 : Int))) && ((0 : Int) == (0 : Int))) && ((0 : Int) == (0 : Int))) && ((3 : Int) == (3 : Int))) && ((4 : Int) == (4 : Int))) && ((3 : Int) == (3 : Int)))), .val (.pointer (some ⟨gk2, 0, none⟩))), ((true && (((((((((0 : Int) == (0 : Int)) && ((2 : Int) == (2 : Int))) && ((0 : Int) == (0 : Int))) && ((0 : Int) == (0 : Int))) && ((0 : Int) == (0 : Int))) && ((3 : Int) == (3 : Int))) && ((4 : Int) == (4 : Int))) && ((3 : Int) == (3 : Int)))), .val (.bool true)), (true, .val (.bool (((((((((((0 : Int) == (0 : Int)) && ((2 : Int) == (2 : Int))) && ((0 : Int) == (0 : Int))) && ((0 : Int) == (0 : Int))) && ((0 : Int) == (0 : Int))) && ((3 : Int) == (3 : Int))) && ((4 : Int) == (4 : Int))) && ((3 : Int) == (3 : Int))) && true)))), (true, .val (.bool (((((((((((0 : Int) == (0 : Int)) && ((2 : Int) == (2 : Int))) && ((0 : Int) == (0 : Int))) && ((0 : Int) == (0 : Int))) && ((0 : Int) == (0 : Int))) && ((3 : Int) == (3 : Int))) && ((4 : Int) == (4 : Int))) && ((3 : Int) == (3 : Int))) && true)))), ((true && ((((((((((0 : Int) == (0 : Int)) && ((2 : Int) == (2 : Int))) && ((0 : Int) == (0 : Int))) && ((0 : Int) == (0 : Int))) && ((0 : Int) == (0 : Int))) && ((3 : Int) == (3 : Int))) && ((4 : Int) == (4 : Int))) && ((3 : Int) == (3 : Int))) && true)), .val (.pointer (some ⟨gk2, 0, none⟩))), ((true && ((((((((((0 : Int) == (0 : Int)) && ((2 : Int) == (2 : Int))) && ((0 : Int) == (0 : Int))) && ((0 : Int) == (0 : Int))) && ((0 : Int) == (0 : Int))) && ((3 : Int) == (3 : Int))) && ((4 : Int) == (4 : Int))) && ((3 : Int) == (3 : Int))) && true)), .val (.bool false)), ((true && ((((((((((0 : Int) == (0 : Int)) && ((2 : Int) == (2 : Int))) && ((0 : Int) == (0 : Int))) && ((0 : Int) == (0 : Int))) && ((0 : Int) == (0 : Int))) && ((3 : Int) == (3 : Int))) && ((4 : Int) == (4 : Int))) && ((3 : Int) == (3 : Int))) && true)), .val (.bool ((!false)))), (true, .val (.bool ((((((((((((0 : Int) == (0 : Int)) && ((2 : Int) == (2 : Int))) && ((0 : Int) == (0 : Int))) && ((0 : Int) == (0 : Int))) && ((0 : Int) == (0 : Int))) && ((3 : Int) == (3 : Int))) && ((4 : Int) == (4 : Int))) && ((3 : Int) == (3 : Int))) && true) && (!false))))), (true, .val (.bool ((((((((((((0 : Int) == (0 : Int)) && ((2 : Int) == (2 : Int))) && ((0 : Int) == (0 : Int))) && ((0 : Int) == (0 : Int))) && ((0 : Int) == (0 : Int))) && ((3 : Int) == (3 : Int))) && ((4 : Int) == (4 : Int))) && ((3 : Int) == (3 : Int))) && true) && (!false))))), ((true && (((((((((((0 : Int) == (0 : Int)) && ((2 : Int) == (2 : Int))) && ((0 : Int) == (0 : Int))) && ((0 : Int) == (0 : Int))) && ((0 : Int) == (0 : Int))) && ((3 : Int) == (3 : Int))) && ((4 : Int) == (4 : Int))) && ((3 : Int) == (3 : Int))) && true) && (!false))), .val (.int .i64 2)), ((true && (((((((((((0 : Int) == (0 : Int)) && ((2 : Int) == (2 : Int))) && ((0 : Int) == (0 : Int))) && ((0 : Int) == (0 : Int))) && ((0 : Int) == (0 : Int))) && ((3 : Int) == (3 : Int))) && ((4 : Int) == (4 : Int))) && ((3 : Int) == (3 : Int))) && true) && (!false))), .val (.bool (((2 : Int) == (2 : Int))))), (true, .val (.bool (((((((((((((0 : Int) == (0 : Int)) && ((2 : Int) == (2 : Int))) && ((0 : Int) == (0 : Int))) && ((0 : Int) == (0 : Int))) && ((0 : Int) == (0 : Int))) && ((3 : Int) == (3 : Int))) && ((4 : Int) == (4 : Int))) && ((3 : Int) == (3 : Int))) && true) && (!false)) && ((2 : Int) == (2 : Int)))))), (true, .val (.bool (((((((((((((0 : Int) == (0 : Int)) && ((2 : Int) == (2 : Int))) && ((0 : Int) == (0 : Int))) && ((0 : Int) == (0 : Int))) && ((0 : Int) == (0 : Int))) && ((3 : Int) == (3 : Int))) && ((4 : Int) == (4 : Int))) && ((3 : Int) == (3 : Int))) && true) && (!false)) && ((2 : Int) == (2 : Int))))))] [(1, .pointer (some ⟨gk2, 0, none⟩)), (2, .int .i64 0), (3, .pointer (some ⟨g10, 0, none⟩)), (4, .pointer (some ⟨g19, 0, none⟩)), (5, .int .i64 2), (6, .int .i64 0), (7, .int .i64 0), (8, .int .i64 3), (9, .int .i64 0), (11, .int .i64 2), (22, .bool ((((0 : Int) != (0 : Int)) || false)))] ⟨rfl, rfl, rfl, rfl, rfl, rfl, rfl, rfl, rfl, rfl, rfl, trivial⟩ (by kernel_rfl) (by kernel_rfl) (by kernel_rfl) ?_ ?_
  ·refine ⟨⟨true, .none rfl, fun h w => optUndef h, fun zβ za zw zc => ?_⟩, ?_⟩
   ·exact wp_move rfl (zc.kn.ev rfl) ⟨_, rfl, Below.refl _ _, optDef zβ rfl⟩
   refine ⟨⟨true, .none rfl, fun h w => optUndef h, fun zβ za zw zc => ?_⟩, ?_⟩
   ·exact eql_27 rfl ((evt za 54).trans (optVal (zc.dep 0 54 (by kernel_rfl)) rfl rfl)) (zc.kn.ev rfl) ⟨_, rfl, Below.refl _ _, optDef zβ rfl⟩
   refine ⟨⟨true, .none rfl, fun h w => optUndef h, fun zβ za zw zc => ?_⟩, ?_⟩
   ·exact wp_move rfl ((evt za 55).trans (optVal (zc.dep 1 55 (by kernel_rfl)) rfl rfl)) ⟨_, rfl, Below.refl _ _, optDef zβ rfl⟩
   refine ⟨⟨_, .yes (c := ((0 : Int) == (0 : Int))) (d := true) rfl (fun v w h => h), fun h w => optUndef h, fun zβ za zw zc => ?_⟩, ?_⟩
   ·exact wp_move rfl (zc.kn.ev rfl) ⟨_, rfl, Below.refl _ _, optDef zβ rfl⟩
   refine ⟨⟨_, .yes (c := ((0 : Int) == (0 : Int))) (d := true) rfl (fun v w h => h), fun h w => optUndef h, fun zβ za zw zc => ?_⟩, ?_⟩
   ·exact eql_3 rfl ((evt za 57).trans (optVal (zc.dep 3 57 (by kernel_rfl)) rfl zβ)) (zc.kn.ev rfl) ⟨_, rfl, Below.refl _ _, optDef zβ rfl⟩
   refine ⟨⟨true, .none rfl, fun h w => optUndef h, fun zβ za zw zc => ?_⟩, ?_⟩
   ·exact wp_and rfl ((evt za 56).trans (optVal (zc.dep 2 56 (by kernel_rfl)) rfl rfl)) (fun hp => ((evt za 58).trans (optVal (zc.dep 4 58 (by kernel_rfl)) rfl (bMk zβ hp)))) ⟨_, rfl, Below.refl _ _, optDef zβ rfl⟩
   refine ⟨⟨true, .none rfl, fun h w => optUndef h, fun zβ za zw zc => ?_⟩, ?_⟩
   ·exact wp_move rfl ((evt za 59).trans (optVal (zc.dep 5 59 (by kernel_rfl)) rfl rfl)) ⟨_, rfl, Below.refl _ _, optDef zβ rfl⟩
   refine ⟨⟨_, .yes (c := (((0 : Int) == (0 : Int)) && ((2 : Int) == (2 : Int)))) (d := true) rfl (fun v w h => h), fun h w => optUndef h, fun zβ za zw zc => ?_⟩, ?_⟩
   ·exact wp_move rfl (zc.kn.ev rfl) ⟨_, rfl, Below.refl _ _, optDef zβ rfl⟩
   refine ⟨⟨_, .yes (c := (((0 : Int) == (0 : Int)) && ((2 : Int) == (2 : Int)))) (d := true) rfl (fun v w h => h), fun h w => optUndef h, fun zβ za zw zc => ?_⟩, ?_⟩
   ·exact eql_27 rfl ((evt za 61).trans (optVal (zc.dep 7 61 (by kernel_rfl)) rfl zβ)) (zc.kn.ev rfl) ⟨_, rfl, Below.refl _ _, optDef zβ rfl⟩
   refine ⟨⟨true, .none rfl, fun h w => optUndef h, fun zβ za zw zc => ?_⟩, ?_⟩
   ·exact wp_and rfl ((evt za 60).trans (optVal (zc.dep 6 60 (by kernel_rfl)) rfl rfl)) (fun hp => ((evt za 62).trans (optVal (zc.dep 8 62 (by kernel_rfl)) rfl (bMk zβ hp)))) ⟨_, rfl, Below.refl _ _, optDef zβ rfl⟩
   refine ⟨⟨true, .none rfl, fun h w => optUndef h, fun zβ za zw zc => ?_⟩, ?_⟩
   ·exact wp_move rfl ((evt za 63).trans (optVal (zc.dep 9 63 (by kernel_rfl)) rfl rfl)) ⟨_, rfl, Below.refl _ _, optDef zβ rfl⟩
   refine ⟨⟨_, .yes (c := ((((0 : Int) == (0 : Int)) && ((2 : Int) == (2 : Int))) && ((0 : Int) == (0 : Int)))) (d := true) rfl (fun v w h => h), fun h w => optUndef h, fun zβ za zw zc => ?_⟩, ?_⟩
   ·exact wp_move rfl (zc.kn.ev rfl) ⟨_, rfl, Below.refl _ _, optDef zβ rfl⟩
   refine ⟨⟨_, .yes (c := ((((0 : Int) == (0 : Int)) && ((2 : Int) == (2 : Int))) && ((0 : Int) == (0 : Int)))) (d := true) rfl (fun v w h => h), fun h w => optUndef h, fun zβ za zw zc => ?_⟩, ?_⟩
   ·exact eql_3 rfl ((evt za 65).trans (optVal (zc.dep 11 65 (by kernel_rfl)) rfl zβ)) (zc.kn.ev rfl) ⟨_, rfl, Below.refl _ _, optDef zβ rfl⟩
   refine ⟨⟨true, .none rfl, fun h w => optUndef h, fun zβ za zw zc => ?_⟩, ?_⟩
   ·exact wp_and rfl ((evt za 64).trans (optVal (zc.dep 10 64 (by kernel_rfl)) rfl rfl)) (fun hp => ((evt za 66).trans (optVal (zc.dep 12 66 (by kernel_rfl)) rfl (bMk zβ hp)))) ⟨_, rfl, Below.refl _ _, optDef zβ rfl⟩
   refine ⟨⟨true, .none rfl, fun h w => optUndef h, fun zβ za zw zc => ?_⟩, ?_⟩
   ·exact wp_move rfl ((evt za 67).trans (optVal (zc.dep 13 67 (by kernel_rfl)) rfl rfl)) ⟨_, rfl, Below.refl _ _, optDef zβ rfl⟩
   refine ⟨⟨_, .yes (c := (((((0 : Int) == (0 : Int)) && ((2 : Int) == (2 : Int))) && ((0 : Int) == (0 : Int))) && ((0 : Int) == (0 : Int)))) (d := true) rfl (fun v w h => h), fun h w => optUndef h, fun zβ za zw zc => ?_⟩, ?_⟩
   ·exact wp_move rfl (zc.kn.ev rfl) ⟨_, rfl, Below.refl _ _, optDef zβ rfl⟩
   refine ⟨⟨_, .yes (c := (((((0 : Int) == (0 : Int)) && ((2 : Int) == (2 : Int))) && ((0 : Int) == (0 : Int))) && ((0 : Int) == (0 : Int)))) (d := true) rfl (fun v w h => h), fun h w => optUndef h, fun zβ za zw zc => ?_⟩, ?_⟩
   ·exact eql_27 rfl ((evt za 69).trans (optVal (zc.dep 15 69 (by kernel_rfl)) rfl zβ)) (zc.kn.ev rfl) ⟨_, rfl, Below.refl _ _, optDef zβ rfl⟩
   refine ⟨⟨true, .none rfl, fun h w => optUndef h, fun zβ za zw zc => ?_⟩, ?_⟩
   ·exact wp_and rfl ((evt za 68).trans (optVal (zc.dep 14 68 (by kernel_rfl)) rfl rfl)) (fun hp => ((evt za 70).trans (optVal (zc.dep 16 70 (by kernel_rfl)) rfl (bMk zβ hp)))) ⟨_, rfl, Below.refl _ _, optDef zβ rfl⟩
   refine ⟨⟨true, .none rfl, fun h w => optUndef h, fun zβ za zw zc => ?_⟩, ?_⟩
   ·exact wp_move rfl ((evt za 71).trans (optVal (zc.dep 17 71 (by kernel_rfl)) rfl rfl)) ⟨_, rfl, Below.refl _ _, optDef zβ rfl⟩
   refine ⟨⟨_, .yes (c := ((((((0 : Int) == (0 : Int)) && ((2 : Int) == (2 : Int))) && ((0 : Int) == (0 : Int))) && ((0 : Int) == (0 : Int))) && ((0 : Int) == (0 : Int)))) (d := true) rfl (fun v w h => h), fun h w => optUndef h, fun zβ za zw zc => ?_⟩, ?_⟩
   ·exact wp_move rfl (zc.kn.ev rfl) ⟨_, rfl, Below.refl _ _, optDef zβ rfl⟩
   refine ⟨⟨_, .yes (c := ((((((0 : Int) == (0 : Int)) && ((2 : Int) == (2 : Int))) && ((0 : Int) == (0 : Int))) && ((0 : Int) == (0 : Int))) && ((0 : Int) == (0 : Int)))) (d := true) rfl (fun v w h => h), fun h w => optUndef h, fun zβ za zw zc => ?_⟩, ?_⟩
   ·exact eql_3 rfl ((evt za 73).trans (optVal (zc.dep 19 73 (by kernel_rfl)) rfl zβ)) (zc.kn.ev rfl) ⟨_, rfl, Below.refl _ _, optDef zβ rfl⟩
   refine ⟨⟨true, .none rfl, fun h w => optUndef h, fun zβ za zw zc => ?_⟩, ?_⟩
   ·exact wp_and rfl ((evt za 72).trans (optVal (zc.dep 18 72 (by kernel_rfl)) rfl rfl)) (fun hp => ((evt za 74).trans (optVal (zc.dep 20 74 (by kernel_rfl)) rfl (bMk zβ hp)))) ⟨_, rfl, Below.refl _ _, optDef zβ rfl⟩
   refine ⟨⟨true, .none rfl, fun h w => optUndef h, fun zβ za zw zc => ?_⟩, ?_⟩
   ·exact wp_move rfl ((evt za 75).trans (optVal (zc.dep 21 75 (by kernel_rfl)) rfl rfl)) ⟨_, rfl, Below.refl _ _, optDef zβ rfl⟩
   refine ⟨⟨_, .yes (c := (((((((0 : Int) == (0 : Int)) && ((2 : Int) == (2 : Int))) && ((0 : Int) == (0 : Int))) && ((0 : Int) == (0 : Int))) && ((0 : Int) == (0 : Int))) && ((3 : Int) == (3 : Int)))) (d := true) rfl (fun v w h => h), fun h w => optUndef h, fun zβ za zw zc => ?_⟩, ?_⟩
   ·exact wp_move rfl (zc.kn.ev rfl) ⟨_, rfl, Below.refl _ _, optDef zβ rfl⟩
   refine ⟨⟨_, .yes (c := (((((((0 : Int) == (0 : Int)) && ((2 : Int) == (2 : Int))) && ((0 : Int) == (0 : Int))) && ((0 : Int) == (0 : Int))) && ((0 : Int) == (0 : Int))) && ((3 : Int) == (3 : Int)))) (d := true) rfl (fun v w h => h), fun h w => optUndef h, fun zβ za zw zc => ?_⟩, ?_⟩
   ·exact wp_call (by kernel_rfl) rfl (hv1 ((evt za 77).trans (optVal (zc.dep 23 77 (by kernel_rfl)) rfl zβ))) (jLen (BkSJ.below hk100 (bstep hq110 zc.below))) (fun v w' h => ⟨v, rfl, h.2, optDef zβ h.1⟩)
   refine ⟨⟨_, .yes (c := (((((((0 : Int) == (0 : Int)) && ((2 : Int) == (2 : Int))) && ((0 : Int) == (0 : Int))) && ((0 : Int) == (0 : Int))) && ((0 : Int) == (0 : Int))) && ((3 : Int) == (3 : Int)))) (d := true) rfl (fun v w h => h), fun h w => optUndef h, fun zβ za zw zc => ?_⟩, ?_⟩
   ·exact eql_3 rfl ((evt za 78).trans (optVal (zc.dep 24 78 (by kernel_rfl)) rfl zβ)) (zc.kn.ev rfl) ⟨_, rfl, Below.refl _ _, optDef zβ rfl⟩
   refine ⟨⟨true, .none rfl, fun h w => optUndef h, fun zβ za zw zc => ?_⟩, ?_⟩
   ·exact wp_and rfl ((evt za 76).trans (optVal (zc.dep 22 76 (by kernel_rfl)) rfl rfl)) (fun hp => ((evt za 79).trans (optVal (zc.dep 25 79 (by kernel_rfl)) rfl (bMk zβ hp)))) ⟨_, rfl, Below.refl _ _, optDef zβ rfl⟩
   refine ⟨⟨true, .none rfl, fun h w => optUndef h, fun zβ za zw zc => ?_⟩, ?_⟩
   ·exact wp_move rfl ((evt za 80).trans (optVal (zc.dep 26 80 (by kernel_rfl)) rfl rfl)) ⟨_, rfl, Below.refl _ _, optDef zβ rfl⟩
   refine ⟨⟨_, .yes (c := ((((((((0 : Int) == (0 : Int)) && ((2 : Int) == (2 : Int))) && ((0 : Int) == (0 : Int))) && ((0 : Int) == (0 : Int))) && ((0 : Int) == (0 : Int))) && ((3 : Int) == (3 : Int))) && ((4 : Int) == (4 : Int)))) (d := true) rfl (fun v w h => h), fun h w => optUndef h, fun zβ za zw zc => ?_⟩, ?_⟩
   ·exact wp_move rfl (zc.kn.ev rfl) ⟨_, rfl, Below.refl _ _, optDef zβ rfl⟩
   refine ⟨⟨_, .yes (c := ((((((((0 : Int) == (0 : Int)) && ((2 : Int) == (2 : Int))) && ((0 : Int) == (0 : Int))) && ((0 : Int) == (0 : Int))) && ((0 : Int) == (0 : Int))) && ((3 : Int) == (3 : Int))) && ((4 : Int) == (4 : Int)))) (d := true) rfl (fun v w h => h), fun h w => optUndef h, fun zβ za zw zc => ?_⟩, ?_⟩
   ·exact wp_call (by kernel_rfl) rfl (hv2 ((evt za 82).trans (optVal (zc.dep 28 82 (by kernel_rfl)) rfl zβ)) (zc.kn.ev rfl)) (jSize 2 (by decide) (BkSJ.below hk100 (bstep hq110 zc.below))) (fun v w' h => ⟨v, rfl, h.2, optDef zβ h.1⟩)
   refine ⟨⟨_, .yes (c := ((((((((0 : Int) == (0 : Int)) && ((2 : Int) == (2 : Int))) && ((0 : Int) == (0 : Int))) && ((0 : Int) == (0 : Int))) && ((0 : Int) == (0 : Int))) && ((3 : Int) == (3 : Int))) && ((4 : Int) == (4 : Int)))) (d := true) rfl (fun v w h => h), fun h w => optUndef h, fun zβ za zw zc => ?_⟩, ?_⟩
   ·exact eql_3 rfl ((evt za 83).trans (optVal (zc.dep 29 83 (by kernel_rfl)) rfl zβ)) (zc.kn.ev rfl) ⟨_, rfl, Below.refl _ _, optDef zβ rfl⟩
   refine ⟨⟨true, .none rfl, fun h w => optUndef h, fun zβ za zw zc => ?_⟩, ?_⟩
   ·exact wp_and rfl ((evt za 81).trans (optVal (zc.dep 27 81 (by kernel_rfl)) rfl rfl)) (fun hp => ((evt za 84).trans (optVal (zc.dep 30 84 (by kernel_rfl)) rfl (bMk zβ hp)))) ⟨_, rfl, Below.refl _ _, optDef zβ rfl⟩
   refine ⟨⟨true, .none rfl, fun h w => optUndef h, fun zβ za zw zc => ?_⟩, ?_⟩
   ·exact wp_move rfl ((evt za 85).trans (optVal (zc.dep 31 85 (by kernel_rfl)) rfl rfl)) ⟨_, rfl, Below.refl _ _, optDef zβ rfl⟩
   refine ⟨⟨_, .yes (c := (((((((((0 : Int) == (0 : Int)) && ((2 : Int) == (2 : Int))) && ((0 : Int) == (0 : Int))) && ((0 : Int) == (0 : Int))) && ((0 : Int) == (0 : Int))) && ((3 : Int) == (3 : Int))) && ((4 : Int) == (4 : Int))) && ((3 : Int) == (3 : Int)))) (d := true) rfl (fun v w h => h), fun h w => optUndef h, fun zβ za zw zc => ?_⟩, ?_⟩
   ·exact wp_move rfl (zc.kn.ev rfl) ⟨_, rfl, Below.refl _ _, optDef zβ rfl⟩
   refine ⟨⟨_, .yes (c := (((((((((0 : Int) == (0 : Int)) && ((2 : Int) == (2 : Int))) && ((0 : Int) == (0 : Int))) && ((0 : Int) == (0 : Int))) && ((0 : Int) == (0 : Int))) && ((3 : Int) == (3 : Int))) && ((4 : Int) == (4 : Int))) && ((3 : Int) == (3 : Int)))) (d := true) rfl (fun v w h => h), fun h w => optUndef h, fun zβ za zw zc => ?_⟩, ?_⟩
   ·exact wp_call (by kernel_rfl) rfl (hv2 ((evt za 87).trans (optVal (zc.dep 33 87 (by kernel_rfl)) rfl zβ)) (zc.kn.ev rfl)) (jGround 0 (by decide) (BkSJ.below hk100 (bstep hq110 zc.below))) (fun v w' h => ⟨v, rfl, h.2, optDef zβ h.1⟩)
   refine ⟨⟨true, .none rfl, fun h w => optUndef h, fun zβ za zw zc => ?_⟩, ?_⟩
   ·exact wp_and rfl ((evt za 86).trans (optVal (zc.dep 32 86 (by kernel_rfl)) rfl rfl)) (fun hp => ((evt za 88).trans (optVal (zc.dep 34 88 (by kernel_rfl)) rfl (bMk zβ hp)))) ⟨_, rfl, Below.refl _ _, optDef zβ rfl⟩
   refine ⟨⟨true, .none rfl, fun h w => optUndef h, fun zβ za zw zc => ?_⟩, ?_⟩
   ·exact wp_move rfl ((evt za 89).trans (optVal (zc.dep 35 89 (by kernel_rfl)) rfl rfl)) ⟨_, rfl, Below.refl _ _, optDef zβ rfl⟩
   refine ⟨⟨_, .yes (c := ((((((((((0 : Int) == (0 : Int)) && ((2 : Int) == (2 : Int))) && ((0 : Int) == (0 : Int))) && ((0 : Int) == (0 : Int))) && ((0 : Int) == (0 : Int))) && ((3 : Int) == (3 : Int))) && ((4 : Int) == (4 : Int))) && ((3 : Int) == (3 : Int))) && true)) (d := true) rfl (fun v w h => h), fun h w => optUndef h, fun zβ za zw zc => ?_⟩, ?_⟩
   ·exact wp_move rfl (zc.kn.ev rfl) ⟨_, rfl, Below.refl _ _, optDef zβ rfl⟩
   refine ⟨⟨_, .yes (c := ((((((((((0 : Int) == (0 : Int)) && ((2 : Int) == (2 : Int))) && ((0 : Int) == (0 : Int))) && ((0 : Int) == (0 : Int))) && ((0 : Int) == (0 : Int))) && ((3 : Int) == (3 : Int))) && ((4 : Int) == (4 : Int))) && ((3 : Int) == (3 : Int))) && true)) (d := true) rfl (fun v w h => h), fun h w => optUndef h, fun zβ za zw zc => ?_⟩, ?_⟩
   ·exact wp_call (by kernel_rfl) rfl (hv2 ((evt za 91).trans (optVal (zc.dep 37 91 (by kernel_rfl)) rfl zβ)) (zc.kn.ev rfl)) (jGround 1 (by decide) (BkSJ.below hk100 (bstep hq110 zc.below))) (fun v w' h => ⟨v, rfl, h.2, optDef zβ h.1⟩)
   refine ⟨⟨_, .yes (c := ((((((((((0 : Int) == (0 : Int)) && ((2 : Int) == (2 : Int))) && ((0 : Int) == (0 : Int))) && ((0 : Int) == (0 : Int))) && ((0 : Int) == (0 : Int))) && ((3 : Int) == (3 : Int))) && ((4 : Int) == (4 : Int))) && ((3 : Int) == (3 : Int))) && true)) (d := true) rfl (fun v w h => h), fun h w => optUndef h, fun zβ za zw zc => ?_⟩, ?_⟩
   ·exact wp_not rfl ((evt za 92).trans (optVal (zc.dep 38 92 (by kernel_rfl)) rfl zβ)) ⟨_, rfl, Below.refl _ _, optDef zβ rfl⟩
   refine ⟨⟨true, .none rfl, fun h w => optUndef h, fun zβ za zw zc => ?_⟩, ?_⟩
   ·exact wp_and rfl ((evt za 90).trans (optVal (zc.dep 36 90 (by kernel_rfl)) rfl rfl)) (fun hp => ((evt za 93).trans (optVal (zc.dep 39 93 (by kernel_rfl)) rfl (bMk zβ hp)))) ⟨_, rfl, Below.refl _ _, optDef zβ rfl⟩
   refine ⟨⟨true, .none rfl, fun h w => optUndef h, fun zβ za zw zc => ?_⟩, ?_⟩
   ·exact wp_move rfl ((evt za 94).trans (optVal (zc.dep 40 94 (by kernel_rfl)) rfl rfl)) ⟨_, rfl, Below.refl _ _, optDef zβ rfl⟩
   refine ⟨⟨_, .yes (c := (((((((((((0 : Int) == (0 : Int)) && ((2 : Int) == (2 : Int))) && ((0 : Int) == (0 : Int))) && ((0 : Int) == (0 : Int))) && ((0 : Int) == (0 : Int))) && ((3 : Int) == (3 : Int))) && ((4 : Int) == (4 : Int))) && ((3 : Int) == (3 : Int))) && true) && (!false))) (d := true) rfl (fun v w h => h), fun h w => optUndef h, fun zβ za zw zc => ?_⟩, ?_⟩
   ·exact wp_move rfl (zc.kn.ev rfl) ⟨_, rfl, Below.refl _ _, optDef zβ rfl⟩
   refine ⟨⟨_, .yes (c := (((((((((((0 : Int) == (0 : Int)) && ((2 : Int) == (2 : Int))) && ((0 : Int) == (0 : Int))) && ((0 : Int) == (0 : Int))) && ((0 : Int) == (0 : Int))) && ((3 : Int) == (3 : Int))) && ((4 : Int) == (4 : Int))) && ((3 : Int) == (3 : Int))) && true) && (!false))) (d := true) rfl (fun v w h => h), fun h w => optUndef h, fun zβ za zw zc => ?_⟩, ?_⟩
   ·exact eql_27 rfl ((evt za 96).trans (optVal (zc.dep 42 96 (by kernel_rfl)) rfl zβ)) (zc.kn.ev rfl) ⟨_, rfl, Below.refl _ _, optDef zβ rfl⟩
   refine ⟨⟨true, .none rfl, fun h w => optUndef h, fun zβ za zw zc => ?_⟩, ?_⟩
   ·exact wp_and rfl ((evt za 95).trans (optVal (zc.dep 41 95 (by kernel_rfl)) rfl rfl)) (fun hp => ((evt za 97).trans (optVal (zc.dep 43 97 (by kernel_rfl)) rfl (bMk zβ hp)))) ⟨_, rfl, Below.refl _ _, optDef zβ rfl⟩
   refine ⟨⟨true, .none rfl, fun h w => optUndef h, fun zβ za zw zc => ?_⟩, ?_⟩
   ·exact wp_assign rfl ((evt za 98).trans (optVal (zc.dep 44 98 (by kernel_rfl)) rfl rfl)) ⟨_, rfl, Below.refl _ _, optDef zβ rfl⟩
   exact trivial
  ·intro za w112 zh hb113 zu
   have zh := zh.cons (d := 0) (v := .bool (((((((((((((0 : Int) == (0 : Int)) && ((2 : Int) == (2 : Int))) && ((0 : Int) == (0 : Int))) && ((0 : Int) == (0 : Int))) && ((0 : Int) == (0 : Int))) && ((3 : Int) == (3 : Int))) && ((4 : Int) == (4 : Int))) && ((3 : Int) == (3 : Int))) && true) && (!false)) && ((2 : Int) == (2 : Int))))) (optVal (zu 45 0 (by kernel_rfl)) rfl rfl)
   clear zu
   refine WE.go zh ?_
   refine WE.next (WC.ret (WE.ret1 rfl rfl ?_))
   have hb114 : Below w.heap.size w w112 := (bstep (bstep hb106 hq110) hb113)
   exact ⟨_, rfl, congrArg Value.bool (by simp), hb114⟩
end Go.Proofs.Ytbohlpfndiiimaa

/- The order in which terms come: the law's walk. -/
namespace Go.Proofs.Ytbohlpfndiiimaa
open Go.RowKit Go
set_option linter.unusedVariables false
set_option linter.unusedSimpArgs false
/-- Two banks, apart from each other. -/
def TwoB (w : World) (B g1 g2 : Nat) (sg : List Sy) (N1 N2 : List En) : Prop := ∃ Y1 Y2, BkS w g1 sg Y1 N1 ∧ BkS w g2 sg Y2 N2 ∧ (∀ b, Y1 b → B ≤ b) ∧ (∀ b, Y2 b → B ≤ b) ∧ ∀ b, Y1 b → ¬ Y2 b
section
variable {w w' : World} {B g1 g2 : Nat} {sg : List Sy} {N1 N2 : List En}
theorem TwoB.symm (h : TwoB w B g1 g2 sg N1 N2) : TwoB w B g2 g1 sg N2 N1 := by
  obtain ⟨Y1, Y2, h1, h2, h3, h4, h5⟩ := h
  exact ⟨Y2, Y1, h2, h1, h4, h3, fun b q k => h5 b k q⟩
theorem TwoB.below (h : TwoB w B g1 g2 sg N1 N2) (hb : Below w.heap.size w w') : TwoB w' B g1 g2 sg N1 N2 := by
  obtain ⟨Y1, Y2, h1, h2, h3, h4, h5⟩ := h
  exact ⟨Y1, Y2, h1.below hb, h2.below hb, h3, h4, h5⟩
theorem TwoB.one (h : TwoB w B g1 g2 sg N1 N2) : BkSJ w B g1 sg N1 (fun _ => False) := by
  obtain ⟨Y1, Y2, h1, h2, h3, h4, h5⟩ := h
  exact ⟨Y1, h1, h3, fun b q => q.elim⟩
theorem TwoB.two (h : TwoB w B g1 g2 sg N1 N2) : BkSJ w B g2 sg N2 (fun _ => False) := h.symm.one
theorem TwoB.ok (h : TwoB w B g1 g2 sg N1 N2) : NEk N1 ∧ NEk N2 := ⟨h.one.ok, h.two.ok⟩
theorem TwoB.new {B1 B2 : Nat} (h1 : BkS w' g1 sg (fun b => B ≤ b ∧ b < B1) N1) (h2 : BkS w' g2 sg (fun b => B2 ≤ b ∧ b < w'.heap.size) N2) (h3 : B1 ≤ B2) (h4 : B ≤ B2) : TwoB w' B g1 g2 sg N1 N2 :=
  ⟨_, _, h1, h2, fun b q => q.1, fun b q => Nat.le_trans h4 q.1, fun b q k => by have z1 := q.2; have z2 := k.1; omega⟩
end
theorem newY (sg : List Sy) (w : World) (v : Value) (hz : sg.length ≤ 4294967296) (hs : IsSig w sg v) (hck : sigCheck sg = 0) : Calls Try.prog 7 #[v] w (Ret fun v' w' => (∃ g : Nat, v' = .tuple #[.pointer (some ⟨g, 0, none⟩), .int .i64 0] ∧ BkS w' g sg (fun b => w.heap.size ≤ b ∧ b < w'.heap.size) []) ∧ Below w.heap.size w w') := by
  refine Calls.mono (bNew_any sg w v hz hs) (fun e w' hr => ?_)
  obtain ⟨v', rfl, h, hb⟩ := hr
  rcases h with ⟨h, _⟩ | ⟨_, g, h1, _, h2⟩
  · exact absurd hck h
  · exact ⟨v', rfl, ⟨g, h1, h2⟩, hb⟩
theorem newN (sg : List Sy) (w : World) (v : Value) (hz : sg.length ≤ 4294967296) (hs : IsSig w sg v) (hck : sigCheck sg ≠ 0) : Calls Try.prog 7 #[v] w (Ret fun v' w' => v' = .tuple #[.pointer none, .int .i64 2] ∧ Below w.heap.size w w') := by
  refine Calls.mono (bNew_any sg w v hz hs) (fun e w' hr => ?_)
  obtain ⟨v', rfl, h, hb⟩ := hr
  rcases h with ⟨_, h⟩ | ⟨h, _⟩
  · exact ⟨v', rfl, h, hb⟩
  · exact absurd h hck
/-- The terms that may be. -/
def accs (sg : List Sy) (l : List T) : List T := l.filter fun t => decide (chkI sg t = 0)
theorem bputI_accs (sg : List Sy) (l : List T) (t : T) : bputI sg (bputs (accs sg l) []) t = bputs (accs sg (l ++ [t])) [] := by
  unfold bputI accs
  rw [List.filter_append, List.filter_cons]
  by_cases c : chkI sg t = 0
  · rw [if_pos c, if_pos (by simpa using c), List.filter_nil, bputs_snoc]
  · rw [if_neg c, if_neg (by simpa using c), List.filter_nil, List.append_nil]
abbrev bank1 (sg : List Sy) (l : List T) (k : Nat) : List En := bputs (accs sg (l.take k)) []
theorem bank1_succ {sg : List Sy} {l : List T} {k : Nat} (h : k < l.length) : bputI sg (bank1 sg l k) (tget l k) = bank1 sg l (k + 1) := by
  unfold bank1
  rw [bputI_accs, List.take_succ_eq_append_getElem h, tget_lt h]
theorem bfind_gets {N : List En} {t : T} {j : Nat} (h : t.bfind N = some j) : (((t.bfind N).getD 0 : Nat) : Int) = (j : Int) ∧ (t.bfind N).isSome = true := by rw [h]; exact ⟨rfl, rfl⟩
end Go.Proofs.Ytbohlpfndiiimaa

/- Terms compared and found the same: the document's way. -/
namespace Go.Proofs.Ytbohlpfndiiimaa
open Go.RowKit Go.Sort Go
set_option maxHeartbeats 400000 in
theorem compare_any (s : T) : ∀ (t : T) (w : World) (v u : Value), IsT w s v → IsT w t u →
    Calls Try.prog 32 #[v, u] w fun e w' => e = .returned (.int .i64 (T.cmp s t)) ∧ Below w.heap.size w w' := by
  induction s using T.ind with
  | h f l ih =>
  intro t w v u hv hu
  obtain ⟨g, q⟩ := t
  obtain ⟨⟨hf1, hf2⟩, a, c, rfl, hc, hm, hl⟩ := hv
  obtain ⟨⟨hg1, hg2⟩, a', c', rfl, hc', hm', hq⟩ := hu
  unfold maxLen at hm hm'
  by_cases hfg : f = g
  · have E := Lib.hid (show T.cmp (.mk f l) (.mk g q) = T.cmpL l q by rw [T.cmp, if_neg (by simpa using hfg)])
    have hne : (f != g) = false := by simpa using hfg
    subst hfg
    go_enter Try.func32, Try.ntmps32
    go_wp2_with fail
    go_loopw [5] (fun i wr => ∃ (k : Nat), k ≤ l.length ∧ k ≤ q.length ∧ i = .int .i64 k ∧ Hid (T.cmpL l q = T.cmpL (l.drop k) (q.drop k)) ∧ Below w.heap.size w wr ∧ Box wr w.heap.size [.int .i64 f, .slice a l.length c] ∧ Box wr (w.heap.size + 1) [.int .i64 f, .slice a' q.length c']) (fun i _ => l.length - (intOf i).toNat)
    case atStart => exact ⟨0, Nat.zero_le _, Nat.zero_le _, rfl, rfl, balloc2 _ _ _, (Box.new _ _ _).alloc _, by have := Box.new (w.alloc (.cells #[.int .i64 f, .slice a l.length c] 35)) [.int .i64 f, .slice a' q.length c'] 35; simpa using this⟩
    case round =>
      obtain ⟨k, hk, hkq, rfl, hx, hw, hB1, hB2⟩ := hrel
      obtain ⟨s0, s1⟩ := hB1.two
      obtain ⟨t0, t1⟩ := hB2.two
      by_cases hlt : k < l.length
      · by_cases hlq : k < q.length
        · obtain ⟨b1, o1, a1, c1, rfl, g1, g2, h3⟩ := hl.at_ hw k hlt
          obtain ⟨b2, o2, a2, c2, rfl, g3, g4, h4⟩ := hq.at_ hw k hlq
          have IH := fun w v u => ih l[k] (List.getElem_mem hlt) q[k] w v u
          have q5 := T.cmpL_drop l q k hlt hlq
          have k0 : (0 : Int) ≤ (k : Int) := by omega
          have k1 : (k : Int) < (l.length : Int) := by omega
          have k2 : (k : Int) < (q.length : Int) := by omega
          have r0 := cell_regrown s1
          have r1 := cell_regrown t1
          have r2 := cell_regrown g1
          have r3 := cell_regrown g2
          have r4 := cell_regrown g3
          have r5 := cell_regrown g4
          have Hh3 := Lib.hid h3
          have Hh4 := Lib.hid h4
          have HhB1 := Lib.hid hB1
          have HhB2 := Lib.hid hB2
          have Hhw := Lib.hid hw
          have Hq5 := Lib.hid q5
          have Hhx := Lib.hid hx
          clear h3 h4 hB1 hB2 hw q5 hx
          clear ih hl hq
          by_cases hz : T.cmp l[k] q[k] = 0
          · rw [hz] at IH
            have Hz := Lib.hid hz
            clear hz
            go_wp2_with fail
            refine wp_region_quiet_below (by kernel_rfl) (by kernel_rfl) ?_
            repeat (quiet_step (exact Calls.regrown_of (IH _ _ _ (Hh3.out.below (below_regrown _ _ _)) (Hh4.out.below (below_regrown _ _ _)))))
            refine wpQuiet_nil ?_
            intro _ hw'
            obtain ⟨⟨dq, osq⟩, hw''⟩ := hw'
            subst hw''
            have hbq := below_regrown wr dq osq
            generalize grow (redrawn wr dq) osq = wq at hbq ⊢
            go_wp2_with fail
            go_roundw
            case rel => exact ⟨k + 1, by omega, by omega, by go_num, by unfold Hid; rw [Hhx.out, Hq5.out, if_pos Hz.out], bstep Hhw.out hbq, HhB1.out.below hbq, HhB2.out.below hbq⟩
            case measure => simp [intOf]; omega
          · have hzb : (T.cmp l[k] q[k] != 0) = true := by simpa using hz
            have Hz := Lib.hid hz
            clear hz
            go_wp2_with fail
            refine wp_region_quiet_below (by kernel_rfl) (by kernel_rfl) ?_
            repeat (quiet_step (exact Calls.regrown_of (IH _ _ _ (Hh3.out.below (below_regrown _ _ _)) (Hh4.out.below (below_regrown _ _ _)))))
            refine wpQuiet_nil ?_
            intro _ hw'
            obtain ⟨⟨dq, osq⟩, hw''⟩ := hw'
            subst hw''
            have hbq := below_regrown wr dq osq
            generalize grow (redrawn wr dq) osq = wq at hbq ⊢
            go_wp2_with fail
            go_ret
            exact ⟨rint (by rw [E.out, Hhx.out, Hq5.out, if_neg Hz.out]), bstep Hhw.out hbq⟩
        · have Q := Lib.hid (show T.cmpL (l.drop k) (q.drop k) = 1 from T.cmpL_long l q k hlt (by omega))
          have Hhw := Lib.hid hw
          have Hhx := Lib.hid hx
          clear hw hx
          clear ih hl hq
          go_wp2_with fail
          go_ret
          exact ⟨rint (by rw [E.out, Hhx.out, Q.out]), Hhw.out⟩
      · obtain rfl : k = l.length := by omega
        by_cases hlq : l.length < q.length
        · have Q := Lib.hid (show T.cmpL (l.drop l.length) (q.drop l.length) = -1 from T.cmpL_short l q hlq)
          have Hhw := Lib.hid hw
          have Hhx := Lib.hid hx
          clear hw hx
          clear ih hl hq
          go_wp2_with fail
          go_ret
          exact ⟨rint (by rw [E.out, Hhx.out, Q.out]), Hhw.out⟩
        · have Q := Lib.hid (show T.cmpL (l.drop l.length) (q.drop l.length) = 0 from T.cmpL_end l q (by omega))
          have Hhw := Lib.hid hw
          have Hhx := Lib.hid hx
          clear hw hx
          clear ih hl hq
          go_wp2_with fail
          go_ret
          exact ⟨rint (by rw [E.out, Hhx.out, Q.out]), Hhw.out⟩
  · have hne : (f != g) = true := by simpa using hfg
    by_cases hf : f < 0
    · by_cases hg : g < 0
      · by_cases hlt : g < f
        · have E := Lib.hid (show T.cmp (.mk f l) (.mk g q) = -1 by rw [T.cmp, if_pos hfg, if_pos ⟨hf, hg⟩, if_pos hlt])
          go_enter Try.func32, Try.ntmps32
          go_wp2_with fail
          go_ret
          exact ⟨rint E.out, balloc2 _ _ _⟩
        · have E := Lib.hid (show T.cmp (.mk f l) (.mk g q) = 1 by rw [T.cmp, if_pos hfg, if_pos ⟨hf, hg⟩, if_neg hlt])
          go_enter Try.func32, Try.ntmps32
          go_wp2_with fail
          go_ret
          exact ⟨rint E.out, balloc2 _ _ _⟩
      · have hlt : f < g := by omega
        have E := Lib.hid (show T.cmp (.mk f l) (.mk g q) = -1 by rw [T.cmp, if_pos hfg, if_neg (by omega), if_pos hlt])
        go_enter Try.func32, Try.ntmps32
        go_wp2_with fail
        go_ret
        exact ⟨rint E.out, balloc2 _ _ _⟩
    · by_cases hlt : f < g
      · have E := Lib.hid (show T.cmp (.mk f l) (.mk g q) = -1 by rw [T.cmp, if_pos hfg, if_neg (by omega), if_pos hlt])
        go_enter Try.func32, Try.ntmps32
        go_wp2_with fail
        go_ret
        exact ⟨rint E.out, balloc2 _ _ _⟩
      · have E := Lib.hid (show T.cmp (.mk f l) (.mk g q) = 1 by rw [T.cmp, if_pos hfg, if_neg (by omega), if_neg hlt])
        go_enter Try.func32, Try.ntmps32
        go_wp2_with fail
        go_ret
        exact ⟨rint E.out, balloc2 _ _ _⟩
theorem rsame_any (s t : T) (w : World) (v u : Value) (hv : IsT w s v) (hu : IsT w t u) :
    Calls Try.prog 10 #[v, u] w fun e w' => e = .returned (.bool (T.same s t)) ∧ Below w.heap.size w w' := by
  obtain ⟨_, a, c, rfl, hc, hm, _⟩ := hv.form
  obtain ⟨_, a', c', rfl, hc', hm', _⟩ := hu.form
  unfold maxLen at hm hm'
  have E := T.cmp_same s t
  have C := fun w v u => compare_any s t w v u
  cases hs : T.same s t with
  | true =>
    rw [hs, if_pos rfl] at E
    rw [E] at C
    have Hhv := Lib.hid hv
    have Hhu := Lib.hid hu
    clear hv hu
    clear hs E
    go_enter Try.func10, Try.ntmps10
    go_wp2_with (go_at_call 32; refine (C _ _ _ (Hhv.out.below (balloc2 _ _ _)) (Hhu.out.below (balloc2 _ _ _))).mono ?_; rintro e w' ⟨rfl, hb'⟩)
    go_ret
    exact ⟨rfl, bstep (balloc2 _ _ _) hb'⟩
  | false =>
    rw [hs] at E
    have E' : (T.cmp s t == 0) = false := by simpa using E
    have Hhv := Lib.hid hv
    have Hhu := Lib.hid hu
    clear hv hu
    clear hs E
    go_enter Try.func10, Try.ntmps10
    go_wp2_with (go_at_call 32; refine (C _ _ _ (Hhv.out.below (balloc2 _ _ _)) (Hhu.out.below (balloc2 _ _ _))).mono ?_; rintro e w' ⟨rfl, hb'⟩)
    go_ret
    exact ⟨rfl, bstep (balloc2 _ _ _) hb'⟩
end Go.Proofs.Ytbohlpfndiiimaa

namespace Go.Proofs.Ytbohlpfndiiimaa
open Go.RowKit Go
set_option linter.unusedVariables false
set_option linter.unusedSimpArgs false
/-- The numbers of the terms that were put in. -/
structure ShOk (N : List En) (Tk : List T) (M : List Nat) : Prop where
 len : M.length = Tk.length
 lt : ∀ i, i < M.length → aget M i < N.length
 tm : ∀ i, i < M.length → tmE N (aget M i) = tget Tk i
theorem ShOk.nil : ShOk [] [] [] := ⟨rfl, fun i h => by simp at h, fun i h => by simp at h⟩
theorem aget_app1 {M : List Nat} {n i : Nat} (h : i < M.length) : aget (M ++ [n]) i = aget M i := by
 rw [aget_lt (by simp; omega), aget_lt h, List.getElem_append_left h]
theorem aget_app2 {M : List Nat} {n : Nat} : aget (M ++ [n]) M.length = n := by
 rw [aget_lt (by simp)]; simp
theorem tget_app1 {M : List T} {n : T} {i : Nat} (h : i < M.length) : tget (M ++ [n]) i = tget M i := by
 rw [tget_lt (by simp; omega), tget_lt h, List.getElem_append_left h]
theorem tget_app2 {M : List T} {n : T} : tget (M ++ [n]) M.length = n := by
 rw [tget_lt (by simp)]; simp
theorem accs_yes {sg : List Sy} {l : List T} {t : T} (h : chkI sg t = 0) : accs sg (l ++ [t]) = accs sg l ++ [t] := by
 unfold accs
 rw [List.filter_append, List.filter_cons, if_pos (by simpa using h)]; rfl
theorem accs_no {sg : List Sy} {l : List T} {t : T} (h : chkI sg t ≠ 0) : accs sg (l ++ [t]) = accs sg l := by
 unfold accs
 rw [List.filter_append, List.filter_cons, if_neg (by simpa using h)]; simp
theorem acct_yes {sg : List Sy} {l : List T} {k : Nat} (hk : k < l.length) (h : chkI sg (tget l k) = 0) : accs sg (l.take (k + 1)) = accs sg (l.take k) ++ [tget l k] := by
 rw [List.take_succ_eq_append_getElem hk, ← tget_lt hk, accs_yes h]
theorem acct_no {sg : List Sy} {l : List T} {k : Nat} (hk : k < l.length) (h : chkI sg (tget l k) ≠ 0) : accs sg (l.take (k + 1)) = accs sg (l.take k) := by
 rw [List.take_succ_eq_append_getElem hk, ← tget_lt hk, accs_no h]
theorem ShOk.no {sg : List Sy} {l : List T} {k : Nat} {M : List Nat} (h : ShOk (bank1 sg l k) (accs sg (l.take k)) M) (hk : k < l.length) (hc : chkI sg (tget l k) ≠ 0) : ShOk (bank1 sg l (k + 1)) (accs sg (l.take (k + 1))) M := by
 unfold bank1
 rw [acct_no hk hc]; exact h
theorem ShOk.put {N : List En} {Tk : List T} {M : List Nat} (h : ShOk N Tk M) (hN : BOk N) (t : T) : ShOk (t.bput N).1 (Tk ++ [t]) (M ++ [(t.bput N).2]) := by
 obtain ⟨p1, p2, p3, _⟩ := bput_ok t N hN
 refine ⟨by simp [h.len], fun i hi => ?_, fun i hi => ?_⟩
 ·by_cases c : i < M.length
  ·rw [aget_app1 c]; exact Nat.lt_of_lt_of_le (h.lt i c) p1.le
  ·obtain rfl : i = M.length := by simp at hi; omega
   rw [aget_app2]; exact p2
 ·by_cases c : i < M.length
  ·rw [aget_app1 c, p1.tm hN (h.lt i c), h.tm i c, tget_app1 (by rw [← h.len]; exact c)]
  ·obtain rfl : i = M.length := by simp at hi; omega
   rw [aget_app2, p3, h.len, tget_app2]
theorem ShOk.yes {sg : List Sy} {l : List T} {k : Nat} {M : List Nat} (h : ShOk (bank1 sg l k) (accs sg (l.take k)) M) (hN : NEk (bank1 sg l k)) (hk : k < l.length) (hc : chkI sg (tget l k) = 0) : ShOk (bank1 sg l (k + 1)) (accs sg (l.take (k + 1))) (M ++ [((tget l k).bput (bank1 sg l k)).2]) := by
 have z := h.put hN.ok (tget l k)
 unfold bank1 at *
 rw [acct_yes hk hc, bputs_snoc]; exact z
theorem ShOk.eq {N : List En} {Tk : List T} {M : List Nat} (h : ShOk N Tk M) (hN : BOk N) {t : T} {j : Nat} (hj : j < M.length) : aget M j = (t.bput N).2 ↔ tget Tk j = t := by
 obtain ⟨p1, p2, p3, _⟩ := bput_ok t N hN
 have e := (p1.tm hN (h.lt j hj)).trans (h.tm j hj)
 constructor
 ·intro q
  rw [← e, q, p3]
 ·intro q
  exact tmE_inj p1.ok _ _ _ (Nat.lt_succ_self _) (Nat.lt_of_lt_of_le (h.lt j hj) p1.le) p2 (by rw [e, q, p3])
theorem bputV_yes {sg : List Sy} {N : List En} {t : T} (h : chkI sg t = 0) : bputV sg N t = (((t.bput N).2 : Nat) : Int) := by unfold bputV; rw [if_pos h]
theorem ShOk.cond {sg : List Sy} {N : List En} {Tk : List T} {M : List Nat} (h : ShOk N Tk M) (hN : BOk N) {t : T} {j : Nat} (hj : j < M.length) (hc : chkI sg t = 0) : ((((aget M j : Nat) : Int) == bputV sg N t) != T.same (tget Tk j) t) = false := by
 rw [bputV_yes hc]
 have z := h.eq hN (t := t) hj
 by_cases c : tget Tk j = t
 ·rw [c, T.same_refl, z.2 c]; simp
 ·have c2 : aget M j ≠ (t.bput N).2 := fun q => c (z.1 q)
  have c3 : T.same (tget Tk j) t = false := by
   cases hs : T.same (tget Tk j) t
   ·rfl
   ·exact absurd ((T.same_iff _ _).1 hs) c
  rw [c3]
  simp; omega
/-- How the law stands. -/
structure ShSt where
 k : Nat
 ra : Option Addr
 rc : Nat
 qa : Option Addr
 qc : Nat
 m : Nat
 M : List Nat
theorem args_le : ∀ t : T, t.args.length ≤ t.size
 | .mk f l => by have := len_le_sizeL l; rw [T.size]; simp only [T.args]; omega
theorem tm_argl {N : List En} (h : BOk N) {n : Nat} (hn : n < N.length) : (tmE N n).args.length = (eget N n).args.length ∧ ∀ k, k < (eget N n).args.length → tget (tmE N n).args k = tmE N (aget (eget N n).args k) ∧ aget (eget N n).args k < n := by
 have e : (tmE N n).args = (eget N n).args.map (tmE N) := by rw [tmE_eq h hn]; rfl
 refine ⟨by rw [e, List.length_map], fun k hk => ⟨?_, h.args n hn _ (aget_mem hk)⟩⟩
 rw [e, tget_lt (by rw [List.length_map]; exact hk), List.getElem_map, aget_lt hk]
set_option maxRecDepth 100000 in
set_option maxHeartbeats 1000000 in
theorem shares_any (sg : List Sy) (l : List T) (w : World) (vs : Value) (a : Option Addr) (c : Nat) (hzs : sg.length ≤ 1048576) (hs : IsSig w sg vs) (hc : l.length ≤ c) (hm : c ≤ maxLen) (hl : IsTs w l a 0) (hz : T.sizeL l ≤ 1048576) : Calls Try.prog 3 #[vs, .slice a l.length c] w (Ret fun v' w' => v' = .bool true ∧ Below w.heap.size w w') := by
 have hst := hs
 obtain ⟨sa, sc, rfl, _, _, _⟩ := hs
 have hlen := len_le_sizeL l
 have htz : ∀ k, k < l.length → (tget l k).size ≤ 4294967296 := fun k hk => by have := T.size_le_sizeL (tget_mem hk); omega
 refine Calls.walk (l := [.agg #[.slice sa sg.length sc], .slice a l.length c]) Try.func3 rfl (by kernel_rfl) ?_
 refine WC.sub (K' := [(0, .agg #[.slice sa sg.length sc]), (1, .slice a l.length c)]) ⟨rfl, rfl, trivial⟩ ?_
 refine WC.seq (WC.region ?_)
 refine WL.step (post := NewBlk w 24 #[.slice sa sg.length sc]) rfl rfl rfl (fun za zC zh zk => box_24 rfl (zh.ev rfl) (zk _ _ (newBlk _ _ _))) ?_
 rintro _ w1 ⟨g2, rfl, hg3, hB4, hb5, hz6⟩
 have hl7 : w.heap.size ≤ g2 := by omega
 refine WL.asg rfl rfl rfl rfl rfl (WL.nil (WE.next (WC.seq (WC.region ?_))))
 refine WL.val _ rfl rfl rfl (fun za zC zh zk => ld_24 rfl (zh.ev rfl) ((hB4.cell 0).trans rfl) zk) ?_
 by_cases hck : sigCheck sg = 0
 ·refine WL.call rfl rfl rfl (fun za zh zC => wp_call (by kernel_rfl) rfl (hv1 (zh.ev rfl))) (newY sg _ _ (by omega) (IsSig.below hb5 hst) hck) ?_
  rintro _ w11 ⟨⟨gk8, rfl, hk9⟩, hb10⟩
  have hBw : w.heap.size ≤ w1.heap.size := hb5.size
  have hk00 : BkSJ w11 w1.heap.size gk8 sg (bank1 sg l 0) (fun b => obk none 0 0 = some b ∨ obk none 0 0 = some b) := ⟨_, hk9, fun b q => q.1, fun b q => by rcases q with q | q <;> cases q⟩
  refine WL.mv rfl rfl rfl rfl rfl ?_
  refine WL.val (.pointer (some ⟨gk8, 0, none⟩)) rfl rfl rfl (fun za zC zh zk => ext2_0 rfl (zh.ev rfl) zk) ?_
  refine WL.val (.int .i64 0) rfl rfl rfl (fun za zC zh zk => ext2_1 rfl (zh.ev rfl) zk) ?_
  refine WL.asg rfl rfl rfl rfl rfl (WL.asg rfl rfl rfl rfl rfl (WL.nil (WE.next (WC.seq (WC.seq ?_)))))
  refine WC.opt [(true, .val (.int .i64 0)), (true, .val (.bool false)), (true, .val (.bool false)), ((true && !false), .val (.slice a l.length c)), ((true && !false), .val (.int .i64 (((l.length : Nat) : Int)))), ((true && !false), .val (.bool ((decide ((40 : Int) < (((l.length : Nat) : Int) : Int)))))), (true, .val (.bool ((decide ((40 : Int) < (((l.length : Nat) : Int) : Int))))))] [(0, .agg #[.slice sa sg.length sc]), (1, .slice a l.length c), (2, .pointer (some ⟨g2, 0, none⟩)), (4, .bool false), (5, .pointer (some ⟨gk8, 0, none⟩)), (6, .int .i64 0)] ⟨rfl, rfl, rfl, rfl, rfl, rfl, trivial⟩ (by kernel_rfl) (by kernel_rfl) (by kernel_rfl) ?_ ?_
  ·refine ⟨⟨true, .none rfl, fun h w => optUndef h, fun zβ za zw zc => ?_⟩, ?_⟩
   ·exact wp_move rfl (zc.kn.ev rfl) ⟨_, rfl, Below.refl _ _, optDef zβ rfl⟩
   refine ⟨⟨true, .none rfl, fun h w => optUndef h, fun zβ za zw zc => ?_⟩, ?_⟩
   ·exact neq_27 rfl ((evt za 27).trans (optVal (zc.dep 0 27 (by kernel_rfl)) rfl rfl)) (zc.kn.ev rfl) ⟨_, rfl, Below.refl _ _, optDef zβ rfl⟩
   refine ⟨⟨true, .none rfl, fun h w => optUndef h, fun zβ za zw zc => ?_⟩, ?_⟩
   ·exact wp_move rfl ((evt za 28).trans (optVal (zc.dep 1 28 (by kernel_rfl)) rfl rfl)) ⟨_, rfl, Below.refl _ _, optDef zβ rfl⟩
   refine ⟨⟨_, .no (c := false) (d := true) rfl (fun v w h => h), fun h w => optUndef h, fun zβ za zw zc => ?_⟩, ?_⟩
   ·exact wp_move rfl (zc.kn.ev rfl) ⟨_, rfl, Below.refl _ _, optDef zβ rfl⟩
   refine ⟨⟨_, .no (c := false) (d := true) rfl (fun v w h => h), fun h w => optUndef h, fun zβ za zw zc => ?_⟩, ?_⟩
   ·exact len_25 rfl ((evt za 30).trans (optVal (zc.dep 3 30 (by kernel_rfl)) rfl rfl)) ⟨_, rfl, Below.refl _ _, optDef zβ rfl⟩
   refine ⟨⟨_, .no (c := false) (d := true) rfl (fun v w h => h), fun h w => optUndef h, fun zβ za zw zc => ?_⟩, ?_⟩
   ·exact gtr_3 rfl ((evt za 31).trans (optVal (zc.dep 4 31 (by kernel_rfl)) rfl rfl)) (zc.kn.ev rfl) ⟨_, rfl, Below.refl _ _, optDef zβ rfl⟩
   refine ⟨⟨true, .none rfl, fun h w => optUndef h, fun zβ za zw zc => ?_⟩, ?_⟩
   ·exact wp_pickF rfl ((evt za 29).trans (optVal (zc.dep 2 29 (by kernel_rfl)) rfl rfl)) ((evt za 32).trans (optVal (zc.dep 5 32 (by kernel_rfl)) rfl rfl)) ⟨_, rfl, Below.refl _ _, optDef zβ rfl⟩
   exact trivial
  ·intro za w12 zh hb13 zu
   have zh := zh.cons (d := 33) (v := .bool ((decide ((40 : Int) < (((l.length : Nat) : Int) : Int))))) (optVal (zu 6 33 (by kernel_rfl)) rfl rfl)
   clear zu
   refine WE.go zh ?_
   refine WE.next ?_
   refine WC.cond rfl (fun h14 => ?_) (fun h14 => ?_)
   ·have h14 : (40 : Int) < (((l.length : Nat) : Int) : Int) := by simpa using h14
    refine WC.seq (WC.region ?_)
    refine WL.call rfl rfl rfl (fun za zh zC => wp_call (by kernel_rfl) rfl (hv0)) (wakes_any _) ?_
    rintro _ w16 ⟨rfl, hq15⟩
    refine WL.asg rfl rfl rfl rfl rfl (WL.nil (WE.next (WC.ret (WE.thenRet (WE.ret1 rfl rfl ?_)))))
    have hb17 : Below w.heap.size w w16 := (bstep (bstep (bstep hb5 hb10) hb13) hq15)
    exact ⟨_, rfl, rfl, hb17⟩
   ·have h14 : ¬ ((40 : Int) < (((l.length : Nat) : Int) : Int)) := by simpa using h14
    refine WC.skip (WE.next (WC.seq (WC.region (WL.asg rfl rfl rfl rfl rfl (WL.nil (WE.next (WC.seq (WC.region (WL.asg rfl rfl rfl rfl rfl (WL.nil (WE.next (WC.seq (WC.seq (WC.region (WL.asg rfl rfl rfl rfl rfl (WL.nil (WE.next (WC.block ?_))))))))))))))))))
    have hr0 : RowD eltN (fun _ => False) w12 3 none 0 0 ([]) := RowD.nil
    have hq0 : RowD eltT (fun b => b < w.heap.size) w12 35 none 0 0 (accs sg (l.take 0)) := RowD.nil
    have hl40 : l.length ≤ 40 := by omega
    refine WC.loop (X := ShSt) (fun x => l.length - x.k) (fun x => [(0, .agg #[.slice sa sg.length sc]), (1, .slice a l.length c), (2, .pointer (some ⟨g2, 0, none⟩)), (5, .pointer (some ⟨gk8, 0, none⟩)), (6, .int .i64 0), (7, .slice x.ra x.m x.rc), (8, .slice x.qa x.m x.qc), (9, .int .i64 (((x.k : Nat) : Int))), (33, .bool ((decide ((40 : Int) < (((l.length : Nat) : Int) : Int)))))]) (fun x w18 => x.k ≤ l.length ∧ ShOk (bank1 sg l x.k) (accs sg (l.take x.k)) x.M ∧ x.m ≤ x.k ∧ x.M.length = x.m ∧ (bank1 sg l x.k).length ≤ x.k * 300 ∧ (∀ b, obk x.ra x.m x.rc = some b → w.heap.size ≤ b) ∧ (∀ b, obk x.qa x.m x.qc = some b → w.heap.size ≤ b) ∧ Below w.heap.size w w18 ∧ Blk w18 g2 24 #[.slice sa sg.length sc] ∧ BkSJ (w18) w1.heap.size gk8 sg (bank1 sg l x.k) (fun b => obk x.ra x.m x.rc = some b ∨ obk x.qa x.m x.qc = some b) ∧ RowD eltN (fun _ => False) (w18) 3 x.ra x.rc x.m x.M ∧ RowD eltT (fun b => b < w.heap.size) (w18) 35 x.qa x.qc x.m (accs sg (l.take x.k))) (⟨0, none, 0, none, 0, 0, []⟩) ⟨rfl, rfl, rfl, rfl, rfl, rfl, rfl, rfl, rfl, trivial⟩ ?_ ?_
    ·have hb19 : Below w.heap.size w w12 := (bstep (bstep hb5 hb10) hb13)
     have hb21 : Below w1.heap.size w1 w12 := (bstep hb10 hb13)
     have hB20 := hB4.below hb21
     have ho22 := hk00.below hb13
     exact ⟨Nat.zero_le _, ShOk.nil, Nat.zero_le _, rfl, Nat.zero_le _, (fun b e => nomatch e), (fun b e => nomatch e), hb19, hB20, ho22, hr0, hq0⟩
    ·rintro x w18 ⟨hk, hsh, hMx, hMm, hbl, hoi, hot, hb23, hB24, ho25, ho26, ho27⟩
     have hMl := hsh.len
     have hMk : x.m ≤ x.k := hMx
     refine WC.seq (WC.seq (WC.region (WL.mv rfl rfl rfl rfl rfl (WL.mv rfl rfl rfl rfl rfl ?_))))
     refine WL.val (.int .i64 (((l.length : Nat) : Int))) rfl rfl rfl (fun za zC zh zk => len_25 rfl (zh.ev rfl) zk) ?_
     refine WL.val (.bool ((decide ((((x.k : Nat) : Int) : Int) < (((l.length : Nat) : Int) : Int))))) rfl rfl rfl (fun za zC zh zk => lss_3 rfl (zh.ev rfl) (zh.ev rfl) zk) ?_
     refine WL.nil (WE.next ?_)
     refine WC.cond rfl (fun h28 => ?_) (fun h28 => ?_)
     ·have h28 : (((x.k : Nat) : Int) : Int) < (((l.length : Nat) : Int) : Int) := by simpa using h28
      refine WC.skip (WE.next (WC.seq (WC.block (WC.seq (WC.region (WL.mv rfl rfl rfl rfl rfl (WL.mv rfl rfl rfl rfl rfl (WL.mv rfl rfl rfl rfl rfl ?_))))))))
      obtain ⟨b29, o30, A31, C32, ha33, hc34⟩ := IsTs.open hl
      refine WL.val _ rfl rfl rfl (fun za zC zh zk => ix_25 (k := x.k) rfl (zh.ev rfl) (ha33 x.k (by first | omega | (simp; omega))) (zh.ev rfl) (by first | omega | (simp; omega)) zk) ?_
      refine WL.val _ rfl rfl rfl (fun za zC zh zk => ld_35 rfl (zh.ev rfl) (bkeeps hb23 _ _ (hc34 x.k (by first | omega | (simp; omega))).1) (bkeeps hb23 _ _ (hc34 x.k (by first | omega | (simp; omega))).2.1) zk) ?_
      have hl35 := hB24.lt
      have hok9 := BkSJ.ok ho25
      have hBs : w1.heap.size ≤ w18.heap.size := Nat.le_trans (BkSJ.hg ho25).1 (Nat.le_of_lt (BkSJ.hg ho25).2)
      have hrl9 := ho26.lt
      have hql9 := ho27.lt
      refine WL.call rfl rfl rfl (fun za zh zC => wp_call (by kernel_rfl) rfl (hv2 (zh.ev rfl) (zh.ev rfl))) (jPut (tget l x.k) _ (fun b => b < w.heap.size) (by omega) (htz _ (by omega)) (fun b q => ⟨.inr (by omega), by omega⟩) (InT.below hb23 (IsT.inT (hc34 x.k (by first | omega | (simp; omega))).2.2)) ho25) ?_
      rintro _ w40 ⟨rfl, Y36, hY37, hc38, hk39⟩
      have hb41 := chg_below hb23 hc38 (fun b q => hY37 b (.inr (by omega)) (by omega))
      have hr42 := RowD.chg ho26 hc38 (fun b q => hY37 b (.inl (.inl q)) (hrl9 b q)) (fun b q => q.elim)
      have hq43 := RowD.chg ho27 hc38 (fun b q => hY37 b (.inl (.inr q)) (hql9 b q)) (fun b q => hY37 b (.inr (by omega)) (by omega))
      have hk44 : BkSJ w40 w1.heap.size gk8 sg (bank1 sg l (x.k + 1)) (fun b => obk x.ra x.m x.rc = some b ∨ obk x.qa x.m x.qc = some b) := by
       have z := hk39
       rw [bank1_succ (by omega)] at z
       exact z.avoid (fun b q => .inl ⟨.inl q, by rcases q with q | q; exact hrl9 b q; exact hql9 b q⟩)
      have hB45 := chg_blk hB24 hc38 (hY37 _ (.inr (by omega)) (by omega))
      refine WL.mv rfl rfl rfl rfl rfl ?_
      refine WL.val (.int .i64 ((bputV sg (bank1 sg l x.k) (tget l x.k)))) rfl rfl rfl (fun za zC zh zk => ext2_0 rfl (zh.ev rfl) zk) ?_
      refine WL.val (.int .i64 ((chkI sg (tget l x.k)))) rfl rfl rfl (fun za zC zh zk => ext2_1 rfl (zh.ev rfl) zk) ?_
      refine WL.asg rfl rfl rfl rfl rfl (WL.asg rfl rfl rfl rfl rfl (WL.nil (WE.next (WC.seq (WC.seq (WC.region (WL.mv rfl rfl rfl rfl rfl ?_)))))))
      refine WL.val (.bool ((((chkI sg (tget l x.k)) : Int) != (0 : Int)))) rfl rfl rfl (fun za zC zh zk => neq_27 rfl (zh.ev rfl) (zh.ev rfl) zk) ?_
      refine WL.nil (WE.next ?_)
      refine WC.cond rfl (fun h46 => ?_) (fun h46 => ?_)
      ·have h46 : ((chkI sg (tget l x.k)) : Int) ≠ (0 : Int) := by simpa using h46
       have hck9 : chkI sg (tget l x.k) ≠ 0 := by simpa using h46
       refine WC.exit (WE.thenExit (WE.blockIs rfl (WE.next (WC.region (WL.mv rfl rfl rfl rfl rfl ?_)))))
       refine WL.val (.int .i64 ((((x.k + 1) : Nat) : Int))) rfl rfl rfl (fun za zC zh zk => addb_3 rfl (zh.ev rfl) (zh.ev rfl) (wrap_eq (by omega) (by omega) (by omega)) zk) ?_
       refine WL.asg rfl rfl rfl rfl rfl (WL.nil ?_)
       refine WE.round (⟨x.k + 1, x.ra, x.rc, x.qa, x.qc, x.m, x.M⟩) ⟨rfl, rfl, rfl, rfl, rfl, rfl, rfl, rfl, rfl, trivial⟩ ?_ ?_
       ·exact ⟨(by (try dsimp only); omega), (hsh.no (by omega) hck9), (by (try dsimp only); omega), hMm, (by (try dsimp only); rw [← bank1_succ (by omega)]; have z := bputI_len (sg := sg) (t := tget l x.k) hok9; omega), hoi, hot, hb41, hB45, hk44, hr42, (by rw [acct_no (by omega) hck9]; exact hq43)⟩
       ·(try dsimp only); omega
      ·have h46 : ¬ (((chkI sg (tget l x.k)) : Int) ≠ (0 : Int)) := by simpa using h46
       have hck9 : chkI sg (tget l x.k) = 0 := by simpa using h46
       refine WC.skip (WE.next (WC.seq (WC.seq (WC.region (WL.asg rfl rfl rfl rfl rfl (WL.nil (WE.next (WC.block ?_))))))))
       refine WC.loop (X := Nat) (fun y => x.m - y) (fun y => [(0, .agg #[.slice sa sg.length sc]), (1, .slice a l.length c), (2, .pointer (some ⟨g2, 0, none⟩)), (5, .pointer (some ⟨gk8, 0, none⟩)), (6, .int .i64 0), (7, .slice x.ra x.m x.rc), (8, .slice x.qa x.m x.qc), (9, .int .i64 (((x.k : Nat) : Int))), (10, .int .i64 ((bputV sg (bank1 sg l x.k) (tget l x.k)))), (11, .int .i64 ((chkI sg (tget l x.k)))), (12, .int .i64 (((y : Nat) : Int))), (33, .bool ((decide ((40 : Int) < (((l.length : Nat) : Int) : Int))))), (38, .bool ((decide ((((x.k : Nat) : Int) : Int) < (((l.length : Nat) : Int) : Int))))), (51, .bool ((((chkI sg (tget l x.k)) : Int) != (0 : Int))))]) (fun y w47 => y ≤ x.m ∧ Below w.heap.size w w47 ∧ Below w40.heap.size w40 w47 ∧ Blk w47 g2 24 #[.slice sa sg.length sc] ∧ BkSJ (w47) w1.heap.size gk8 sg (bank1 sg l (x.k + 1)) (fun b => obk x.ra x.m x.rc = some b ∨ obk x.qa x.m x.qc = some b) ∧ RowD eltN (fun _ => False) (w47) 3 x.ra x.rc x.m x.M ∧ RowD eltT (fun b => b < w.heap.size) (w47) 35 x.qa x.qc x.m (accs sg (l.take x.k))) 0 ⟨rfl, rfl, rfl, rfl, rfl, rfl, rfl, rfl, rfl, rfl, rfl, rfl, rfl, rfl, trivial⟩ ?_ ?_
       ·exact ⟨Nat.zero_le _, hb41, (Below.refl _ _), hB45, hk44, hr42, hq43⟩
       ·rintro y w47 ⟨hky, hb48, hb49, hB50, ho51, ho52, ho53⟩
        refine WC.seq (WC.seq (WC.region (WL.mv rfl rfl rfl rfl rfl (WL.mv rfl rfl rfl rfl rfl ?_))))
        refine WL.val (.int .i64 (((x.m : Nat) : Int))) rfl rfl rfl (fun za zC zh zk => len_31 rfl (zh.ev rfl) zk) ?_
        refine WL.val (.bool ((decide ((((y : Nat) : Int) : Int) < (((x.m : Nat) : Int) : Int))))) rfl rfl rfl (fun za zC zh zk => lss_3 rfl (zh.ev rfl) (zh.ev rfl) zk) ?_
        refine WL.nil (WE.next ?_)
        refine WC.cond rfl (fun h54 => ?_) (fun h54 => ?_)
        ·have h54 : (((y : Nat) : Int) : Int) < (((x.m : Nat) : Int) : Int) := by simpa using h54
         refine WC.skip (WE.next (WC.seq (WC.block (WC.seq ?_))))
         obtain ⟨b55, o56, ha57, hS58, hc59⟩ := InRow.openNS (RowD.inRowOwn ho52)
         have hts60 := InTs.isTs (InRow.ts (RowD.inRow ho53).1)
         obtain ⟨b61, o62, A63, C64, ha65, hc66⟩ := IsTs.open hts60
         refine WC.opt [(true, .val (.slice x.ra x.m x.rc)), (true, .val (.int .i64 (((y : Nat) : Int)))), (true, .val (.pointer (some ⟨b55, o56 + y, none⟩))), (true, .val (.int .i64 ((((aget x.M y) : Nat) : Int)))), (true, .val (.int .i64 ((bputV sg (bank1 sg l x.k) (tget l x.k))))), (true, .val (.bool ((((((aget x.M y) : Nat) : Int) : Int) == ((bputV sg (bank1 sg l x.k) (tget l x.k)) : Int))))), (true, .val (.slice x.qa x.m x.qc)), (true, .val (.int .i64 (((y : Nat) : Int)))), (true, .val (.pointer (some ⟨b61, o62 + y * 2, none⟩))), (true, .val (.agg #[.int .i64 ((tget ((accs sg (l.take x.k))) y).f), .slice ((A63 y)) ((tget ((accs sg (l.take x.k))) y).args.length) ((C64 y))])), (true, .val (.slice a l.length c)), (true, .val (.int .i64 (((x.k : Nat) : Int)))), (true, .val (.pointer (some ⟨b29, o30 + x.k * 2, none⟩))), (true, .val (.agg #[.int .i64 ((tget l x.k).f), .slice ((A31 x.k)) ((tget l x.k).args.length) ((C32 x.k))])), (true, .val (.bool ((T.same ((tget ((accs sg (l.take x.k))) y)) ((tget l x.k)))))), (true, .val (.bool (((((((aget x.M y) : Nat) : Int) : Int) == ((bputV sg (bank1 sg l x.k) (tget l x.k)) : Int)) != (T.same ((tget ((accs sg (l.take x.k))) y)) ((tget l x.k)))))))] [(0, .agg #[.slice sa sg.length sc]), (1, .slice a l.length c), (2, .pointer (some ⟨g2, 0, none⟩)), (5, .pointer (some ⟨gk8, 0, none⟩)), (6, .int .i64 0), (7, .slice x.ra x.m x.rc), (8, .slice x.qa x.m x.qc), (9, .int .i64 (((x.k : Nat) : Int))), (10, .int .i64 ((bputV sg (bank1 sg l x.k) (tget l x.k)))), (11, .int .i64 ((chkI sg (tget l x.k)))), (12, .int .i64 (((y : Nat) : Int))), (33, .bool ((decide ((40 : Int) < (((l.length : Nat) : Int) : Int))))), (38, .bool ((decide ((((x.k : Nat) : Int) : Int) < (((l.length : Nat) : Int) : Int))))), (51, .bool ((((chkI sg (tget l x.k)) : Int) != (0 : Int)))), (55, .bool ((decide ((((y : Nat) : Int) : Int) < (((x.m : Nat) : Int) : Int)))))] ⟨rfl, rfl, rfl, rfl, rfl, rfl, rfl, rfl, rfl, rfl, rfl, rfl, rfl, rfl, rfl, trivial⟩ (by kernel_rfl) (by kernel_rfl) (by kernel_rfl) ?_ ?_
         ·refine ⟨⟨true, .none rfl, fun h w => optUndef h, fun zβ za zw zc => ?_⟩, ?_⟩
          ·exact wp_move rfl (zc.kn.ev rfl) ⟨_, rfl, Below.refl _ _, optDef zβ rfl⟩
          refine ⟨⟨true, .none rfl, fun h w => optUndef h, fun zβ za zw zc => ?_⟩, ?_⟩
          ·exact wp_move rfl (zc.kn.ev rfl) ⟨_, rfl, Below.refl _ _, optDef zβ rfl⟩
          refine ⟨⟨true, .none rfl, fun h w => optUndef h, fun zβ za zw zc => ?_⟩, ?_⟩
          ·exact ix_31 (k := y) rfl ((evt za 58).trans (optVal (zc.dep 0 58 (by kernel_rfl)) rfl rfl)) (ha57 y (by first | omega | (simp; omega))) ((evt za 59).trans (optVal (zc.dep 1 59 (by kernel_rfl)) rfl rfl)) (by first | omega | (simp; omega)) ⟨_, rfl, Below.refl _ _, optDef zβ rfl⟩
          refine ⟨⟨true, .none rfl, fun h w => optUndef h, fun zβ za zw zc => ?_⟩, ?_⟩
          ·exact ld_3 rfl ((evt za 60).trans (optVal (zc.dep 2 60 (by kernel_rfl)) rfl rfl)) (bkeeps zc.below _ _ (hc59 y (by first | omega | (simp; omega)))) ⟨_, rfl, Below.refl _ _, optDef zβ rfl⟩
          refine ⟨⟨true, .none rfl, fun h w => optUndef h, fun zβ za zw zc => ?_⟩, ?_⟩
          ·exact wp_move rfl (zc.kn.ev rfl) ⟨_, rfl, Below.refl _ _, optDef zβ rfl⟩
          refine ⟨⟨true, .none rfl, fun h w => optUndef h, fun zβ za zw zc => ?_⟩, ?_⟩
          ·exact eql_3 rfl ((evt za 61).trans (optVal (zc.dep 3 61 (by kernel_rfl)) rfl rfl)) ((evt za 62).trans (optVal (zc.dep 4 62 (by kernel_rfl)) rfl rfl)) ⟨_, rfl, Below.refl _ _, optDef zβ rfl⟩
          refine ⟨⟨true, .none rfl, fun h w => optUndef h, fun zβ za zw zc => ?_⟩, ?_⟩
          ·exact wp_move rfl (zc.kn.ev rfl) ⟨_, rfl, Below.refl _ _, optDef zβ rfl⟩
          refine ⟨⟨true, .none rfl, fun h w => optUndef h, fun zβ za zw zc => ?_⟩, ?_⟩
          ·exact wp_move rfl (zc.kn.ev rfl) ⟨_, rfl, Below.refl _ _, optDef zβ rfl⟩
          refine ⟨⟨true, .none rfl, fun h w => optUndef h, fun zβ za zw zc => ?_⟩, ?_⟩
          ·exact ix_25 (k := y) rfl ((evt za 64).trans (optVal (zc.dep 6 64 (by kernel_rfl)) rfl rfl)) (ha65 y (by first | omega | (simp; omega))) ((evt za 65).trans (optVal (zc.dep 7 65 (by kernel_rfl)) rfl rfl)) (by first | omega | (simp; omega)) ⟨_, rfl, Below.refl _ _, optDef zβ rfl⟩
          refine ⟨⟨true, .none rfl, fun h w => optUndef h, fun zβ za zw zc => ?_⟩, ?_⟩
          ·exact ld_35 rfl ((evt za 66).trans (optVal (zc.dep 8 66 (by kernel_rfl)) rfl rfl)) (bkeeps zc.below _ _ (hc66 y (by first | omega | (simp; omega))).1) (bkeeps zc.below _ _ (hc66 y (by first | omega | (simp; omega))).2.1) ⟨_, rfl, Below.refl _ _, optDef zβ rfl⟩
          refine ⟨⟨true, .none rfl, fun h w => optUndef h, fun zβ za zw zc => ?_⟩, ?_⟩
          ·exact wp_move rfl (zc.kn.ev rfl) ⟨_, rfl, Below.refl _ _, optDef zβ rfl⟩
          refine ⟨⟨true, .none rfl, fun h w => optUndef h, fun zβ za zw zc => ?_⟩, ?_⟩
          ·exact wp_move rfl (zc.kn.ev rfl) ⟨_, rfl, Below.refl _ _, optDef zβ rfl⟩
          refine ⟨⟨true, .none rfl, fun h w => optUndef h, fun zβ za zw zc => ?_⟩, ?_⟩
          ·exact ix_25 (k := x.k) rfl ((evt za 68).trans (optVal (zc.dep 10 68 (by kernel_rfl)) rfl rfl)) (ha33 x.k (by first | omega | (simp; omega))) ((evt za 69).trans (optVal (zc.dep 11 69 (by kernel_rfl)) rfl rfl)) (by first | omega | (simp; omega)) ⟨_, rfl, Below.refl _ _, optDef zβ rfl⟩
          refine ⟨⟨true, .none rfl, fun h w => optUndef h, fun zβ za zw zc => ?_⟩, ?_⟩
          ·exact ld_35 rfl ((evt za 70).trans (optVal (zc.dep 12 70 (by kernel_rfl)) rfl rfl)) (bkeeps (bstep hb48 zc.below) _ _ (hc34 x.k (by first | omega | (simp; omega))).1) (bkeeps (bstep hb48 zc.below) _ _ (hc34 x.k (by first | omega | (simp; omega))).2.1) ⟨_, rfl, Below.refl _ _, optDef zβ rfl⟩
          refine ⟨⟨true, .none rfl, fun h w => optUndef h, fun zβ za zw zc => ?_⟩, ?_⟩
          ·exact wp_call (by kernel_rfl) rfl (hv2 ((evt za 67).trans (optVal (zc.dep 9 67 (by kernel_rfl)) rfl rfl)) ((evt za 71).trans (optVal (zc.dep 13 71 (by kernel_rfl)) rfl rfl))) (ret_of (rsame_any _ _ _ _ _ (IsT.below zc.below (hc66 y (by first | omega | (simp; omega))).2.2) (IsT.below (bstep hb48 zc.below) (hc34 x.k (by first | omega | (simp; omega))).2.2))) (fun v w' h => ⟨v, rfl, h.2, optDef zβ h.1⟩)
          refine ⟨⟨true, .none rfl, fun h w => optUndef h, fun zβ za zw zc => ?_⟩, ?_⟩
          ·exact neq_4 rfl ((evt za 63).trans (optVal (zc.dep 5 63 (by kernel_rfl)) rfl rfl)) ((evt za 72).trans (optVal (zc.dep 14 72 (by kernel_rfl)) rfl rfl)) ⟨_, rfl, Below.refl _ _, optDef zβ rfl⟩
          exact trivial
         ·intro za w67 zh hb68 zu
          have zh := zh.cons (d := 73) (v := .bool (((((((aget x.M y) : Nat) : Int) : Int) == ((bputV sg (bank1 sg l x.k) (tget l x.k)) : Int)) != (T.same ((tget ((accs sg (l.take x.k))) y)) ((tget l x.k)))))) (optVal (zu 15 73 (by kernel_rfl)) rfl rfl)
          clear zu
          refine WE.go zh ?_
          refine WE.next ?_
          refine WC.condF rfl ((ShOk.cond hsh hok9.ok (by omega) hck9)) ?_
          refine WC.skip (WE.blockNormal (WE.next (WC.region (WL.mv rfl rfl rfl rfl rfl ?_))))
          refine WL.val (.int .i64 ((((y + 1) : Nat) : Int))) rfl rfl rfl (fun za zC zh zk => addb_3 rfl (zh.ev rfl) (zh.ev rfl) (wrap_eq (by omega) (by omega) (by omega)) zk) ?_
          refine WL.asg rfl rfl rfl rfl rfl (WL.nil ?_)
          refine WE.round (y + 1) ⟨rfl, rfl, rfl, rfl, rfl, rfl, rfl, rfl, rfl, rfl, rfl, rfl, rfl, rfl, trivial⟩ ?_ ?_
          ·have hb69 : Below w.heap.size w w67 := (bstep hb48 hb68)
           have hb70 : Below w40.heap.size w40 w67 := (bstep hb49 hb68)
           have hB71 := hB50.below hb68
           have ho72 := ho51.below hb68
           have ho73 := ho52.below hb68
           have ho74 := ho53.below hb68
           exact ⟨by omega, hb69, hb70, hB71, ho72, ho73, ho74⟩
          ·omega
        ·have h54 : ¬ ((((y : Nat) : Int) : Int) < (((x.m : Nat) : Int) : Int)) := by simpa using h54
         refine WC.exit (WE.thenExit (WE.thenExit (WE.blockIs rfl (WE.next (WC.seq (WC.region (WL.mv rfl rfl rfl rfl rfl (WL.mv rfl rfl rfl rfl rfl ?_))))))))
         refine WL.step (post := NewRow w47 3 #[.int .i64 ((bputV sg (bank1 sg l x.k) (tget l x.k)))] 1) rfl rfl rfl (fun za zC zh zk => row_31_1 rfl (zh.ev rfl) (zk _ _ (newRow _ _ _ _))) ?_
         rintro _ w75 ⟨g76, rfl, hg77, hB78, hb79, hz80⟩
         have hl81 : g2 < g76 := by have z1 := hB50.lt; omega
         have hl82 : w.heap.size ≤ g76 := by have z2 := (hb48).size; omega
         have hl83 : w40.heap.size ≤ g76 := by have z2 := (hb49).size; omega
         have hl84 : w47.heap.size ≤ g76 := by omega
         have ho85 := ho51.below hb79
         have ho86 := ho52.below hb79
         have ho87 := ho53.below hb79
         have hb88 : Below w.heap.size w w75 := (bstep hb48 hb79)
         have hws9 : w.heap.size ≤ w75.heap.size := hb88.size
         have hB1n : Blk w75 g76 3 #[.int .i64 ((((tget l x.k).bput (bank1 sg l x.k)).2 : Nat) : Int)] := by have z := hB78; rw [bputV_yes hck9] at z; exact z
         refine WL.step (post := fun v w' => ∃ ra2 rc2, v = .slice ra2 (x.m + 1) rc2 ∧ RowD eltN (fun _ => False) w' 3 ra2 rc2 ((x.m + 1)) ((x.M ++ [((tget l x.k).bput (bank1 sg l x.k)).2])) ∧ Chg (fun b => obk x.ra x.m x.rc = some b) w75 w' ∧ ∀ b, obk ra2 ((x.m + 1)) rc2 = some b → obk x.ra x.m x.rc = some b ∨ w75.heap.size ≤ b) rfl rfl rfl (fun za zC zh zk => wp_appD (E := eltN) (S2 := fun _ => False) (y := ((tget l x.k).bput (bank1 sg l x.k)).2) (size := 1) (bytes := 8) (z := .int .i64 0) rfl Try.underlying31 (by kernel_rfl) rfl (by decide) rfl (zh.ev rfl) (zh.ev rfl) ho86 hB1n (rfl) (fun b q => q.elim) (by omega) (by omega) (fun ra rc w' h1 h2 h3 => zk _ _ ⟨ra, rc, rfl, h1.mono (fun b q _ => by rcases q.1 with q | q <;> exact q) (fun b q e => by first | exact q.elim | (rcases h3 b e with z | z; (have z2 := hoi b z; omega); omega)), h2, h3⟩)) ?_
         rintro _ w89 ⟨ra90, rc91, rfl, hr92, hc93, ho94⟩
         have hk96 : BkSJ w89 w1.heap.size gk8 sg (bank1 sg l (x.k + 1)) (fun b => obk ra90 ((x.m + 1)) rc91 = some b ∨ obk x.qa x.m x.qc = some b) := (BkSJ.chg (X := (fun b => (obk ra90 ((x.m + 1)) rc91 = some b ∨ obk x.qa x.m x.qc = some b) ∨ obk x.ra x.m x.rc = some b)) (BkSJ.avoid ho85 (fun b q => by rcases q with (q | q) | q; (rcases ho94 b q with z | z; exact .inl (.inl z); exact .inr (.inl z)); exact .inl (.inr q); exact .inl (.inl q))) hc93 (fun b q => .inr q)).avoid (fun b q => .inl (.inl q))
         have ho97 := RowD.chg ho87 hc93 (fun b q k => by obtain ⟨cs, hB⟩ := RowD.blkU ho86 b k; exact RowD.neBlk ho87 hB (by decide) q) (fun b q k => by have z := hoi b k; omega)
         have hob98 : ∀ b, obk ra90 ((x.m + 1)) rc91 = some b → w.heap.size ≤ b := fun b e => by rcases ho94 b e with z | z; exact hoi b z; omega
         have hB99 := hB50.below hb79
         have hb95 := chg_below hb88 hc93 (fun b hb e => by have z := hoi b e; omega)
         have hB100 := chg_blk hB99 hc93 (fun e => by have z := RowD.neBlk ho86 hB99 (by decide); exact z e)
         refine WL.asg rfl rfl rfl rfl rfl (WL.nil (WE.next (WC.region (WL.mv rfl rfl rfl rfl rfl (WL.mv rfl rfl rfl rfl rfl (WL.mv rfl rfl rfl rfl rfl ?_))))))
         refine WL.val _ rfl rfl rfl (fun za zC zh zk => ix_25 (k := x.k) rfl (zh.ev rfl) (ha33 x.k (by first | omega | (simp; omega))) (zh.ev rfl) (by first | omega | (simp; omega)) zk) ?_
         refine WL.val _ rfl rfl rfl (fun za zC zh zk => ld_35 rfl (zh.ev rfl) (bkeeps hb95 _ _ (hc34 x.k (by first | omega | (simp; omega))).1) (bkeeps hb95 _ _ (hc34 x.k (by first | omega | (simp; omega))).2.1) zk) ?_
         refine WL.step (post := NewRow w89 35 #[.int .i64 ((tget l x.k).f), .slice ((A31 x.k)) ((tget l x.k).args.length) ((C32 x.k))] 1) rfl rfl rfl (fun za zC zh zk => row_25_1 rfl (zh.ev rfl) (zk _ _ (newRow _ _ _ _))) ?_
         rintro _ w101 ⟨g102, rfl, hg103, hB104, hb105, hz106⟩
         have hl107 : g2 < g102 := by have z1 := hB100.lt; omega
         have hl108 : w.heap.size ≤ g102 := by have z2 := (hb95).size; omega
         have hl109 : w89.heap.size ≤ g102 := by omega
         have ho110 := hk96.below hb105
         have ho111 := hr92.below hb105
         have ho112 := ho97.below hb105
         have hb113 : Below w.heap.size w w101 := (bstep hb95 hb105)
         have hws9 : w.heap.size ≤ w101.heap.size := hb113.size
         refine WL.step (post := fun v w' => ∃ ra2 rc2, v = .slice ra2 (x.m + 1) rc2 ∧ RowD eltT (fun b => b < w.heap.size) w' 35 ra2 rc2 ((x.m + 1)) ((accs sg (l.take x.k) ++ [tget l x.k])) ∧ Chg (fun b => obk x.qa x.m x.qc = some b) w101 w' ∧ ∀ b, obk ra2 ((x.m + 1)) rc2 = some b → obk x.qa x.m x.qc = some b ∨ w101.heap.size ≤ b) rfl rfl rfl (fun za zC zh zk => wp_appD (E := eltT) (S2 := fun b => b < w.heap.size) (y := (tget l x.k)) (size := 2) (bytes := 32) (z := .agg #[.int .i64 0, .slice none 0 0]) rfl Try.underlying25 (by kernel_rfl) rfl (by decide) rfl (zh.ev rfl) (zh.ev rfl) ho112 hB104 (⟨_, _, rfl, InT.below hb113 (IsT.inT (hc34 x.k (by first | omega | (simp; omega))).2.2)⟩) (fun b q e => by have z := hot b e; omega) (by omega) (by omega) (fun ra rc w' h1 h2 h3 => zk _ _ ⟨ra, rc, rfl, h1.mono (fun b q _ => by rcases q.1 with q | q <;> exact q) (fun b q e => by first | exact q.elim | (rcases h3 b e with z | z; (have z2 := hot b z; omega); omega)), h2, h3⟩)) ?_
         rintro _ w114 ⟨ra115, rc116, rfl, hr117, hc118, ho119⟩
         have hk121 : BkSJ w114 w1.heap.size gk8 sg (bank1 sg l (x.k + 1)) (fun b => obk ra90 ((x.m + 1)) rc91 = some b ∨ obk ra115 ((x.m + 1)) rc116 = some b) := (BkSJ.chg (X := (fun b => (obk ra90 ((x.m + 1)) rc91 = some b ∨ obk ra115 ((x.m + 1)) rc116 = some b) ∨ obk x.qa x.m x.qc = some b)) (BkSJ.avoid ho110 (fun b q => by rcases q with (q | q) | q; exact .inl (.inl q); (rcases ho119 b q with z | z; exact .inl (.inr z); exact .inr (.inl z)); exact .inl (.inr q))) hc118 (fun b q => .inr q)).avoid (fun b q => .inl (.inl q))
         have ho122 := RowD.chg ho111 hc118 (fun b q k => by obtain ⟨cs, hB⟩ := RowD.blkU ho111 b q; exact RowD.neBlk ho112 hB (by decide) k) (fun b q => q.elim)
         have hob123 : ∀ b, obk ra115 ((x.m + 1)) rc116 = some b → w.heap.size ≤ b := fun b e => by rcases ho119 b e with z | z; exact hot b z; omega
         have hB124 := hB100.below hb105
         have hb120 := chg_below hb113 hc118 (fun b hb e => by have z := hot b e; omega)
         have hB125 := chg_blk hB124 hc118 (fun e => by have z := RowD.neBlk ho112 hB124 (by decide); exact z e)
         refine WL.asg rfl rfl rfl rfl rfl (WL.nil (WE.blockNormal (WE.next (WC.region (WL.mv rfl rfl rfl rfl rfl ?_)))))
         refine WL.val (.int .i64 ((((x.k + 1) : Nat) : Int))) rfl rfl rfl (fun za zC zh zk => addb_3 rfl (zh.ev rfl) (zh.ev rfl) (wrap_eq (by omega) (by omega) (by omega)) zk) ?_
         refine WL.asg rfl rfl rfl rfl rfl (WL.nil ?_)
         refine WE.round (⟨x.k + 1, ra90, rc91, ra115, rc116, x.m + 1, (x.M ++ [((tget l x.k).bput (bank1 sg l x.k)).2])⟩) ⟨rfl, rfl, rfl, rfl, rfl, rfl, rfl, rfl, rfl, trivial⟩ ?_ ?_
         ·exact ⟨(by (try dsimp only); omega), (hsh.yes hok9 (by omega) hck9), (by (try dsimp only); omega), (by simp; omega), (by (try dsimp only); rw [← bank1_succ (by omega)]; have z := bputI_len (sg := sg) (t := tget l x.k) hok9; omega), hob98, hob123, hb120, hB125, hk121, ho122, (by rw [acct_yes (by omega) hck9]; exact hr117)⟩
         ·(try dsimp only); omega
     ·have h28 : ¬ ((((x.k : Nat) : Int) : Int) < (((l.length : Nat) : Int) : Int)) := by simpa using h28
      refine WC.exit (WE.thenExit (WE.thenExit (WE.blockIs rfl (WE.next (WC.seq (WC.seq (WC.region (WL.asg rfl rfl rfl rfl rfl (WL.nil (WE.next (WC.block ?_)))))))))))
      have hxl : x.k = l.length := by omega
      have hk126 : BkSJ w18 w1.heap.size gk8 sg (bank1 sg l l.length) (fun b => obk x.ra x.m x.rc = some b ∨ obk x.qa x.m x.qc = some b) := by have z := ho25; rw [hxl] at z; exact z
      have hq128 : RowD eltT (fun b => b < w.heap.size) w18 35 x.qa x.qc x.m (accs sg l) := by have z := ho27; rw [hxl, List.take_length] at z; exact z
      rw [hxl, List.take_length] at hsh
      rw [hxl] at hbl
      have hal7 : (accs sg l).length = x.m := by have z := hsh.len; omega
      have hok8 := BkSJ.ok hk126
      refine WC.loop (X := Nat) (fun z => x.m - z) (fun z => [(0, .agg #[.slice sa sg.length sc]), (1, .slice a l.length c), (2, .pointer (some ⟨g2, 0, none⟩)), (5, .pointer (some ⟨gk8, 0, none⟩)), (6, .int .i64 0), (7, .slice x.ra x.m x.rc), (8, .slice x.qa x.m x.qc), (9, .int .i64 (((x.k : Nat) : Int))), (13, .int .i64 (((z : Nat) : Int))), (33, .bool ((decide ((40 : Int) < (((l.length : Nat) : Int) : Int))))), (38, .bool ((decide ((((x.k : Nat) : Int) : Int) < (((l.length : Nat) : Int) : Int)))))]) (fun z w129 => z ≤ x.m ∧ Below w.heap.size w w129 ∧ Below w18.heap.size w18 w129 ∧ Blk w129 g2 24 #[.slice sa sg.length sc] ∧ BkSJ (w129) w1.heap.size gk8 sg (bank1 sg l l.length) (fun b => obk x.ra x.m x.rc = some b ∨ obk x.qa x.m x.qc = some b) ∧ RowD eltN (fun _ => False) (w129) 3 x.ra x.rc x.m x.M ∧ RowD eltT (fun b => b < w.heap.size) (w129) 35 x.qa x.qc x.m (accs sg l)) 0 ⟨rfl, rfl, rfl, rfl, rfl, rfl, rfl, rfl, rfl, rfl, rfl, trivial⟩ ?_ ?_
      ·exact ⟨Nat.zero_le _, hb23, (Below.refl _ _), hB24, hk126, ho26, hq128⟩
      ·rintro z w129 ⟨hkz, hb130, hb131, hB132, ho133, ho134, ho135⟩
       refine WC.seq (WC.seq (WC.region (WL.mv rfl rfl rfl rfl rfl (WL.mv rfl rfl rfl rfl rfl ?_))))
       refine WL.val (.int .i64 (((x.m : Nat) : Int))) rfl rfl rfl (fun za zC zh zk => len_31 rfl (zh.ev rfl) zk) ?_
       refine WL.val (.bool ((decide ((((z : Nat) : Int) : Int) < (((x.m : Nat) : Int) : Int))))) rfl rfl rfl (fun za zC zh zk => lss_3 rfl (zh.ev rfl) (zh.ev rfl) zk) ?_
       refine WL.nil (WE.next ?_)
       refine WC.cond rfl (fun h136 => ?_) (fun h136 => ?_)
       ·have h136 : (((z : Nat) : Int) : Int) < (((x.m : Nat) : Int) : Int) := by simpa using h136
        refine WC.skip (WE.next (WC.seq (WC.block (WC.seq (WC.region (WL.mv rfl rfl rfl rfl rfl (WL.mv rfl rfl rfl rfl rfl (WL.mv rfl rfl rfl rfl rfl ?_))))))))
        obtain ⟨b137, o138, ha139, hS140, hc141⟩ := InRow.openNS (RowD.inRowOwn ho134)
        refine WL.val _ rfl rfl rfl (fun za zC zh zk => ix_31 (k := z) rfl (zh.ev rfl) (ha139 z (by first | omega | (simp; omega))) (zh.ev rfl) (by first | omega | (simp; omega)) zk) ?_
        refine WL.val _ rfl rfl rfl (fun za zC zh zk => ld_3 rfl (zh.ev rfl) (hc141 z (by first | omega | (simp; omega))) zk) ?_
        have hid9 := hsh.lt z (by omega)
        have htm9 := hsh.tm z (by omega)
        have hsz9 := (hok8.at_ hid9).1
        have hal9 := tm_argl hok8.ok hid9
        have hag9 := args_le (tmE (bank1 sg l l.length) (aget x.M z))
        rw [hal9.1] at hag9
        have hl145 : g2 < w129.heap.size := by have z1 := hB132.lt; omega
        have hl146 : w.heap.size ≤ w129.heap.size := (hb130).size
        have hl147 : w18.heap.size ≤ w129.heap.size := (hb131).size
        refine WL.call rfl rfl rfl (fun za zh zC => wp_call (by kernel_rfl) rfl (hv2 (zh.ev rfl) (zh.ev rfl))) (jGet (aget x.M z) (by omega) (by omega) (BkSJ.below ho133 (Below.refl _ _))) ?_
        rintro _ w148 ⟨⟨u142, rfl, hn143⟩, hb144⟩
        obtain ⟨_, a149, c150, rfl, _, _, _⟩ := hn143.form
        refine WL.mv rfl rfl rfl rfl rfl ?_
        refine WL.val (.agg #[.int .i64 (((tmE (bank1 sg l l.length) (aget x.M z))).f), .slice a149 (((tmE (bank1 sg l l.length) (aget x.M z))).args.length) c150]) rfl rfl rfl (fun za zC zh zk => ext2_0 rfl (zh.ev rfl) zk) ?_
        refine WL.val (.int .i64 0) rfl rfl rfl (fun za zC zh zk => ext2_1 rfl (zh.ev rfl) zk) ?_
        refine WL.step (post := NewBlk w148 35 #[.int .i64 0, .slice none 0 0]) rfl rfl rfl (fun za zC zh zk => alloc_35 rfl (zk _ _ (newBlk _ _ _))) ?_
        rintro _ w151 ⟨g152, rfl, hg153, hB154, hb155, hz156⟩
        have hl157 : g2 < g152 := by have z1 := hB132.lt; have z2 := (hb144).size; omega
        have hb158 : Below w.heap.size w w148 := (bstep hb130 hb144)
        have hl159 : w.heap.size ≤ g152 := by have z2 := (hb158).size; omega
        have hb160 : Below w18.heap.size w18 w148 := (bstep hb131 hb144)
        have hl161 : w18.heap.size ≤ g152 := by have z2 := (hb160).size; omega
        have hl162 : w129.heap.size ≤ g152 := by have z2 := (hb144).size; omega
        have hl163 : w148.heap.size ≤ g152 := by omega
        refine WL.step (post := fun _ w' => Upd g152 w151 w' ∧ Blk w' g152 35 #[.int .i64 (((tmE (bank1 sg l l.length) (aget x.M z))).f), .slice a149 (((tmE (bank1 sg l l.length) (aget x.M z))).args.length) c150]) rfl rfl rfl (fun za zC zh zk => st_35 rfl (zh.ev rfl) (zh.ev rfl) rfl rfl hB154 (by first | decide | simp) (fun v => zk v _ ⟨(Upd.at_ _ _ _ _).trans (Upd.at_ _ _ _ _), (hB154.set_ 0 _).set_ 1 _⟩)) ?_
        rintro v167 w164 ⟨hu165, hB166⟩
        have hb168 : Below w.heap.size w w151 := (bstep hb158 hb155)
        have hb169 : Below w18.heap.size w18 w151 := (bstep hb160 hb155)
        have hb170 : Below w129.heap.size w129 w151 := (bstep hb144 hb155)
        have hb171 := upd_below hb168 hu165 (by omega)
        have hb172 := upd_below hb169 hu165 (by omega)
        have hb173 := upd_below hb170 hu165 (by omega)
        have hb174 := upd_below hb155 hu165 (by omega)
        have hB175 := hB132.below hb170
        have hB176 := upd_blk hB175 hu165 (by omega)
        refine WL.asg rfl rfl rfl rfl rfl (WL.nil (WE.next (WC.seq (WC.region (WL.mv rfl rfl rfl rfl rfl (WL.mv rfl rfl rfl rfl rfl (WL.mv rfl rfl rfl rfl rfl ?_)))))))
        have ho178 := ho135.below hb173
        have hts177 := InTs.isTs (InRow.ts (RowD.inRow ho178).1)
        obtain ⟨b179, o180, A181, C182, ha183, hc184⟩ := IsTs.open hts177
        refine WL.val _ rfl rfl rfl (fun za zC zh zk => ix_25 (k := z) rfl (zh.ev rfl) (ha183 z (by first | omega | (simp; omega))) (zh.ev rfl) (by first | omega | (simp; omega)) zk) ?_
        refine WL.val _ rfl rfl rfl (fun za zC zh zk => ld_35 rfl (zh.ev rfl) (hc184 z (by first | omega | (simp; omega))).1 (hc184 z (by first | omega | (simp; omega))).2.1 zk) ?_
        have hfd9 := bfind_gets (bfind_tm hok8.ok hid9 htm9)
        have hsz8 : (tget (accs sg l) z).size ≤ 300 := by rw [← htm9]; exact hsz9
        refine WL.call rfl rfl rfl (fun za zh zC => wp_call (by kernel_rfl) rfl (hv2 (zh.ev rfl) (zh.ev rfl))) ((by have z8 := jFind (tget (accs sg l) z) _ (by omega) (by omega) (IsT.below (Below.refl _ _) (hc184 z (by first | omega | (simp; omega))).2.2) (BkSJ.below ho133 hb173); rw [hfd9.1, hfd9.2] at z8; exact z8)) ?_
        rintro _ w186 ⟨rfl, hq185⟩
        refine WL.mv rfl rfl rfl rfl rfl ?_
        refine WL.val (.int .i64 ((((aget x.M z) : Nat) : Int))) rfl rfl rfl (fun za zC zh zk => ext2_0 rfl (zh.ev rfl) zk) ?_
        refine WL.val (.bool true) rfl rfl rfl (fun za zC zh zk => ext2_1 rfl (zh.ev rfl) zk) ?_
        refine WL.asg rfl rfl rfl rfl rfl (WL.asg rfl rfl rfl rfl rfl ?_)
        refine WL.nil (WE.sub (K' := [(0, .agg #[.slice sa sg.length sc]), (1, .slice a l.length c), (2, .pointer (some ⟨g2, 0, none⟩)), (5, .pointer (some ⟨gk8, 0, none⟩)), (6, .int .i64 0), (7, .slice x.ra x.m x.rc), (8, .slice x.qa x.m x.qc), (9, .int .i64 (((x.k : Nat) : Int))), (13, .int .i64 (((z : Nat) : Int))), (14, .pointer (some ⟨g152, 0, none⟩)), (15, .int .i64 0), (16, .int .i64 ((((aget x.M z) : Nat) : Int))), (17, .bool true), (33, .bool ((decide ((40 : Int) < (((l.length : Nat) : Int) : Int))))), (38, .bool ((decide ((((x.k : Nat) : Int) : Int) < (((l.length : Nat) : Int) : Int))))), (88, .bool ((decide ((((z : Nat) : Int) : Int) < (((x.m : Nat) : Int) : Int)))))]) ⟨rfl, rfl, rfl, rfl, rfl, rfl, rfl, rfl, rfl, rfl, rfl, rfl, rfl, rfl, rfl, rfl, trivial⟩ ?_)
        refine WE.next (WC.seq (WC.seq ?_))
        have hB187 := hB166.below hq185
        have ho189 := ho178.below hq185
        have hts188 := InTs.isTs (InRow.ts (RowD.inRow ho189).1)
        obtain ⟨b190, o191, A192, C193, ha194, hc195⟩ := IsTs.open hts188
        have hb197 : Below w148.heap.size w148 w186 := (bstep hb174 hq185)
        have ho196 := hn143.below hb197
        have hb204 : Below w129.heap.size w129 w186 := (bstep hb144 hb197)
        have ho203 := ho134.below hb204
        obtain ⟨b198, o199, ha200, hS201, hc202⟩ := InRow.openNS (RowD.inRowOwn ho203)
        refine WC.opt [(true, .val (.int .i64 0)), (true, .val (.bool false)), (true, .val (.bool false)), ((true && !false), .val (.agg #[.int .i64 (((tmE (bank1 sg l l.length) (aget x.M z))).f), .slice a149 (((tmE (bank1 sg l l.length) (aget x.M z))).args.length) c150])), ((true && !false), .val (.slice x.qa x.m x.qc)), ((true && !false), .val (.int .i64 (((z : Nat) : Int)))), ((true && !false), .val (.pointer (some ⟨b190, o191 + z * 2, none⟩))), ((true && !false), .val (.agg #[.int .i64 ((tget ((accs sg l)) z).f), .slice ((A192 z)) ((tget ((accs sg l)) z).args.length) ((C193 z))])), ((true && !false), .val (.bool ((T.same ((tmE (bank1 sg l l.length) (aget x.M z))) ((tget ((accs sg l)) z)))))), ((true && !false), .val (.bool ((!(T.same ((tmE (bank1 sg l l.length) (aget x.M z))) ((tget ((accs sg l)) z))))))), (true, .val (.bool ((!(T.same ((tmE (bank1 sg l l.length) (aget x.M z))) ((tget ((accs sg l)) z))))))), (true, .val (.bool ((!(T.same ((tmE (bank1 sg l l.length) (aget x.M z))) ((tget ((accs sg l)) z))))))), ((true && !(!(T.same ((tmE (bank1 sg l l.length) (aget x.M z))) ((tget ((accs sg l)) z))))), .val (.bool true)), ((true && !(!(T.same ((tmE (bank1 sg l l.length) (aget x.M z))) ((tget ((accs sg l)) z))))), .val (.bool ((!true)))), (true, .val (.bool (((!(T.same ((tmE (bank1 sg l l.length) (aget x.M z))) ((tget ((accs sg l)) z)))) || (!true))))), (true, .val (.bool (((!(T.same ((tmE (bank1 sg l l.length) (aget x.M z))) ((tget ((accs sg l)) z)))) || (!true))))), ((true && !((!(T.same ((tmE (bank1 sg l l.length) (aget x.M z))) ((tget ((accs sg l)) z)))) || (!true))), .val (.int .i64 ((((aget x.M z) : Nat) : Int)))), ((true && !((!(T.same ((tmE (bank1 sg l l.length) (aget x.M z))) ((tget ((accs sg l)) z)))) || (!true))), .val (.slice x.ra x.m x.rc)), ((true && !((!(T.same ((tmE (bank1 sg l l.length) (aget x.M z))) ((tget ((accs sg l)) z)))) || (!true))), .val (.int .i64 (((z : Nat) : Int)))), ((true && !((!(T.same ((tmE (bank1 sg l l.length) (aget x.M z))) ((tget ((accs sg l)) z)))) || (!true))), .val (.pointer (some ⟨b198, o199 + z, none⟩))), ((true && !((!(T.same ((tmE (bank1 sg l l.length) (aget x.M z))) ((tget ((accs sg l)) z)))) || (!true))), .val (.int .i64 ((((aget x.M z) : Nat) : Int)))), ((true && !((!(T.same ((tmE (bank1 sg l l.length) (aget x.M z))) ((tget ((accs sg l)) z)))) || (!true))), .val (.bool ((((((aget x.M z) : Nat) : Int) : Int) != ((((aget x.M z) : Nat) : Int) : Int))))), (true, .val (.bool ((((!(T.same ((tmE (bank1 sg l l.length) (aget x.M z))) ((tget ((accs sg l)) z)))) || (!true)) || (((((aget x.M z) : Nat) : Int) : Int) != ((((aget x.M z) : Nat) : Int) : Int))))))] [(0, .agg #[.slice sa sg.length sc]), (1, .slice a l.length c), (2, .pointer (some ⟨g2, 0, none⟩)), (5, .pointer (some ⟨gk8, 0, none⟩)), (6, .int .i64 0), (7, .slice x.ra x.m x.rc), (8, .slice x.qa x.m x.qc), (9, .int .i64 (((x.k : Nat) : Int))), (13, .int .i64 (((z : Nat) : Int))), (14, .pointer (some ⟨g152, 0, none⟩)), (15, .int .i64 0), (16, .int .i64 ((((aget x.M z) : Nat) : Int))), (17, .bool true), (33, .bool ((decide ((40 : Int) < (((l.length : Nat) : Int) : Int))))), (38, .bool ((decide ((((x.k : Nat) : Int) : Int) < (((l.length : Nat) : Int) : Int))))), (88, .bool ((decide ((((z : Nat) : Int) : Int) < (((x.m : Nat) : Int) : Int)))))] ⟨rfl, rfl, rfl, rfl, rfl, rfl, rfl, rfl, rfl, rfl, rfl, rfl, rfl, rfl, rfl, rfl, trivial⟩ (by kernel_rfl) (by kernel_rfl) (by kernel_rfl) ?_ ?_
        ·refine ⟨⟨true, .none rfl, fun h w => optUndef h, fun zβ za zw zc => ?_⟩, ?_⟩
         ·exact wp_move rfl (zc.kn.ev rfl) ⟨_, rfl, Below.refl _ _, optDef zβ rfl⟩
         refine ⟨⟨true, .none rfl, fun h w => optUndef h, fun zβ za zw zc => ?_⟩, ?_⟩
         ·exact neq_27 rfl ((evt za 109).trans (optVal (zc.dep 0 109 (by kernel_rfl)) rfl rfl)) (zc.kn.ev rfl) ⟨_, rfl, Below.refl _ _, optDef zβ rfl⟩
         refine ⟨⟨true, .none rfl, fun h w => optUndef h, fun zβ za zw zc => ?_⟩, ?_⟩
         ·exact wp_move rfl ((evt za 110).trans (optVal (zc.dep 1 110 (by kernel_rfl)) rfl rfl)) ⟨_, rfl, Below.refl _ _, optDef zβ rfl⟩
         refine ⟨⟨_, .no (c := false) (d := true) rfl (fun v w h => h), fun h w => optUndef h, fun zβ za zw zc => ?_⟩, ?_⟩
         ·exact ld_35 rfl (zc.kn.ev rfl) (bkeeps zc.below _ _ ((hB187.cell 0).trans rfl)) (bkeeps zc.below _ _ ((hB187.cell 1).trans rfl)) ⟨_, rfl, Below.refl _ _, optDef zβ rfl⟩
         refine ⟨⟨_, .no (c := false) (d := true) rfl (fun v w h => h), fun h w => optUndef h, fun zβ za zw zc => ?_⟩, ?_⟩
         ·exact wp_move rfl (zc.kn.ev rfl) ⟨_, rfl, Below.refl _ _, optDef zβ rfl⟩
         refine ⟨⟨_, .no (c := false) (d := true) rfl (fun v w h => h), fun h w => optUndef h, fun zβ za zw zc => ?_⟩, ?_⟩
         ·exact wp_move rfl (zc.kn.ev rfl) ⟨_, rfl, Below.refl _ _, optDef zβ rfl⟩
         refine ⟨⟨_, .no (c := false) (d := true) rfl (fun v w h => h), fun h w => optUndef h, fun zβ za zw zc => ?_⟩, ?_⟩
         ·exact ix_25 (k := z) rfl ((evt za 113).trans (optVal (zc.dep 4 113 (by kernel_rfl)) rfl rfl)) (ha194 z (by first | omega | (have zz := zβ; simp only [Bool.and_eq_true, Bool.or_eq_true, Bool.true_and, Bool.not_eq_true', Bool.or_eq_false_iff, Bool.and_eq_false_iff, beq_eq_false_iff_ne, ne_eq, beq_iff_eq, decide_eq_true_eq, decide_eq_false_iff_not, bne_iff_ne, bne_eq_false_iff_eq] at zz; omega))) ((evt za 114).trans (optVal (zc.dep 5 114 (by kernel_rfl)) rfl rfl)) (by first | omega | (have zz := zβ; simp only [Bool.and_eq_true, Bool.or_eq_true, Bool.true_and, Bool.not_eq_true', Bool.or_eq_false_iff, Bool.and_eq_false_iff, beq_eq_false_iff_ne, ne_eq, beq_iff_eq, decide_eq_true_eq, decide_eq_false_iff_not, bne_iff_ne, bne_eq_false_iff_eq] at zz; omega)) ⟨_, rfl, Below.refl _ _, optDef zβ rfl⟩
         refine ⟨⟨_, .no (c := false) (d := true) rfl (fun v w h => h), fun h w => optUndef h, fun zβ za zw zc => ?_⟩, ?_⟩
         ·exact ld_35 rfl ((evt za 115).trans (optVal (zc.dep 6 115 (by kernel_rfl)) rfl rfl)) (bkeeps zc.below _ _ (hc195 z (by first | omega | (have zz := zβ; simp only [Bool.and_eq_true, Bool.or_eq_true, Bool.true_and, Bool.not_eq_true', Bool.or_eq_false_iff, Bool.and_eq_false_iff, beq_eq_false_iff_ne, ne_eq, beq_iff_eq, decide_eq_true_eq, decide_eq_false_iff_not, bne_iff_ne, bne_eq_false_iff_eq] at zz; omega))).1) (bkeeps zc.below _ _ (hc195 z (by first | omega | (have zz := zβ; simp only [Bool.and_eq_true, Bool.or_eq_true, Bool.true_and, Bool.not_eq_true', Bool.or_eq_false_iff, Bool.and_eq_false_iff, beq_eq_false_iff_ne, ne_eq, beq_iff_eq, decide_eq_true_eq, decide_eq_false_iff_not, bne_iff_ne, bne_eq_false_iff_eq] at zz; omega))).2.1) ⟨_, rfl, Below.refl _ _, optDef zβ rfl⟩
         refine ⟨⟨_, .no (c := false) (d := true) rfl (fun v w h => h), fun h w => optUndef h, fun zβ za zw zc => ?_⟩, ?_⟩
         ·exact wp_call (by kernel_rfl) rfl (hv2 ((evt za 112).trans (optVal (zc.dep 3 112 (by kernel_rfl)) rfl rfl)) ((evt za 116).trans (optVal (zc.dep 7 116 (by kernel_rfl)) rfl rfl))) (ret_of (rsame_any _ _ _ _ _ (IsT.below zc.below (InT.isT ho196)) (IsT.below zc.below (hc195 z (by first | omega | (have zz := zβ; simp only [Bool.and_eq_true, Bool.or_eq_true, Bool.true_and, Bool.not_eq_true', Bool.or_eq_false_iff, Bool.and_eq_false_iff, beq_eq_false_iff_ne, ne_eq, beq_iff_eq, decide_eq_true_eq, decide_eq_false_iff_not, bne_iff_ne, bne_eq_false_iff_eq] at zz; omega))).2.2))) (fun v w' h => ⟨v, rfl, h.2, optDef zβ h.1⟩)
         refine ⟨⟨_, .no (c := false) (d := true) rfl (fun v w h => h), fun h w => optUndef h, fun zβ za zw zc => ?_⟩, ?_⟩
         ·exact wp_not rfl ((evt za 117).trans (optVal (zc.dep 8 117 (by kernel_rfl)) rfl rfl)) ⟨_, rfl, Below.refl _ _, optDef zβ rfl⟩
         refine ⟨⟨true, .none rfl, fun h w => optUndef h, fun zβ za zw zc => ?_⟩, ?_⟩
         ·exact wp_pickF rfl ((evt za 111).trans (optVal (zc.dep 2 111 (by kernel_rfl)) rfl rfl)) ((evt za 118).trans (optVal (zc.dep 9 118 (by kernel_rfl)) rfl rfl)) ⟨_, rfl, Below.refl _ _, optDef zβ rfl⟩
         refine ⟨⟨true, .none rfl, fun h w => optUndef h, fun zβ za zw zc => ?_⟩, ?_⟩
         ·exact wp_move rfl ((evt za 119).trans (optVal (zc.dep 10 119 (by kernel_rfl)) rfl rfl)) ⟨_, rfl, Below.refl _ _, optDef zβ rfl⟩
         refine ⟨⟨_, .no (c := (!(T.same ((tmE (bank1 sg l l.length) (aget x.M z))) ((tget ((accs sg l)) z))))) (d := true) rfl (fun v w h => h), fun h w => optUndef h, fun zβ za zw zc => ?_⟩, ?_⟩
         ·exact wp_move rfl (zc.kn.ev rfl) ⟨_, rfl, Below.refl _ _, optDef zβ rfl⟩
         refine ⟨⟨_, .no (c := (!(T.same ((tmE (bank1 sg l l.length) (aget x.M z))) ((tget ((accs sg l)) z))))) (d := true) rfl (fun v w h => h), fun h w => optUndef h, fun zβ za zw zc => ?_⟩, ?_⟩
         ·exact wp_not rfl ((evt za 121).trans (optVal (zc.dep 12 121 (by kernel_rfl)) rfl zβ)) ⟨_, rfl, Below.refl _ _, optDef zβ rfl⟩
         refine ⟨⟨true, .none rfl, fun h w => optUndef h, fun zβ za zw zc => ?_⟩, ?_⟩
         ·exact wp_or rfl ((evt za 120).trans (optVal (zc.dep 11 120 (by kernel_rfl)) rfl rfl)) (fun hp => ((evt za 122).trans (optVal (zc.dep 13 122 (by kernel_rfl)) rfl (bMkN zβ hp)))) ⟨_, rfl, Below.refl _ _, optDef zβ rfl⟩
         refine ⟨⟨true, .none rfl, fun h w => optUndef h, fun zβ za zw zc => ?_⟩, ?_⟩
         ·exact wp_move rfl ((evt za 123).trans (optVal (zc.dep 14 123 (by kernel_rfl)) rfl rfl)) ⟨_, rfl, Below.refl _ _, optDef zβ rfl⟩
         refine ⟨⟨_, .no (c := ((!(T.same ((tmE (bank1 sg l l.length) (aget x.M z))) ((tget ((accs sg l)) z)))) || (!true))) (d := true) rfl (fun v w h => h), fun h w => optUndef h, fun zβ za zw zc => ?_⟩, ?_⟩
         ·exact wp_move rfl (zc.kn.ev rfl) ⟨_, rfl, Below.refl _ _, optDef zβ rfl⟩
         refine ⟨⟨_, .no (c := ((!(T.same ((tmE (bank1 sg l l.length) (aget x.M z))) ((tget ((accs sg l)) z)))) || (!true))) (d := true) rfl (fun v w h => h), fun h w => optUndef h, fun zβ za zw zc => ?_⟩, ?_⟩
         ·exact wp_move rfl (zc.kn.ev rfl) ⟨_, rfl, Below.refl _ _, optDef zβ rfl⟩
         refine ⟨⟨_, .no (c := ((!(T.same ((tmE (bank1 sg l l.length) (aget x.M z))) ((tget ((accs sg l)) z)))) || (!true))) (d := true) rfl (fun v w h => h), fun h w => optUndef h, fun zβ za zw zc => ?_⟩, ?_⟩
         ·exact wp_move rfl (zc.kn.ev rfl) ⟨_, rfl, Below.refl _ _, optDef zβ rfl⟩
         refine ⟨⟨_, .no (c := ((!(T.same ((tmE (bank1 sg l l.length) (aget x.M z))) ((tget ((accs sg l)) z)))) || (!true))) (d := true) rfl (fun v w h => h), fun h w => optUndef h, fun zβ za zw zc => ?_⟩, ?_⟩
         ·exact ix_31 (k := z) rfl ((evt za 126).trans (optVal (zc.dep 17 126 (by kernel_rfl)) rfl zβ)) (ha200 z (by first | omega | (have zz := zβ; simp only [Bool.and_eq_true, Bool.or_eq_true, Bool.true_and, Bool.not_eq_true', Bool.or_eq_false_iff, Bool.and_eq_false_iff, beq_eq_false_iff_ne, ne_eq, beq_iff_eq, decide_eq_true_eq, decide_eq_false_iff_not, bne_iff_ne, bne_eq_false_iff_eq] at zz; omega))) ((evt za 127).trans (optVal (zc.dep 18 127 (by kernel_rfl)) rfl zβ)) (by first | omega | (have zz := zβ; simp only [Bool.and_eq_true, Bool.or_eq_true, Bool.true_and, Bool.not_eq_true', Bool.or_eq_false_iff, Bool.and_eq_false_iff, beq_eq_false_iff_ne, ne_eq, beq_iff_eq, decide_eq_true_eq, decide_eq_false_iff_not, bne_iff_ne, bne_eq_false_iff_eq] at zz; omega)) ⟨_, rfl, Below.refl _ _, optDef zβ rfl⟩
         refine ⟨⟨_, .no (c := ((!(T.same ((tmE (bank1 sg l l.length) (aget x.M z))) ((tget ((accs sg l)) z)))) || (!true))) (d := true) rfl (fun v w h => h), fun h w => optUndef h, fun zβ za zw zc => ?_⟩, ?_⟩
         ·exact ld_3 rfl ((evt za 128).trans (optVal (zc.dep 19 128 (by kernel_rfl)) rfl zβ)) (bkeeps zc.below _ _ (hc202 z (by first | omega | (have zz := zβ; simp only [Bool.and_eq_true, Bool.or_eq_true, Bool.true_and, Bool.not_eq_true', Bool.or_eq_false_iff, Bool.and_eq_false_iff, beq_eq_false_iff_ne, ne_eq, beq_iff_eq, decide_eq_true_eq, decide_eq_false_iff_not, bne_iff_ne, bne_eq_false_iff_eq] at zz; omega)))) ⟨_, rfl, Below.refl _ _, optDef zβ rfl⟩
         refine ⟨⟨_, .no (c := ((!(T.same ((tmE (bank1 sg l l.length) (aget x.M z))) ((tget ((accs sg l)) z)))) || (!true))) (d := true) rfl (fun v w h => h), fun h w => optUndef h, fun zβ za zw zc => ?_⟩, ?_⟩
         ·exact neq_3 rfl ((evt za 125).trans (optVal (zc.dep 16 125 (by kernel_rfl)) rfl zβ)) ((evt za 129).trans (optVal (zc.dep 20 129 (by kernel_rfl)) rfl zβ)) ⟨_, rfl, Below.refl _ _, optDef zβ rfl⟩
         refine ⟨⟨true, .none rfl, fun h w => optUndef h, fun zβ za zw zc => ?_⟩, ?_⟩
         ·exact wp_or rfl ((evt za 124).trans (optVal (zc.dep 15 124 (by kernel_rfl)) rfl rfl)) (fun hp => ((evt za 130).trans (optVal (zc.dep 21 130 (by kernel_rfl)) rfl (bMkN zβ hp)))) ⟨_, rfl, Below.refl _ _, optDef zβ rfl⟩
         exact trivial
        ·intro za w205 zh hb206 zu
         have zh := zh.cons (d := 131) (v := .bool ((((!(T.same ((tmE (bank1 sg l l.length) (aget x.M z))) ((tget ((accs sg l)) z)))) || (!true)) || (((((aget x.M z) : Nat) : Int) : Int) != ((((aget x.M z) : Nat) : Int) : Int))))) (optVal (zu 22 131 (by kernel_rfl)) rfl rfl)
         clear zu
         refine WE.go zh ?_
         refine WE.next ?_
         refine WC.condF rfl ((by simp [T.same_refl, htm9])) ?_
         refine WC.skip (WE.next (WC.seq (WC.region (WL.mv rfl rfl rfl rfl rfl (WL.mv rfl rfl rfl rfl rfl (WL.mv rfl rfl rfl rfl rfl ?_))))))
         have ho212 := ho203.below hb206
         obtain ⟨b207, o208, ha209, hS210, hc211⟩ := InRow.openNS (RowD.inRowOwn ho212)
         refine WL.val _ rfl rfl rfl (fun za zC zh zk => ix_31 (k := z) rfl (zh.ev rfl) (ha209 z (by first | omega | (simp; omega))) (zh.ev rfl) (by first | omega | (simp; omega)) zk) ?_
         refine WL.val _ rfl rfl rfl (fun za zC zh zk => ld_3 rfl (zh.ev rfl) (hc211 z (by first | omega | (simp; omega))) zk) ?_
         have hb217 : Below w129.heap.size w129 w205 := (bstep hb204 hb206)
         refine WL.call rfl rfl rfl (fun za zh zC => wp_call (by kernel_rfl) rfl (hv2 (zh.ev rfl) (zh.ev rfl))) (jArgs (aget x.M z) (by omega) (by omega) (BkSJ.below ho133 hb217)) ?_
         rintro _ w218 ⟨⟨ra213, rc214, rfl, hr215⟩, hb216⟩
         refine WL.asg rfl rfl rfl rfl rfl (WL.nil (WE.next (WC.seq (WC.region (WL.asg rfl rfl rfl rfl rfl (WL.nil (WE.next (WC.block ?_))))))))
         refine WC.loop (X := Nat) (fun y => (eget (bank1 sg l l.length) (aget x.M z)).args.length - y) (fun y => [(0, .agg #[.slice sa sg.length sc]), (1, .slice a l.length c), (2, .pointer (some ⟨g2, 0, none⟩)), (5, .pointer (some ⟨gk8, 0, none⟩)), (6, .int .i64 0), (7, .slice x.ra x.m x.rc), (8, .slice x.qa x.m x.qc), (9, .int .i64 (((x.k : Nat) : Int))), (13, .int .i64 (((z : Nat) : Int))), (14, .pointer (some ⟨g152, 0, none⟩)), (15, .int .i64 0), (16, .int .i64 ((((aget x.M z) : Nat) : Int))), (17, .bool true), (18, .slice ra213 ((eget (bank1 sg l l.length) (aget x.M z)).args.length) rc214), (19, .int .i64 (((y : Nat) : Int))), (33, .bool ((decide ((40 : Int) < (((l.length : Nat) : Int) : Int))))), (38, .bool ((decide ((((x.k : Nat) : Int) : Int) < (((l.length : Nat) : Int) : Int))))), (88, .bool ((decide ((((z : Nat) : Int) : Int) < (((x.m : Nat) : Int) : Int))))), (131, .bool ((((!(T.same ((tmE (bank1 sg l l.length) (aget x.M z))) ((tget ((accs sg l)) z)))) || (!true)) || (((((aget x.M z) : Nat) : Int) : Int) != ((((aget x.M z) : Nat) : Int) : Int)))))]) (fun y w219 => y ≤ (eget (bank1 sg l l.length) (aget x.M z)).args.length ∧ Below w.heap.size w w219 ∧ Below w218.heap.size w218 w219 ∧ Blk w219 g2 24 #[.slice sa sg.length sc] ∧ Blk w219 g152 35 #[.int .i64 (((tmE (bank1 sg l l.length) (aget x.M z))).f), .slice a149 (((tmE (bank1 sg l l.length) (aget x.M z))).args.length) c150] ∧ BkSJ (w219) w1.heap.size gk8 sg (bank1 sg l l.length) (fun b => obk x.ra x.m x.rc = some b ∨ obk x.qa x.m x.qc = some b) ∧ RowD eltN (fun _ => False) (w219) 3 x.ra x.rc x.m x.M ∧ RowD eltT (fun b => b < w.heap.size) (w219) 35 x.qa x.qc x.m (accs sg l) ∧ NewT w129 (w219) ((tmE (bank1 sg l l.length) (aget x.M z))) (.agg #[.int .i64 (((tmE (bank1 sg l l.length) (aget x.M z))).f), .slice a149 (((tmE (bank1 sg l l.length) (aget x.M z))).args.length) c150]) ∧ NsAt (w219) w205.heap.size ((eget (bank1 sg l l.length) (aget x.M z)).args) ra213) 0 ⟨rfl, rfl, rfl, rfl, rfl, rfl, rfl, rfl, rfl, rfl, rfl, rfl, rfl, rfl, rfl, rfl, rfl, rfl, rfl, trivial⟩ ?_ ?_
         ·have hb220 : Below w.heap.size w w218 := (bstep (bstep hb130 hb217) hb216)
          have hb222 : Below w164.heap.size w164 w218 := (bstep (bstep hq185 hb206) hb216)
          have hB221 := hB176.below hb222
          have hb224 : Below w186.heap.size w186 w218 := (bstep hb206 hb216)
          have hB223 := hB187.below hb224
          have hb226 : Below w129.heap.size w129 w218 := (bstep hb173 hb222)
          have ho225 := ho133.below hb226
          have ho227 := ho212.below hb216
          have ho228 := ho189.below hb224
          have ho229 := ho196.below hb224
          exact ⟨Nat.zero_le _, hb220, (Below.refl _ _), hB221, hB223, ho225, ho227, ho228, ho229, hr215⟩
         ·rintro y w219 ⟨hky, hb230, hb231, hB232, hB233, ho234, ho235, ho236, ho237, ho238⟩
          refine WC.seq (WC.seq (WC.region (WL.mv rfl rfl rfl rfl rfl (WL.mv rfl rfl rfl rfl rfl ?_))))
          refine WL.val (.int .i64 ((((eget (bank1 sg l l.length) (aget x.M z)).args.length : Nat) : Int))) rfl rfl rfl (fun za zC zh zk => len_31 rfl (zh.ev rfl) zk) ?_
          refine WL.val (.bool ((decide ((((y : Nat) : Int) : Int) < ((((eget (bank1 sg l l.length) (aget x.M z)).args.length : Nat) : Int) : Int))))) rfl rfl rfl (fun za zC zh zk => lss_3 rfl (zh.ev rfl) (zh.ev rfl) zk) ?_
          refine WL.nil (WE.next ?_)
          refine WC.cond rfl (fun h239 => ?_) (fun h239 => ?_)
          ·have h239 : (((y : Nat) : Int) : Int) < ((((eget (bank1 sg l l.length) (aget x.M z)).args.length : Nat) : Int) : Int) := by simpa using h239
           refine WC.skip (WE.next (WC.seq (WC.block (WC.seq (WC.region (WL.mv rfl rfl rfl rfl rfl (WL.mv rfl rfl rfl rfl rfl (WL.mv rfl rfl rfl rfl rfl ?_))))))))
           obtain ⟨b240, o241, ha242, hS243, hc244⟩ := InRow.openNS (NsAt.row ho238)
           refine WL.val _ rfl rfl rfl (fun za zC zh zk => ix_31 (k := y) rfl (zh.ev rfl) (ha242 y (by first | omega | (simp; omega))) (zh.ev rfl) (by first | omega | (simp; omega)) zk) ?_
           refine WL.val _ rfl rfl rfl (fun za zC zh zk => ld_3 rfl (zh.ev rfl) (hc244 y (by first | omega | (simp; omega))) zk) ?_
           have hta9 := hal9.2 y (by omega)
           have hl248 : g2 < w219.heap.size := by have z1 := hB232.lt; omega
           have hl249 : g152 < w219.heap.size := by have z1 := hB233.lt; omega
           have hl250 : w.heap.size ≤ w219.heap.size := (hb230).size
           have hl251 : w218.heap.size ≤ w219.heap.size := (hb231).size
           refine WL.call rfl rfl rfl (fun za zh zC => wp_call (by kernel_rfl) rfl (hv2 (zh.ev rfl) (zh.ev rfl))) (jGet (aget (eget (bank1 sg l l.length) (aget x.M z)).args y) (by omega) (by omega) (BkSJ.below ho234 (Below.refl _ _))) ?_
           rintro _ w252 ⟨⟨u245, rfl, hn246⟩, hb247⟩
           obtain ⟨_, a253, c254, rfl, _, _, _⟩ := hn246.form
           refine WL.mv rfl rfl rfl rfl rfl ?_
           refine WL.val (.agg #[.int .i64 (((tmE (bank1 sg l l.length) (aget (eget (bank1 sg l l.length) (aget x.M z)).args y))).f), .slice a253 (((tmE (bank1 sg l l.length) (aget (eget (bank1 sg l l.length) (aget x.M z)).args y))).args.length) c254]) rfl rfl rfl (fun za zC zh zk => ext2_0 rfl (zh.ev rfl) zk) ?_
           refine WL.val (.int .i64 0) rfl rfl rfl (fun za zC zh zk => ext2_1 rfl (zh.ev rfl) zk) ?_
           refine WL.step (post := NewBlk w252 35 #[.int .i64 0, .slice none 0 0]) rfl rfl rfl (fun za zC zh zk => alloc_35 rfl (zk _ _ (newBlk _ _ _))) ?_
           rintro _ w255 ⟨g256, rfl, hg257, hB258, hb259, hz260⟩
           have hl261 : g2 < g256 := by have z1 := hB232.lt; have z2 := (hb247).size; omega
           have hl262 : g152 < g256 := by have z1 := hB233.lt; have z2 := (hb247).size; omega
           have hb263 : Below w.heap.size w w252 := (bstep hb230 hb247)
           have hl264 : w.heap.size ≤ g256 := by have z2 := (hb263).size; omega
           have hb265 : Below w218.heap.size w218 w252 := (bstep hb231 hb247)
           have hl266 : w218.heap.size ≤ g256 := by have z2 := (hb265).size; omega
           have hl267 : w219.heap.size ≤ g256 := by have z2 := (hb247).size; omega
           have hl268 : w252.heap.size ≤ g256 := by omega
           refine WL.step (post := fun _ w' => Upd g256 w255 w' ∧ Blk w' g256 35 #[.int .i64 (((tmE (bank1 sg l l.length) (aget (eget (bank1 sg l l.length) (aget x.M z)).args y))).f), .slice a253 (((tmE (bank1 sg l l.length) (aget (eget (bank1 sg l l.length) (aget x.M z)).args y))).args.length) c254]) rfl rfl rfl (fun za zC zh zk => st_35 rfl (zh.ev rfl) (zh.ev rfl) rfl rfl hB258 (by first | decide | simp) (fun v => zk v _ ⟨(Upd.at_ _ _ _ _).trans (Upd.at_ _ _ _ _), (hB258.set_ 0 _).set_ 1 _⟩)) ?_
           rintro v272 w269 ⟨hu270, hB271⟩
           have hb273 : Below w.heap.size w w255 := (bstep hb263 hb259)
           have hb274 : Below w218.heap.size w218 w255 := (bstep hb265 hb259)
           have hb275 : Below w219.heap.size w219 w255 := (bstep hb247 hb259)
           have hb276 := upd_below hb273 hu270 (by omega)
           have hb277 := upd_below hb274 hu270 (by omega)
           have hb278 := upd_below hb275 hu270 (by omega)
           have hb279 := upd_below hb259 hu270 (by omega)
           have hB280 := hB232.below hb275
           have hB281 := upd_blk hB280 hu270 (by omega)
           have hB282 := hB233.below hb275
           have hB283 := upd_blk hB282 hu270 (by omega)
           refine WL.asg rfl rfl rfl rfl rfl (WL.nil (WE.next (WC.seq ?_)))
           have ho289 := ho238.below hb278
           obtain ⟨b284, o285, ha286, hS287, hc288⟩ := InRow.openNS (NsAt.row ho289)
           have ho295 := ho235.below hb278
           obtain ⟨b290, o291, ha292, hS293, hc294⟩ := InRow.openNS (RowD.inRowOwn ho295)
           have ho297 := ho237.below hb278
           have hl296 := isT_row (InT.isT ho297)
           obtain ⟨b298, o299, A300, C301, ha302, hc303⟩ := IsTs.open hl296.2.2.2
           have ho304 := hn246.below hb279
           refine WC.opt [(true, .val (.slice ra213 ((eget (bank1 sg l l.length) (aget x.M z)).args.length) rc214)), (true, .val (.int .i64 (((y : Nat) : Int)))), (true, .val (.pointer (some ⟨b284, o285 + y, none⟩))), (true, .val (.int .i64 ((((aget ((eget (bank1 sg l l.length) (aget x.M z)).args) y) : Nat) : Int)))), (true, .val (.slice x.ra x.m x.rc)), (true, .val (.int .i64 (((z : Nat) : Int)))), (true, .val (.pointer (some ⟨b290, o291 + z, none⟩))), (true, .val (.int .i64 ((((aget x.M z) : Nat) : Int)))), (true, .val (.bool ((decide (((((aget x.M z) : Nat) : Int) : Int) ≤ ((((aget ((eget (bank1 sg l l.length) (aget x.M z)).args) y) : Nat) : Int) : Int)))))), (true, .val (.bool ((decide (((((aget x.M z) : Nat) : Int) : Int) ≤ ((((aget ((eget (bank1 sg l l.length) (aget x.M z)).args) y) : Nat) : Int) : Int)))))), ((true && !(decide (((((aget x.M z) : Nat) : Int) : Int) ≤ ((((aget ((eget (bank1 sg l l.length) (aget x.M z)).args) y) : Nat) : Int) : Int)))), .val (.int .i64 0)), ((true && !(decide (((((aget x.M z) : Nat) : Int) : Int) ≤ ((((aget ((eget (bank1 sg l l.length) (aget x.M z)).args) y) : Nat) : Int) : Int)))), .val (.bool false)), (true, .val (.bool (((decide (((((aget x.M z) : Nat) : Int) : Int) ≤ ((((aget ((eget (bank1 sg l l.length) (aget x.M z)).args) y) : Nat) : Int) : Int))) || false)))), (true, .val (.bool (((decide (((((aget x.M z) : Nat) : Int) : Int) ≤ ((((aget ((eget (bank1 sg l l.length) (aget x.M z)).args) y) : Nat) : Int) : Int))) || false)))), ((true && !((decide (((((aget x.M z) : Nat) : Int) : Int) ≤ ((((aget ((eget (bank1 sg l l.length) (aget x.M z)).args) y) : Nat) : Int) : Int))) || false)), .val (.agg #[.int .i64 (((tmE (bank1 sg l l.length) (aget (eget (bank1 sg l l.length) (aget x.M z)).args y))).f), .slice a253 (((tmE (bank1 sg l l.length) (aget (eget (bank1 sg l l.length) (aget x.M z)).args y))).args.length) c254])), ((true && !((decide (((((aget x.M z) : Nat) : Int) : Int) ≤ ((((aget ((eget (bank1 sg l l.length) (aget x.M z)).args) y) : Nat) : Int) : Int))) || false)), .val (.pointer (some ⟨g152, 1, none⟩))), ((true && !((decide (((((aget x.M z) : Nat) : Int) : Int) ≤ ((((aget ((eget (bank1 sg l l.length) (aget x.M z)).args) y) : Nat) : Int) : Int))) || false)), .val (.slice a149 (((tmE (bank1 sg l l.length) (aget x.M z))).args.length) c150)), ((true && !((decide (((((aget x.M z) : Nat) : Int) : Int) ≤ ((((aget ((eget (bank1 sg l l.length) (aget x.M z)).args) y) : Nat) : Int) : Int))) || false)), .val (.int .i64 (((y : Nat) : Int)))), ((true && !((decide (((((aget x.M z) : Nat) : Int) : Int) ≤ ((((aget ((eget (bank1 sg l l.length) (aget x.M z)).args) y) : Nat) : Int) : Int))) || false)), .val (.pointer (some ⟨b298, o299 + y * 2, none⟩))), ((true && !((decide (((((aget x.M z) : Nat) : Int) : Int) ≤ ((((aget ((eget (bank1 sg l l.length) (aget x.M z)).args) y) : Nat) : Int) : Int))) || false)), .val (.agg #[.int .i64 ((tget ((tmE (bank1 sg l l.length) (aget x.M z)).args) y).f), .slice ((A300 y)) ((tget ((tmE (bank1 sg l l.length) (aget x.M z)).args) y).args.length) ((C301 y))])), ((true && !((decide (((((aget x.M z) : Nat) : Int) : Int) ≤ ((((aget ((eget (bank1 sg l l.length) (aget x.M z)).args) y) : Nat) : Int) : Int))) || false)), .val (.bool ((T.same ((tmE (bank1 sg l l.length) (aget (eget (bank1 sg l l.length) (aget x.M z)).args y))) ((tget ((tmE (bank1 sg l l.length) (aget x.M z)).args) y)))))), ((true && !((decide (((((aget x.M z) : Nat) : Int) : Int) ≤ ((((aget ((eget (bank1 sg l l.length) (aget x.M z)).args) y) : Nat) : Int) : Int))) || false)), .val (.bool ((!(T.same ((tmE (bank1 sg l l.length) (aget (eget (bank1 sg l l.length) (aget x.M z)).args y))) ((tget ((tmE (bank1 sg l l.length) (aget x.M z)).args) y))))))), (true, .val (.bool ((((decide (((((aget x.M z) : Nat) : Int) : Int) ≤ ((((aget ((eget (bank1 sg l l.length) (aget x.M z)).args) y) : Nat) : Int) : Int))) || false) || (!(T.same ((tmE (bank1 sg l l.length) (aget (eget (bank1 sg l l.length) (aget x.M z)).args y))) ((tget ((tmE (bank1 sg l l.length) (aget x.M z)).args) y))))))))] [(0, .agg #[.slice sa sg.length sc]), (1, .slice a l.length c), (2, .pointer (some ⟨g2, 0, none⟩)), (5, .pointer (some ⟨gk8, 0, none⟩)), (6, .int .i64 0), (7, .slice x.ra x.m x.rc), (8, .slice x.qa x.m x.qc), (9, .int .i64 (((x.k : Nat) : Int))), (13, .int .i64 (((z : Nat) : Int))), (14, .pointer (some ⟨g152, 0, none⟩)), (15, .int .i64 0), (16, .int .i64 ((((aget x.M z) : Nat) : Int))), (17, .bool true), (18, .slice ra213 ((eget (bank1 sg l l.length) (aget x.M z)).args.length) rc214), (19, .int .i64 (((y : Nat) : Int))), (20, .pointer (some ⟨g256, 0, none⟩)), (21, .int .i64 0), (33, .bool ((decide ((40 : Int) < (((l.length : Nat) : Int) : Int))))), (38, .bool ((decide ((((x.k : Nat) : Int) : Int) < (((l.length : Nat) : Int) : Int))))), (88, .bool ((decide ((((z : Nat) : Int) : Int) < (((x.m : Nat) : Int) : Int))))), (131, .bool ((((!(T.same ((tmE (bank1 sg l l.length) (aget x.M z))) ((tget ((accs sg l)) z)))) || (!true)) || (((((aget x.M z) : Nat) : Int) : Int) != ((((aget x.M z) : Nat) : Int) : Int))))), (141, .bool ((decide ((((y : Nat) : Int) : Int) < ((((eget (bank1 sg l l.length) (aget x.M z)).args.length : Nat) : Int) : Int)))))] ⟨rfl, rfl, rfl, rfl, rfl, rfl, rfl, rfl, rfl, rfl, rfl, rfl, rfl, rfl, rfl, rfl, rfl, rfl, rfl, rfl, rfl, rfl, trivial⟩ (by kernel_rfl) (by kernel_rfl) (by kernel_rfl) ?_ ?_
           ·refine ⟨⟨true, .none rfl, fun h w => optUndef h, fun zβ za zw zc => ?_⟩, ?_⟩
            ·exact wp_move rfl (zc.kn.ev rfl) ⟨_, rfl, Below.refl _ _, optDef zβ rfl⟩
            refine ⟨⟨true, .none rfl, fun h w => optUndef h, fun zβ za zw zc => ?_⟩, ?_⟩
            ·exact wp_move rfl (zc.kn.ev rfl) ⟨_, rfl, Below.refl _ _, optDef zβ rfl⟩
            refine ⟨⟨true, .none rfl, fun h w => optUndef h, fun zβ za zw zc => ?_⟩, ?_⟩
            ·exact ix_31 (k := y) rfl ((evt za 153).trans (optVal (zc.dep 0 153 (by kernel_rfl)) rfl rfl)) (ha286 y (by first | omega | (simp; omega))) ((evt za 154).trans (optVal (zc.dep 1 154 (by kernel_rfl)) rfl rfl)) (by first | omega | (simp; omega)) ⟨_, rfl, Below.refl _ _, optDef zβ rfl⟩
            refine ⟨⟨true, .none rfl, fun h w => optUndef h, fun zβ za zw zc => ?_⟩, ?_⟩
            ·exact ld_3 rfl ((evt za 155).trans (optVal (zc.dep 2 155 (by kernel_rfl)) rfl rfl)) (bkeeps zc.below _ _ (hc288 y (by first | omega | (simp; omega)))) ⟨_, rfl, Below.refl _ _, optDef zβ rfl⟩
            refine ⟨⟨true, .none rfl, fun h w => optUndef h, fun zβ za zw zc => ?_⟩, ?_⟩
            ·exact wp_move rfl (zc.kn.ev rfl) ⟨_, rfl, Below.refl _ _, optDef zβ rfl⟩
            refine ⟨⟨true, .none rfl, fun h w => optUndef h, fun zβ za zw zc => ?_⟩, ?_⟩
            ·exact wp_move rfl (zc.kn.ev rfl) ⟨_, rfl, Below.refl _ _, optDef zβ rfl⟩
            refine ⟨⟨true, .none rfl, fun h w => optUndef h, fun zβ za zw zc => ?_⟩, ?_⟩
            ·exact ix_31 (k := z) rfl ((evt za 157).trans (optVal (zc.dep 4 157 (by kernel_rfl)) rfl rfl)) (ha292 z (by first | omega | (simp; omega))) ((evt za 158).trans (optVal (zc.dep 5 158 (by kernel_rfl)) rfl rfl)) (by first | omega | (simp; omega)) ⟨_, rfl, Below.refl _ _, optDef zβ rfl⟩
            refine ⟨⟨true, .none rfl, fun h w => optUndef h, fun zβ za zw zc => ?_⟩, ?_⟩
            ·exact ld_3 rfl ((evt za 159).trans (optVal (zc.dep 6 159 (by kernel_rfl)) rfl rfl)) (bkeeps zc.below _ _ (hc294 z (by first | omega | (simp; omega)))) ⟨_, rfl, Below.refl _ _, optDef zβ rfl⟩
            refine ⟨⟨true, .none rfl, fun h w => optUndef h, fun zβ za zw zc => ?_⟩, ?_⟩
            ·exact geq_3 rfl ((evt za 156).trans (optVal (zc.dep 3 156 (by kernel_rfl)) rfl rfl)) ((evt za 160).trans (optVal (zc.dep 7 160 (by kernel_rfl)) rfl rfl)) ⟨_, rfl, Below.refl _ _, optDef zβ rfl⟩
            refine ⟨⟨true, .none rfl, fun h w => optUndef h, fun zβ za zw zc => ?_⟩, ?_⟩
            ·exact wp_move rfl ((evt za 161).trans (optVal (zc.dep 8 161 (by kernel_rfl)) rfl rfl)) ⟨_, rfl, Below.refl _ _, optDef zβ rfl⟩
            refine ⟨⟨_, .no (c := (decide (((((aget x.M z) : Nat) : Int) : Int) ≤ ((((aget ((eget (bank1 sg l l.length) (aget x.M z)).args) y) : Nat) : Int) : Int)))) (d := true) rfl (fun v w h => h), fun h w => optUndef h, fun zβ za zw zc => ?_⟩, ?_⟩
            ·exact wp_move rfl (zc.kn.ev rfl) ⟨_, rfl, Below.refl _ _, optDef zβ rfl⟩
            refine ⟨⟨_, .no (c := (decide (((((aget x.M z) : Nat) : Int) : Int) ≤ ((((aget ((eget (bank1 sg l l.length) (aget x.M z)).args) y) : Nat) : Int) : Int)))) (d := true) rfl (fun v w h => h), fun h w => optUndef h, fun zβ za zw zc => ?_⟩, ?_⟩
            ·exact neq_27 rfl ((evt za 163).trans (optVal (zc.dep 10 163 (by kernel_rfl)) rfl zβ)) (zc.kn.ev rfl) ⟨_, rfl, Below.refl _ _, optDef zβ rfl⟩
            refine ⟨⟨true, .none rfl, fun h w => optUndef h, fun zβ za zw zc => ?_⟩, ?_⟩
            ·exact wp_or rfl ((evt za 162).trans (optVal (zc.dep 9 162 (by kernel_rfl)) rfl rfl)) (fun hp => ((evt za 164).trans (optVal (zc.dep 11 164 (by kernel_rfl)) rfl (bMkN zβ hp)))) ⟨_, rfl, Below.refl _ _, optDef zβ rfl⟩
            refine ⟨⟨true, .none rfl, fun h w => optUndef h, fun zβ za zw zc => ?_⟩, ?_⟩
            ·exact wp_move rfl ((evt za 165).trans (optVal (zc.dep 12 165 (by kernel_rfl)) rfl rfl)) ⟨_, rfl, Below.refl _ _, optDef zβ rfl⟩
            refine ⟨⟨_, .no (c := ((decide (((((aget x.M z) : Nat) : Int) : Int) ≤ ((((aget ((eget (bank1 sg l l.length) (aget x.M z)).args) y) : Nat) : Int) : Int))) || false)) (d := true) rfl (fun v w h => h), fun h w => optUndef h, fun zβ za zw zc => ?_⟩, ?_⟩
            ·exact ld_35 rfl (zc.kn.ev rfl) (bkeeps zc.below _ _ ((hB271.cell 0).trans rfl)) (bkeeps zc.below _ _ ((hB271.cell 1).trans rfl)) ⟨_, rfl, Below.refl _ _, optDef zβ rfl⟩
            refine ⟨⟨_, .no (c := ((decide (((((aget x.M z) : Nat) : Int) : Int) ≤ ((((aget ((eget (bank1 sg l l.length) (aget x.M z)).args) y) : Nat) : Int) : Int))) || false)) (d := true) rfl (fun v w h => h), fun h w => optUndef h, fun zβ za zw zc => ?_⟩, ?_⟩
            ·exact fld_35_1 rfl (zc.kn.ev rfl) ⟨_, rfl, Below.refl _ _, optDef zβ rfl⟩
            refine ⟨⟨_, .no (c := ((decide (((((aget x.M z) : Nat) : Int) : Int) ≤ ((((aget ((eget (bank1 sg l l.length) (aget x.M z)).args) y) : Nat) : Int) : Int))) || false)) (d := true) rfl (fun v w h => h), fun h w => optUndef h, fun zβ za zw zc => ?_⟩, ?_⟩
            ·exact ld_25 rfl ((evt za 168).trans (optVal (zc.dep 15 168 (by kernel_rfl)) rfl zβ)) (bkeeps zc.below _ _ ((hB283.cell 1).trans rfl)) ⟨_, rfl, Below.refl _ _, optDef zβ rfl⟩
            refine ⟨⟨_, .no (c := ((decide (((((aget x.M z) : Nat) : Int) : Int) ≤ ((((aget ((eget (bank1 sg l l.length) (aget x.M z)).args) y) : Nat) : Int) : Int))) || false)) (d := true) rfl (fun v w h => h), fun h w => optUndef h, fun zβ za zw zc => ?_⟩, ?_⟩
            ·exact wp_move rfl (zc.kn.ev rfl) ⟨_, rfl, Below.refl _ _, optDef zβ rfl⟩
            refine ⟨⟨_, .no (c := ((decide (((((aget x.M z) : Nat) : Int) : Int) ≤ ((((aget ((eget (bank1 sg l l.length) (aget x.M z)).args) y) : Nat) : Int) : Int))) || false)) (d := true) rfl (fun v w h => h), fun h w => optUndef h, fun zβ za zw zc => ?_⟩, ?_⟩
            ·exact ix_25 (k := y) rfl ((evt za 169).trans (optVal (zc.dep 16 169 (by kernel_rfl)) rfl zβ)) (ha302 y (by first | omega | (have zz := zβ; simp only [Bool.and_eq_true, Bool.or_eq_true, Bool.true_and, Bool.not_eq_true', Bool.or_eq_false_iff, Bool.and_eq_false_iff, beq_eq_false_iff_ne, ne_eq, beq_iff_eq, decide_eq_true_eq, decide_eq_false_iff_not, bne_iff_ne, bne_eq_false_iff_eq] at zz; omega))) ((evt za 170).trans (optVal (zc.dep 17 170 (by kernel_rfl)) rfl zβ)) (by first | omega | (have zz := zβ; simp only [Bool.and_eq_true, Bool.or_eq_true, Bool.true_and, Bool.not_eq_true', Bool.or_eq_false_iff, Bool.and_eq_false_iff, beq_eq_false_iff_ne, ne_eq, beq_iff_eq, decide_eq_true_eq, decide_eq_false_iff_not, bne_iff_ne, bne_eq_false_iff_eq] at zz; omega)) ⟨_, rfl, Below.refl _ _, optDef zβ rfl⟩
            refine ⟨⟨_, .no (c := ((decide (((((aget x.M z) : Nat) : Int) : Int) ≤ ((((aget ((eget (bank1 sg l l.length) (aget x.M z)).args) y) : Nat) : Int) : Int))) || false)) (d := true) rfl (fun v w h => h), fun h w => optUndef h, fun zβ za zw zc => ?_⟩, ?_⟩
            ·exact ld_35 rfl ((evt za 171).trans (optVal (zc.dep 18 171 (by kernel_rfl)) rfl zβ)) (bkeeps zc.below _ _ (hc303 y (by first | omega | (have zz := zβ; simp only [Bool.and_eq_true, Bool.or_eq_true, Bool.true_and, Bool.not_eq_true', Bool.or_eq_false_iff, Bool.and_eq_false_iff, beq_eq_false_iff_ne, ne_eq, beq_iff_eq, decide_eq_true_eq, decide_eq_false_iff_not, bne_iff_ne, bne_eq_false_iff_eq] at zz; omega))).1) (bkeeps zc.below _ _ (hc303 y (by first | omega | (have zz := zβ; simp only [Bool.and_eq_true, Bool.or_eq_true, Bool.true_and, Bool.not_eq_true', Bool.or_eq_false_iff, Bool.and_eq_false_iff, beq_eq_false_iff_ne, ne_eq, beq_iff_eq, decide_eq_true_eq, decide_eq_false_iff_not, bne_iff_ne, bne_eq_false_iff_eq] at zz; omega))).2.1) ⟨_, rfl, Below.refl _ _, optDef zβ rfl⟩
            refine ⟨⟨_, .no (c := ((decide (((((aget x.M z) : Nat) : Int) : Int) ≤ ((((aget ((eget (bank1 sg l l.length) (aget x.M z)).args) y) : Nat) : Int) : Int))) || false)) (d := true) rfl (fun v w h => h), fun h w => optUndef h, fun zβ za zw zc => ?_⟩, ?_⟩
            ·exact wp_call (by kernel_rfl) rfl (hv2 ((evt za 167).trans (optVal (zc.dep 14 167 (by kernel_rfl)) rfl zβ)) ((evt za 172).trans (optVal (zc.dep 19 172 (by kernel_rfl)) rfl zβ))) (ret_of (rsame_any _ _ _ _ _ (IsT.below zc.below (InT.isT ho304)) (IsT.below zc.below (hc303 y (by first | omega | (have zz := zβ; simp only [Bool.and_eq_true, Bool.or_eq_true, Bool.true_and, Bool.not_eq_true', Bool.or_eq_false_iff, Bool.and_eq_false_iff, beq_eq_false_iff_ne, ne_eq, beq_iff_eq, decide_eq_true_eq, decide_eq_false_iff_not, bne_iff_ne, bne_eq_false_iff_eq] at zz; omega))).2.2))) (fun v w' h => ⟨v, rfl, h.2, optDef zβ h.1⟩)
            refine ⟨⟨_, .no (c := ((decide (((((aget x.M z) : Nat) : Int) : Int) ≤ ((((aget ((eget (bank1 sg l l.length) (aget x.M z)).args) y) : Nat) : Int) : Int))) || false)) (d := true) rfl (fun v w h => h), fun h w => optUndef h, fun zβ za zw zc => ?_⟩, ?_⟩
            ·exact wp_not rfl ((evt za 173).trans (optVal (zc.dep 20 173 (by kernel_rfl)) rfl zβ)) ⟨_, rfl, Below.refl _ _, optDef zβ rfl⟩
            refine ⟨⟨true, .none rfl, fun h w => optUndef h, fun zβ za zw zc => ?_⟩, ?_⟩
            ·exact wp_or rfl ((evt za 166).trans (optVal (zc.dep 13 166 (by kernel_rfl)) rfl rfl)) (fun hp => ((evt za 174).trans (optVal (zc.dep 21 174 (by kernel_rfl)) rfl (bMkN zβ hp)))) ⟨_, rfl, Below.refl _ _, optDef zβ rfl⟩
            exact trivial
           ·intro za w305 zh hb306 zu
            have zh := zh.cons (d := 175) (v := .bool ((((decide (((((aget x.M z) : Nat) : Int) : Int) ≤ ((((aget ((eget (bank1 sg l l.length) (aget x.M z)).args) y) : Nat) : Int) : Int))) || false) || (!(T.same ((tmE (bank1 sg l l.length) (aget (eget (bank1 sg l l.length) (aget x.M z)).args y))) ((tget ((tmE (bank1 sg l l.length) (aget x.M z)).args) y))))))) (optVal (zu 22 175 (by kernel_rfl)) rfl rfl)
            clear zu
            refine WE.go zh ?_
            refine WE.next ?_
            refine WC.condF rfl ((by simp [T.same_refl, hta9.1]; omega)) ?_
            refine WC.skip (WE.blockNormal (WE.next (WC.region (WL.mv rfl rfl rfl rfl rfl ?_))))
            refine WL.val (.int .i64 ((((y + 1) : Nat) : Int))) rfl rfl rfl (fun za zC zh zk => addb_3 rfl (zh.ev rfl) (zh.ev rfl) (wrap_eq (by omega) (by omega) (by omega)) zk) ?_
            refine WL.asg rfl rfl rfl rfl rfl ?_
            refine WL.nil (WE.sub (K' := [(0, .agg #[.slice sa sg.length sc]), (1, .slice a l.length c), (2, .pointer (some ⟨g2, 0, none⟩)), (5, .pointer (some ⟨gk8, 0, none⟩)), (6, .int .i64 0), (7, .slice x.ra x.m x.rc), (8, .slice x.qa x.m x.qc), (9, .int .i64 (((x.k : Nat) : Int))), (13, .int .i64 (((z : Nat) : Int))), (14, .pointer (some ⟨g152, 0, none⟩)), (15, .int .i64 0), (16, .int .i64 ((((aget x.M z) : Nat) : Int))), (17, .bool true), (18, .slice ra213 ((eget (bank1 sg l l.length) (aget x.M z)).args.length) rc214), (19, .int .i64 ((((y + 1) : Nat) : Int))), (20, .pointer (some ⟨g256, 0, none⟩)), (21, .int .i64 0), (33, .bool ((decide ((40 : Int) < (((l.length : Nat) : Int) : Int))))), (38, .bool ((decide ((((x.k : Nat) : Int) : Int) < (((l.length : Nat) : Int) : Int))))), (88, .bool ((decide ((((z : Nat) : Int) : Int) < (((x.m : Nat) : Int) : Int))))), (131, .bool ((((!(T.same ((tmE (bank1 sg l l.length) (aget x.M z))) ((tget ((accs sg l)) z)))) || (!true)) || (((((aget x.M z) : Nat) : Int) : Int) != ((((aget x.M z) : Nat) : Int) : Int))))), (141, .bool ((decide ((((y : Nat) : Int) : Int) < ((((eget (bank1 sg l l.length) (aget x.M z)).args.length : Nat) : Int) : Int))))), (175, .bool ((((decide (((((aget x.M z) : Nat) : Int) : Int) ≤ ((((aget ((eget (bank1 sg l l.length) (aget x.M z)).args) y) : Nat) : Int) : Int))) || false) || (!(T.same ((tmE (bank1 sg l l.length) (aget (eget (bank1 sg l l.length) (aget x.M z)).args y))) ((tget ((tmE (bank1 sg l l.length) (aget x.M z)).args) y)))))))]) ⟨rfl, rfl, rfl, rfl, rfl, rfl, rfl, rfl, rfl, rfl, rfl, rfl, rfl, rfl, rfl, rfl, rfl, rfl, rfl, rfl, rfl, rfl, rfl, trivial⟩ ?_)
            refine WE.round (y + 1) ⟨rfl, rfl, rfl, rfl, rfl, rfl, rfl, rfl, rfl, rfl, rfl, rfl, rfl, rfl, rfl, rfl, rfl, rfl, rfl, trivial⟩ ?_ ?_
            ·have hb307 : Below w.heap.size w w305 := (bstep hb276 hb306)
             have hb308 : Below w218.heap.size w218 w305 := (bstep hb277 hb306)
             have hB309 := hB281.below hb306
             have hB310 := hB283.below hb306
             have hb312 : Below w219.heap.size w219 w305 := (bstep hb278 hb306)
             have ho311 := ho234.below hb312
             have ho313 := ho295.below hb306
             have ho314 := ho236.below hb312
             have ho315 := ho297.below hb306
             have ho316 := ho289.below hb306
             exact ⟨by omega, hb307, hb308, hB309, hB310, ho311, ho313, ho314, ho315, ho316⟩
            ·omega
          ·have h239 : ¬ ((((y : Nat) : Int) : Int) < ((((eget (bank1 sg l l.length) (aget x.M z)).args.length : Nat) : Int) : Int)) := by simpa using h239
           refine WC.exit (WE.thenExit (WE.thenExit (WE.blockIs rfl (WE.blockNormal (WE.next (WC.region (WL.mv rfl rfl rfl rfl rfl ?_)))))))
           refine WL.val (.int .i64 ((((z + 1) : Nat) : Int))) rfl rfl rfl (fun za zC zh zk => addb_3 rfl (zh.ev rfl) (zh.ev rfl) (wrap_eq (by omega) (by omega) (by omega)) zk) ?_
           refine WL.asg rfl rfl rfl rfl rfl (WL.nil ?_)
           refine WE.round (z + 1) ⟨rfl, rfl, rfl, rfl, rfl, rfl, rfl, rfl, rfl, rfl, rfl, trivial⟩ ?_ ?_
           ·have hb317 : Below w18.heap.size w18 w219 := (bstep (bstep (bstep hb131 hb217) hb216) hb231)
            exact ⟨by omega, hb230, hb317, hB232, ho234, ho235, ho236⟩
           ·omega
       ·have h136 : ¬ ((((z : Nat) : Int) : Int) < (((x.m : Nat) : Int) : Int)) := by simpa using h136
        refine WC.exit (WE.thenExit (WE.thenExit (WE.blockIs rfl (WE.next (WC.seq (WC.region ?_))))))
        refine WL.call rfl rfl rfl (fun za zh zC => wp_call (by kernel_rfl) rfl (hv0)) (wakes_any _) ?_
        rintro _ w319 ⟨rfl, hq318⟩
        refine WL.asg rfl rfl rfl rfl rfl (WL.nil (WE.next (WC.ret (WE.ret1 rfl rfl ?_))))
        have hb320 : Below w.heap.size w w319 := (bstep hb130 hq318)
        exact ⟨_, rfl, rfl, hb320⟩
 ·refine WL.call rfl rfl rfl (fun za zh zC => wp_call (by kernel_rfl) rfl (hv1 (zh.ev rfl))) (newN sg _ _ (by omega) (IsSig.below hb5 hst) hck) ?_
  rintro _ w322 ⟨rfl, hq321⟩
  refine WL.mv rfl rfl rfl rfl rfl ?_
  refine WL.val (.pointer none) rfl rfl rfl (fun za zC zh zk => ext2_0 rfl (zh.ev rfl) zk) ?_
  refine WL.val (.int .i64 2) rfl rfl rfl (fun za zC zh zk => ext2_1 rfl (zh.ev rfl) zk) ?_
  refine WL.asg rfl rfl rfl rfl rfl (WL.asg rfl rfl rfl rfl rfl (WL.nil (WE.next (WC.seq (WC.seq ?_)))))
  refine WC.opt [(true, .val (.int .i64 2)), (true, .val (.bool true)), (true, .val (.bool true)), ((true && !true), .val undef), ((true && !true), .val undef), ((true && !true), .val undef), (true, .val (.bool true))] [(0, .agg #[.slice sa sg.length sc]), (1, .slice a l.length c), (2, .pointer (some ⟨g2, 0, none⟩)), (4, .bool false), (5, .pointer none), (6, .int .i64 2)] ⟨rfl, rfl, rfl, rfl, rfl, rfl, trivial⟩ (by kernel_rfl) (by kernel_rfl) (by kernel_rfl) ?_ ?_
  ·refine ⟨⟨true, .none rfl, fun h w => optUndef h, fun zβ za zw zc => ?_⟩, ?_⟩
   ·exact wp_move rfl (zc.kn.ev rfl) ⟨_, rfl, Below.refl _ _, optDef zβ rfl⟩
   refine ⟨⟨true, .none rfl, fun h w => optUndef h, fun zβ za zw zc => ?_⟩, ?_⟩
   ·exact neq_27 rfl ((evt za 27).trans (optVal (zc.dep 0 27 (by kernel_rfl)) rfl rfl)) (zc.kn.ev rfl) ⟨_, rfl, Below.refl _ _, optDef zβ rfl⟩
   refine ⟨⟨true, .none rfl, fun h w => optUndef h, fun zβ za zw zc => ?_⟩, ?_⟩
   ·exact wp_move rfl ((evt za 28).trans (optVal (zc.dep 1 28 (by kernel_rfl)) rfl rfl)) ⟨_, rfl, Below.refl _ _, optDef zβ rfl⟩
   refine ⟨⟨(true && !true), .no (c := true) (d := true) rfl (fun v w h => h), fun h w => optUndef h, fun zβ za zw zc => ?_⟩, ?_⟩
   ·simp at zβ
   refine ⟨⟨(true && !true), .no (c := true) (d := true) rfl (fun v w h => h), fun h w => optUndef h, fun zβ za zw zc => ?_⟩, ?_⟩
   ·simp at zβ
   refine ⟨⟨(true && !true), .no (c := true) (d := true) rfl (fun v w h => h), fun h w => optUndef h, fun zβ za zw zc => ?_⟩, ?_⟩
   ·simp at zβ
   refine ⟨⟨true, .none rfl, fun h w => optUndef h, fun zβ za zw zc => ?_⟩, ?_⟩
   ·exact wp_pickT rfl ((evt za 29).trans (optVal (zc.dep 2 29 (by kernel_rfl)) rfl rfl)) (zc.kn.ev rfl) ⟨_, rfl, Below.refl _ _, optDef zβ rfl⟩
   exact trivial
  ·intro za w323 zh hb324 zu
   have zh := zh.cons (d := 33) (v := .bool true) (optVal (zu 6 33 (by kernel_rfl)) rfl rfl)
   clear zu
   refine WE.go zh ?_
   refine WE.next ?_
   refine WC.condT rfl rfl ?_
   refine WC.seq (WC.region ?_)
   refine WL.call rfl rfl rfl (fun za zh zC => wp_call (by kernel_rfl) rfl (hv0)) (wakes_any _) ?_
   rintro _ w326 ⟨rfl, hq325⟩
   refine WL.asg rfl rfl rfl rfl rfl (WL.nil (WE.next (WC.ret (WE.thenRet (WE.ret1 rfl rfl ?_)))))
   have hb327 : Below w.heap.size w w326 := (bstep (bstep (bstep hb5 hq321) hb324) hq325)
   exact ⟨_, rfl, rfl, hb327⟩
end Go.Proofs.Ytbohlpfndiiimaa
