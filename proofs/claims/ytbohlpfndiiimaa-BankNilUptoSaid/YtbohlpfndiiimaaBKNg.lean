/- Arguments of a law, opened: signatures, rows of terms. -/
import Derived.Test.YtbohlpfndiiimaaBKNf
import Derived.Test.YtbohlpfndiiimaaBKNa
import Derived.WalkKit
import Derived.Test.YtbohlpfndiiimaaBKNb
import Derived.ProofKit
import Derived.JoinedCond
import Derived.OpenShut
import Derived.Test.YtbohlpfndiiimaaBKNd

/- What wakes the laws: the program. -/
namespace Go.Proofs.Ytbohlpfndiiimaa
open Go.RowKit Go
set_option linter.unusedVariables false
set_option linter.unusedSimpArgs false
/-- The signature of 'wakes'. -/
def smallSg : List Sy := [truth, ⟨⟨#[97]⟩, 0, false⟩, ⟨⟨#[102]⟩, 2, false⟩, ⟨⟨#[112]⟩, 1, true⟩]
theorem smallSg_ok : sigCheck smallSg = 0 := by decide +kernel
theorem smallSg_wf : ∀ x ∈ smallSg, I64 x.ar ∧ x.name.size ≤ maxLen := by
 intro x hx
 simp only [smallSg, List.mem_cons, List.not_mem_nil, or_false] at hx
 unfold I64 maxLen
 rcases hx with rfl | rfl | rfl | rfl <;> decide +kernel
set_option maxRecDepth 100000 in
theorem rtruth_any (w : World) : Calls Try.prog 51 #[] w (Ret fun v' w' => v' = .agg #[.string truth.name, .int .i64 truth.ar, .bool truth.pred] ∧ Below w.heap.size w w') := by
 refine Calls.walk (l := []) Try.func51 rfl (by kernel_rfl) ?_
 refine WC.sub (K' := []) trivial ?_
 refine WC.seq (WC.region ?_)
 refine WL.step (post := NewBlk w 66 #[.string (⟨#[]⟩), .int .i64 0, .bool false]) rfl rfl rfl (fun za zC zh zk => alloc_66 rfl (zk _ _ (newBlk _ _ _))) ?_
 rintro _ w1 ⟨g2, rfl, hg3, hB4, hb5, hz6⟩
 have hl7 : w.heap.size ≤ g2 := by omega
 refine WL.nil (WE.next (WC.seq (WC.region ?_)))
 refine WL.val (.agg #[.string ((⟨#[36, 116, 114, 117, 101]⟩ : ByteArray)), .int .i64 0, .bool true]) rfl rfl rfl (fun za zC zh zk => build_66_0_1_2 rfl (zh.ev rfl) (zh.ev rfl) (zh.ev rfl) zk) ?_
 refine WL.step (post := fun _ w' => Upd g2 w1 w' ∧ Blk w' g2 66 #[.string ((⟨#[36, 116, 114, 117, 101]⟩ : ByteArray)), .int .i64 0, .bool true]) rfl rfl rfl (fun za zC zh zk => st_66 rfl (zh.ev rfl) (zh.ev rfl) rfl rfl rfl hB4 (by first | decide | simp) (fun v => zk v _ ⟨((Upd.at_ _ _ _ _).trans (Upd.at_ _ _ _ _)).trans (Upd.at_ _ _ _ _), ((hB4.set_ 0 _).set_ 1 _).set_ 2 _⟩)) ?_
 rintro v11 w8 ⟨hu9, hB10⟩
 have hb12 := upd_below hb5 hu9 (by omega)
 refine WL.nil (WE.next (WC.ret ?_))
 refine WE.retAny (v := .agg #[.string ((⟨#[36, 116, 114, 117, 101]⟩ : ByteArray)), .int .i64 0, .bool true]) (fun za zh => ?_) ?_
 ·have z0 : za.tmps[0]?.getD undef = .pointer (some ⟨g2, 0, none⟩) := by rw [← Array.getD_eq_getD_getElem?]; exact zh.knows 0 _ rfl
  have y0 : w8.cell? ⟨g2, 0, none⟩ = some (.string ((⟨#[36, 116, 114, 117, 101]⟩ : ByteArray))) := ((hB10.cell 0).trans rfl)
  have y1 : w8.cell? ⟨g2, 1, none⟩ = some (.int .i64 0) := ((hB10.cell 1).trans rfl)
  have y2 : w8.cell? ⟨g2, 2, none⟩ = some (.bool true) := ((hB10.cell 2).trans rfl)
  simp [results, Try.results51, z0, y0, y1, y2, go_sem]
 ·exact ⟨_, rfl, rfl, hb12⟩
set_option maxRecDepth 100000 in
theorem small_any (w : World) : Calls Try.prog 28 #[] w (Ret fun v' w' => IsSig w' smallSg v' ∧ Below w.heap.size w w') := by
 refine Calls.walk (l := []) Try.func28 rfl (by kernel_rfl) ?_
 refine WC.sub (K' := []) trivial ?_
 refine WC.seq (WC.region ?_)
 refine WL.step (post := NewBlk w 24 #[.slice none 0 0]) rfl rfl rfl (fun za zC zh zk => alloc_24 rfl (zk _ _ (newBlk _ _ _))) ?_
 rintro _ w1 ⟨g2, rfl, hg3, hB4, hb5, hz6⟩
 have hl7 : w.heap.size ≤ g2 := by omega
 refine WL.nil (WE.next (WC.seq (WC.region ?_)))
 refine WL.call rfl rfl rfl (fun za zh zC => wp_call (by kernel_rfl) rfl (hv0)) (rtruth_any _) ?_
 rintro _ w9 ⟨rfl, hq8⟩
 refine WL.val (.agg #[.string ((⟨#[97]⟩ : ByteArray)), .int .i64 0, .bool false]) rfl rfl rfl (fun za zC zh zk => build_66_0 rfl (zh.ev rfl) zk) ?_
 refine WL.val (.agg #[.string ((⟨#[102]⟩ : ByteArray)), .int .i64 2, .bool false]) rfl rfl rfl (fun za zC zh zk => build_66_0_1 rfl (zh.ev rfl) (zh.ev rfl) zk) ?_
 refine WL.val (.agg #[.string ((⟨#[112]⟩ : ByteArray)), .int .i64 1, .bool true]) rfl rfl rfl (fun za zC zh zk => build_66_0_1_2 rfl (zh.ev rfl) (zh.ev rfl) (zh.ev rfl) zk) ?_
 refine WL.step (post := NewRow w9 66 #[.string truth.name, .int .i64 truth.ar, .bool truth.pred, .string ((⟨#[97]⟩ : ByteArray)), .int .i64 0, .bool false, .string ((⟨#[102]⟩ : ByteArray)), .int .i64 2, .bool false, .string ((⟨#[112]⟩ : ByteArray)), .int .i64 1, .bool true] 4) rfl rfl rfl (fun za zC zh zk => row_22_4 rfl (zh.ev rfl) (zh.ev rfl) (zh.ev rfl) (zh.ev rfl) (zk _ _ (newRow _ _ _ _))) ?_
 rintro _ w10 ⟨g11, rfl, hg12, hB13, hb14, hz15⟩
 have hl16 : g2 < g11 := by have z1 := hB4.lt; have z2 := (hq8).size; omega
 have hb17 : Below w.heap.size w w9 := (bstep hb5 hq8)
 have hl18 : w.heap.size ≤ g11 := by have z2 := (hb17).size; omega
 refine WL.val (.agg #[.slice ((some ⟨g11, 0, none⟩)) 4 4]) rfl rfl rfl (fun za zC zh zk => build_24_0 rfl (zh.ev rfl) zk) ?_
 have hb20 : Below w1.heap.size w1 w10 := (bstep hq8 hb14)
 have hB19 := hB4.below hb20
 refine WL.step (post := fun _ w' => Upd g2 w10 w' ∧ Blk w' g2 24 #[.slice ((some ⟨g11, 0, none⟩)) 4 4]) rfl rfl rfl (fun za zC zh zk => st_24 rfl (zh.ev rfl) (zh.ev rfl) rfl hB19 (by first | decide | simp) (fun v => zk v _ ⟨Upd.at_ _ _ _ _, hB19.set_ 0 _⟩)) ?_
 rintro v24 w21 ⟨hu22, hB23⟩
 have hb25 : Below w.heap.size w w10 := (bstep hb5 hb20)
 have hb26 := upd_below hb25 hu22 (by omega)
 have hB27 := upd_blk hB13 hu22 (by omega)
 refine WL.nil (WE.next (WC.ret ?_))
 refine WE.retAny (v := .agg #[.slice ((some ⟨g11, 0, none⟩)) 4 4]) (fun za zh => ?_) ?_
 ·have z0 : za.tmps[0]?.getD undef = .pointer (some ⟨g2, 0, none⟩) := by rw [← Array.getD_eq_getD_getElem?]; exact zh.knows 0 _ rfl
  have y0 : w21.cell? ⟨g2, 0, none⟩ = some (.slice ((some ⟨g11, 0, none⟩)) 4 4) := ((hB23.cell 0).trans rfl)
  simp [results, Try.results28, z0, y0, go_sem]
 ·have hO9 : World.ownsRow w21 0 66 3 (.slice (some ⟨g11, 0, none⟩) 4 4) 4 (syCells smallSg) := ⟨rfl, .inr ⟨g11, 4, (syCells smallSg).toArray, rfl, Nat.zero_le _, hB27, Nat.le_refl _, by unfold maxLen; omega, rfl, rfl⟩⟩
  obtain ⟨_, _, _, z⟩ := sys_of_own hO9 smallSg_wf
  exact ⟨_, rfl, ⟨_, 4, rfl, Nat.le_refl _, by unfold maxLen; omega, z⟩, hb26⟩
def wTA : T := .mk 1 []
def wTX : T := .mk (-1) []
def wT1 : T := .mk 2 [wTA, wTX]
def wT2 : T := .mk 2 [wTX, wTA]
def wN1 : List En := [⟨1, []⟩, ⟨-1, []⟩, ⟨2, [0, 1]⟩]
def wN2 : List En := [⟨1, []⟩, ⟨-1, []⟩, ⟨2, [0, 1]⟩, ⟨2, [1, 0]⟩]
theorem newS_any (w : World) (v : Value) (hs : IsSig w smallSg v) : Calls Try.prog 7 #[v] w (Ret fun v' w' => (∃ g : Nat, v' = .tuple #[.pointer (some ⟨g, 0, none⟩), .int .i64 0] ∧ BkSJ w' w.heap.size g smallSg [] (fun _ => False)) ∧ Below w.heap.size w w') := by
 refine Calls.mono (bNew_any smallSg w v (by decide) hs) (fun e w' hr => ?_)
 obtain ⟨v', rfl, h, hb⟩ := hr
 rcases h with ⟨h, _⟩ | ⟨_, g, h1, _, h2⟩
 ·exact absurd smallSg_ok h
 ·exact ⟨v', rfl, ⟨g, h1, _, h2, fun b q => q.1, fun b q => q.elim⟩, hb⟩
theorem newE_any (w : World) : Calls Try.prog 7 #[.agg #[.slice none 0 0]] w (Ret fun v' w' => v' = .tuple #[.pointer none, .int .i64 2] ∧ Below w.heap.size w w') := by
 refine Calls.mono (bNew_any [] w _ (by decide) ⟨none, 0, rfl, Nat.le_refl _, Nat.zero_le _, fun k hk => absurd hk (Nat.not_lt_zero _)⟩) (fun e w' hr => ?_)
 obtain ⟨v', rfl, h, hb⟩ := hr
 rcases h with ⟨_, h⟩ | ⟨h, _⟩
 ·exact ⟨v', rfl, h, hb⟩
 ·exact absurd h (by decide +kernel)
theorem putS1 {w : World} {B g : Nat} {X A : Nat → Prop} {v : Value} (hA : ∀ b, A b → (X b ∨ b < B) ∧ b < w.heap.size) (hin : InT A w wT1 v) (h : BkSJ w B g smallSg [] X) : Calls Try.prog 9 #[.pointer (some ⟨g, 0, none⟩), v] w (Ret fun v' w' => v' = .tuple #[.int .i64 2, .int .i64 0] ∧ PutTo w w' B g smallSg wN1 X) := by
 have z := jPut wT1 v A (by decide) (by decide +kernel) hA hin h
 rw [show bputV smallSg [] wT1 = 2 by decide +kernel, show chkI smallSg wT1 = 0 by decide +kernel, show bputI smallSg [] wT1 = wN1 by decide +kernel] at z
 exact z
theorem putS2 {w : World} {B g : Nat} {X A : Nat → Prop} {v : Value} (hA : ∀ b, A b → (X b ∨ b < B) ∧ b < w.heap.size) (hin : InT A w wTA v) (h : BkSJ w B g smallSg wN1 X) : Calls Try.prog 9 #[.pointer (some ⟨g, 0, none⟩), v] w (Ret fun v' w' => v' = .tuple #[.int .i64 0, .int .i64 0] ∧ PutTo w w' B g smallSg wN1 X) := by
 have z := jPut wTA v A (by decide) (by decide +kernel) hA hin h
 rw [show bputV smallSg wN1 wTA = 0 by decide +kernel, show chkI smallSg wTA = 0 by decide +kernel, show bputI smallSg wN1 wTA = wN1 by decide +kernel] at z
 exact z
theorem putS3 {w : World} {B g : Nat} {X A : Nat → Prop} {v : Value} (hA : ∀ b, A b → (X b ∨ b < B) ∧ b < w.heap.size) (hin : InT A w wT2 v) (h : BkSJ w B g smallSg wN1 X) : Calls Try.prog 9 #[.pointer (some ⟨g, 0, none⟩), v] w (Ret fun v' w' => v' = .tuple #[.int .i64 3, .int .i64 0] ∧ PutTo w w' B g smallSg wN2 X) := by
 have z := jPut wT2 v A (by decide) (by decide +kernel) hA hin h
 rw [show bputV smallSg wN1 wT2 = 3 by decide +kernel, show chkI smallSg wT2 = 0 by decide +kernel, show bputI smallSg wN1 wT2 = wN2 by decide +kernel] at z
 exact z
theorem inA {w : World} {S : Nat → Prop} : InT S w wTA (.agg #[.int .i64 1, .slice none 0 0]) := ⟨by unfold I64; omega, none, 0, rfl, Nat.le_refl _, by decide, trivial⟩
theorem in2 {w : World} {q : Nat} {x y : Int} (hx : I64 x) (hy : I64 y) (hB : Blk w q 35 #[.int .i64 x, .slice none 0 0, .int .i64 y, .slice none 0 0]) : InT (fun b => b = q) w (.mk 2 [.mk x [], .mk y []]) (.agg #[.int .i64 2, .slice (some ⟨q, 0, none⟩) 2 2]) := by
 have leaf : ∀ z : Int, I64 z → InT (fun b => b = q) w (.mk z []) (.agg #[.int .i64 z, .slice none 0 0]) := fun z hz => ⟨hz, none, 0, rfl, Nat.le_refl _, by decide, trivial⟩
 exact ⟨by unfold I64; omega, some ⟨q, 0, none⟩, 2, rfl, Nat.le_refl _, by decide, ⟨q, 0, _, _, rfl, rfl, (hB.cell 0).trans rfl, (hB.cell 1).trans rfl, leaf x hx⟩, ⟨q, 0, _, _, rfl, rfl, (hB.cell 2).trans rfl, (hB.cell 3).trans rfl, leaf y hy⟩, trivial⟩
set_option maxRecDepth 100000 in
theorem wakes_any (w : World) : Calls Try.prog 8 #[] w (Ret fun v' w' => v' = .bool true ∧ Below w.heap.size w w') := by
 refine Calls.walk (l := []) Try.func8 rfl (by kernel_rfl) ?_
 refine WC.sub (K' := []) trivial ?_
 refine WC.seq (WC.region (WL.asg rfl rfl rfl rfl rfl (WL.nil (WE.next (WC.seq (WC.region ?_))))))
 refine WL.call rfl rfl rfl (fun za zh zC => wp_call (by kernel_rfl) rfl (hv0)) (small_any _) ?_
 rintro vsm w1 ⟨hsm, hbsm⟩
 refine WL.call rfl rfl rfl (fun za zh zC => wp_call (by kernel_rfl) rfl (hv1 (zh.ev rfl))) (newS_any _ _ hsm) ?_
 rintro _ w5 ⟨⟨gk2, rfl, hk3⟩, hb4⟩
 have hBw6 : w.heap.size ≤ w1.heap.size := hbsm.size
 refine WL.mv rfl rfl rfl rfl rfl ?_
 refine WL.val (.pointer (some ⟨gk2, 0, none⟩)) rfl rfl rfl (fun za zC zh zk => ext2_0 rfl (zh.ev rfl) zk) ?_
 refine WL.val (.int .i64 0) rfl rfl rfl (fun za zC zh zk => ext2_1 rfl (zh.ev rfl) zk) ?_
 refine WL.asg rfl rfl rfl rfl rfl (WL.asg rfl rfl rfl rfl rfl (WL.nil (WE.next (WC.seq (WC.seq ?_)))))
 refine WC.opt [(true, .val (.int .i64 0)), (true, .val (.bool (((0 : Int) != (0 : Int))))), (true, .val (.bool (((0 : Int) != (0 : Int))))), ((true && !((0 : Int) != (0 : Int))), .val (.pointer (some ⟨gk2, 0, none⟩))), ((true && !((0 : Int) != (0 : Int))), .val (.bool false)), (true, .val (.bool ((((0 : Int) != (0 : Int)) || false))))] [(0, .bool false), (1, .pointer (some ⟨gk2, 0, none⟩)), (2, .int .i64 0)] ⟨rfl, rfl, rfl, trivial⟩ (by kernel_rfl) (by kernel_rfl) (by kernel_rfl) ?_ ?_
 ·refine ⟨⟨true, .none rfl, fun h w => optUndef h, fun zβ za zw zc => ?_⟩, ?_⟩
  ·exact wp_move rfl (zc.kn.ev rfl) ⟨_, rfl, Below.refl _ _, optDef zβ rfl⟩
  refine ⟨⟨true, .none rfl, fun h w => optUndef h, fun zβ za zw zc => ?_⟩, ?_⟩
  ·exact neq_27 rfl ((evt za 17).trans (optVal (zc.dep 0 17 (by kernel_rfl)) rfl rfl)) (zc.kn.ev rfl) ⟨_, rfl, Below.refl _ _, optDef zβ rfl⟩
  refine ⟨⟨true, .none rfl, fun h w => optUndef h, fun zβ za zw zc => ?_⟩, ?_⟩
  ·exact wp_move rfl ((evt za 18).trans (optVal (zc.dep 1 18 (by kernel_rfl)) rfl rfl)) ⟨_, rfl, Below.refl _ _, optDef zβ rfl⟩
  refine ⟨⟨_, .no (c := ((0 : Int) != (0 : Int))) (d := true) rfl (fun v w h => h), fun h w => optUndef h, fun zβ za zw zc => ?_⟩, ?_⟩
  ·exact wp_move rfl (zc.kn.ev rfl) ⟨_, rfl, Below.refl _ _, optDef zβ rfl⟩
  refine ⟨⟨_, .no (c := ((0 : Int) != (0 : Int))) (d := true) rfl (fun v w h => h), fun h w => optUndef h, fun zβ za zw zc => ?_⟩, ?_⟩
  ·exact eqlp_26 rfl ((evt za 20).trans (optVal (zc.dep 3 20 (by kernel_rfl)) rfl zβ)) (zc.kn.ev rfl) ⟨_, rfl, Below.refl _ _, optDef zβ rfl⟩
  refine ⟨⟨true, .none rfl, fun h w => optUndef h, fun zβ za zw zc => ?_⟩, ?_⟩
  ·exact wp_or rfl ((evt za 19).trans (optVal (zc.dep 2 19 (by kernel_rfl)) rfl rfl)) (fun hp => ((evt za 21).trans (optVal (zc.dep 4 21 (by kernel_rfl)) rfl (bMkN zβ hp)))) ⟨_, rfl, Below.refl _ _, optDef zβ rfl⟩
  exact trivial
 ·intro za w7 zh hb8 zu
  have zh := zh.cons (d := 22) (v := .bool ((((0 : Int) != (0 : Int)) || false))) (optVal (zu 5 22 (by kernel_rfl)) rfl rfl)
  clear zu
  refine WE.go zh ?_
  refine WE.next ?_
  refine WC.condF rfl (by simp) ?_
  refine WC.skip (WE.next (WC.seq (WC.region ?_)))
  refine WL.val (.agg #[.int .i64 1, .slice none 0 0]) rfl rfl rfl (fun za zC zh zk => build_35_0 rfl (zh.ev rfl) zk) ?_
  refine WL.val (.agg #[.int .i64 ((-1)), .slice none 0 0]) rfl rfl rfl (fun za zC zh zk => build_35_0 rfl (zh.ev rfl) zk) ?_
  refine WL.step (post := NewBlk w7 35 #[.int .i64 0, .slice none 0 0]) rfl rfl rfl (fun za zC zh zk => alloc_35 rfl (zk _ _ (newBlk _ _ _))) ?_
  rintro _ w9 ⟨g10, rfl, hg11, hB12, hb13, hz14⟩
  have hb15 : Below w.heap.size w w7 := (bstep (bstep hbsm hb4) hb8)
  have hl16 : w.heap.size ≤ g10 := by have z2 := (hb15).size; omega
  have hl17 : w5.heap.size ≤ g10 := by have z2 := (hb8).size; omega
  refine WL.step (post := NewBlk w9 35 #[.int .i64 0, .slice none 0 0]) rfl rfl rfl (fun za zC zh zk => alloc_35 rfl (zk _ _ (newBlk _ _ _))) ?_
  rintro _ w18 ⟨g19, rfl, hg20, hB21, hb22, hz23⟩
  have hl24 : g10 < g19 := by have z1 := hB12.lt; omega
  have hb25 : Below w.heap.size w w9 := (bstep hb15 hb13)
  have hl26 : w.heap.size ≤ g19 := by have z2 := (hb25).size; omega
  have hb27 : Below w5.heap.size w5 w9 := (bstep hb8 hb13)
  have hl28 : w5.heap.size ≤ g19 := by have z2 := (hb27).size; omega
  have hB29 := hB12.below hb22
  refine WL.step (post := fun _ w' => Upd g10 w18 w' ∧ Blk w' g10 35 #[.int .i64 1, .slice none 0 0]) rfl rfl rfl (fun za zC zh zk => st_35 rfl (zh.ev rfl) (zh.ev rfl) rfl rfl hB29 (by first | decide | simp) (fun v => zk v _ ⟨(Upd.at_ _ _ _ _).trans (Upd.at_ _ _ _ _), (hB29.set_ 0 _).set_ 1 _⟩)) ?_
  rintro v33 w30 ⟨hu31, hB32⟩
  have hb34 : Below w.heap.size w w18 := (bstep hb25 hb22)
  have hb35 : Below w5.heap.size w5 w18 := (bstep hb27 hb22)
  have hb36 := upd_below hb34 hu31 (by omega)
  have hb37 := upd_below hb35 hu31 (by omega)
  have hB38 := upd_blk hB21 hu31 (by omega)
  refine WL.step (post := fun _ w' => Upd g19 w30 w' ∧ Blk w' g19 35 #[.int .i64 ((-1)), .slice none 0 0]) rfl rfl rfl (fun za zC zh zk => st_35 rfl (zh.ev rfl) (zh.ev rfl) rfl rfl hB38 (by first | decide | simp) (fun v => zk v _ ⟨(Upd.at_ _ _ _ _).trans (Upd.at_ _ _ _ _), (hB38.set_ 0 _).set_ 1 _⟩)) ?_
  rintro v42 w39 ⟨hu40, hB41⟩
  have hb43 := upd_below hb36 hu40 (by omega)
  have hb44 := upd_below hb37 hu40 (by omega)
  have hB45 := upd_blk hB32 hu40 (by omega)
  refine WL.nil (WE.next (WC.seq (WC.region (WL.mv rfl rfl rfl rfl rfl ?_))))
  refine WL.val _ rfl rfl rfl (fun za zC zh zk => ld_35 rfl (zh.ev rfl) ((hB45.cell 0).trans rfl) ((hB45.cell 1).trans rfl) zk) ?_
  refine WL.val _ rfl rfl rfl (fun za zC zh zk => ld_35 rfl (zh.ev rfl) ((hB41.cell 0).trans rfl) ((hB41.cell 1).trans rfl) zk) ?_
  refine WL.step (post := NewRow w39 35 #[.int .i64 1, .slice none 0 0, .int .i64 ((-1)), .slice none 0 0] 2) rfl rfl rfl (fun za zC zh zk => row_25_2 rfl (zh.ev rfl) (zh.ev rfl) (zk _ _ (newRow _ _ _ _))) ?_
  rintro _ w46 ⟨g47, rfl, hg48, hB49, hb50, hz51⟩
  have hl52 : g10 < g47 := by have z1 := hB45.lt; omega
  have hl53 : g19 < g47 := by have z1 := hB41.lt; omega
  have hl54 : w.heap.size ≤ g47 := by have z2 := (hb43).size; omega
  have hl55 : w5.heap.size ≤ g47 := by have z2 := (hb44).size; omega
  refine WL.val (.agg #[.int .i64 2, .slice ((some ⟨g47, 0, none⟩)) 2 2]) rfl rfl rfl (fun za zC zh zk => build_35_0_1 rfl (zh.ev rfl) (zh.ev rfl) zk) ?_
  have hB57 := hB45.below hb50
  have hB58 := hB41.below hb50
  have hk56 : BkSJ w5 w1.heap.size gk2 smallSg [] (fun b => b = g10 ∨ b = g19 ∨ b = g47) := BkSJ.avoid hk3 (fun b q => by
   rcases q with rfl | rfl | rfl <;> first | (right; left; omega) | (left; refine ⟨.inl ?_, by omega⟩; simp))
  have hb59 : Below w5.heap.size w5 w46 := (bstep hb44 hb50)
  have hb64 : Below w.heap.size w w46 := (bstep hb43 hb50)
  have hl65 := hB57.lt
  have hl66 := hB58.lt
  have hl67 := hB49.lt
  refine WL.call rfl rfl rfl (fun za zh zC => wp_call (by kernel_rfl) rfl (hv2 (zh.ev rfl) (zh.ev rfl))) (putS1 (A := fun b => b = g47) (fun b e => ⟨.inl (by rw [show b = g47 from e]; simp), by rw [show b = g47 from e]; exact hB49.lt⟩) (in2 (by unfold I64; omega) (by unfold I64; omega) hB49) (BkSJ.below hk56 hb59)) ?_
  rintro _ w68 ⟨rfl, Y60, hY61, hc62, hk63⟩
  have hb69 := chg_below hb64 hc62 (fun b q => hY61 b (.inr (by omega)) (by have z := (hb64).size; omega))
  have hB70 := chg_blk hB57 hc62 (hY61 _ (.inl (by simp)) hl65)
  have hB71 := chg_blk hB58 hc62 (hY61 _ (.inl (by simp)) hl66)
  have hB72 := chg_blk hB49 hc62 (hY61 _ (.inl (by simp)) hl67)
  refine WL.mv rfl rfl rfl rfl rfl ?_
  refine WL.val (.int .i64 2) rfl rfl rfl (fun za zC zh zk => ext2_0 rfl (zh.ev rfl) zk) ?_
  refine WL.val (.int .i64 0) rfl rfl rfl (fun za zC zh zk => ext2_1 rfl (zh.ev rfl) zk) ?_
  refine WL.asg rfl rfl rfl rfl rfl (WL.asg rfl rfl rfl rfl rfl ?_)
  refine WL.nil (WE.sub (K' := [(0, .bool false), (1, .pointer (some ⟨gk2, 0, none⟩)), (2, .int .i64 0), (3, .pointer (some ⟨g10, 0, none⟩)), (4, .pointer (some ⟨g19, 0, none⟩)), (5, .int .i64 2), (22, .bool ((((0 : Int) != (0 : Int)) || false)))]) ⟨rfl, rfl, rfl, rfl, rfl, rfl, rfl, trivial⟩ ?_)
  refine WE.next (WC.seq (WC.region (WL.mv rfl rfl rfl rfl rfl ?_)))
  refine WL.val _ rfl rfl rfl (fun za zC zh zk => ld_35 rfl (zh.ev rfl) ((hB70.cell 0).trans rfl) ((hB70.cell 1).trans rfl) zk) ?_
  have hk73 : BkSJ w68 w1.heap.size gk2 smallSg wN1 (fun b => b = g10 ∨ b = g19) := BkSJ.avoid hk63 (fun b q => by
   rcases q with rfl | rfl <;> first | (right; left; omega) | (left; refine ⟨.inl ?_, by omega⟩; simp))
  have hl78 := hB70.lt
  have hl79 := hB71.lt
  refine WL.call rfl rfl rfl (fun za zh zC => wp_call (by kernel_rfl) rfl (hv2 (zh.ev rfl) (zh.ev rfl))) (putS2 (A := fun _ => False) (fun b q => q.elim) inA hk73) ?_
  rintro _ w80 ⟨rfl, Y74, hY75, hc76, hk77⟩
  have hb81 := chg_below hb69 hc76 (fun b q => hY75 b (.inr (by omega)) (by have z := (hb69).size; omega))
  have hB82 := chg_blk hB70 hc76 (hY75 _ (.inl (by simp)) hl78)
  have hB83 := chg_blk hB71 hc76 (hY75 _ (.inl (by simp)) hl79)
  refine WL.mv rfl rfl rfl rfl rfl ?_
  refine WL.val (.int .i64 0) rfl rfl rfl (fun za zC zh zk => ext2_0 rfl (zh.ev rfl) zk) ?_
  refine WL.val (.int .i64 0) rfl rfl rfl (fun za zC zh zk => ext2_1 rfl (zh.ev rfl) zk) ?_
  refine WL.asg rfl rfl rfl rfl rfl (WL.asg rfl rfl rfl rfl rfl (WL.nil (WE.next (WC.seq (WC.region (WL.mv rfl rfl rfl rfl rfl ?_))))))
  refine WL.val _ rfl rfl rfl (fun za zC zh zk => ld_35 rfl (zh.ev rfl) ((hB83.cell 0).trans rfl) ((hB83.cell 1).trans rfl) zk) ?_
  refine WL.val _ rfl rfl rfl (fun za zC zh zk => ld_35 rfl (zh.ev rfl) ((hB82.cell 0).trans rfl) ((hB82.cell 1).trans rfl) zk) ?_
  refine WL.step (post := NewRow w80 35 #[.int .i64 ((-1)), .slice none 0 0, .int .i64 1, .slice none 0 0] 2) rfl rfl rfl (fun za zC zh zk => row_25_2 rfl (zh.ev rfl) (zh.ev rfl) (zk _ _ (newRow _ _ _ _))) ?_
  rintro _ w84 ⟨g85, rfl, hg86, hB87, hb88, hz89⟩
  have hl90 : g10 < g85 := by have z1 := hB82.lt; omega
  have hl91 : g19 < g85 := by have z1 := hB83.lt; omega
  have hl92 : w.heap.size ≤ g85 := by have z2 := (hb81).size; omega
  have hl93 : w80.heap.size ≤ g85 := by omega
  refine WL.val (.agg #[.int .i64 2, .slice ((some ⟨g85, 0, none⟩)) 2 2]) rfl rfl rfl (fun za zC zh zk => build_35_0_1 rfl (zh.ev rfl) (zh.ev rfl) zk) ?_
  have hB95 := hB82.below hb88
  have hB96 := hB83.below hb88
  have hk94 : BkSJ w80 w1.heap.size gk2 smallSg wN1 (fun b => b = g10 ∨ b = g19 ∨ b = g85) := BkSJ.avoid hk77 (fun b q => by
   rcases q with rfl | rfl | rfl <;> first | (right; left; omega) | (left; refine ⟨.inl ?_, by omega⟩; simp))
  have hb101 : Below w.heap.size w w84 := (bstep hb81 hb88)
  have hl102 := hB95.lt
  have hl103 := hB96.lt
  have hl104 := hB87.lt
  refine WL.call rfl rfl rfl (fun za zh zC => wp_call (by kernel_rfl) rfl (hv2 (zh.ev rfl) (zh.ev rfl))) (putS3 (A := fun b => b = g85) (fun b e => ⟨.inl (by rw [show b = g85 from e]; simp), by rw [show b = g85 from e]; exact hB87.lt⟩) (in2 (by unfold I64; omega) (by unfold I64; omega) hB87) (BkSJ.below hk94 hb88)) ?_
  rintro _ w105 ⟨rfl, Y97, hY98, hc99, hk100⟩
  have hb106 := chg_below hb101 hc99 (fun b q => hY98 b (.inr (by omega)) (by have z := (hb101).size; omega))
  have hB107 := chg_blk hB95 hc99 (hY98 _ (.inl (by simp)) hl102)
  have hB108 := chg_blk hB96 hc99 (hY98 _ (.inl (by simp)) hl103)
  have hB109 := chg_blk hB87 hc99 (hY98 _ (.inl (by simp)) hl104)
  refine WL.mv rfl rfl rfl rfl rfl ?_
  refine WL.val (.int .i64 3) rfl rfl rfl (fun za zC zh zk => ext2_0 rfl (zh.ev rfl) zk) ?_
  refine WL.val (.int .i64 0) rfl rfl rfl (fun za zC zh zk => ext2_1 rfl (zh.ev rfl) zk) ?_
  refine WL.asg rfl rfl rfl rfl rfl (WL.asg rfl rfl rfl rfl rfl (WL.nil (WE.next (WC.seq (WC.region ?_)))))
  refine WL.val (.agg #[.slice none 0 0]) rfl rfl rfl (fun za zC zh zk => build_24_ rfl  zk) ?_
  refine WL.call rfl rfl rfl (fun za zh zC => wp_call (by kernel_rfl) rfl (hv1 (zh.ev rfl))) (newE_any _) ?_
  rintro _ w111 ⟨rfl, hq110⟩
  refine WL.mv rfl rfl rfl rfl rfl ?_
  refine WL.val (.pointer none) rfl rfl rfl (fun za zC zh zk => ext2_0 rfl (zh.ev rfl) zk) ?_
  refine WL.val (.int .i64 2) rfl rfl rfl (fun za zC zh zk => ext2_1 rfl (zh.ev rfl) zk) ?_
  refine WL.asg rfl rfl rfl rfl rfl (WL.asg rfl rfl rfl rfl rfl ?_)
  refine WL.nil (WE.sub (K' := [(0, .bool false), (1, .pointer (some ⟨gk2, 0, none⟩)), (2, .int .i64 0), (3, .pointer (some ⟨g10, 0, none⟩)), (4, .pointer (some ⟨g19, 0, none⟩)), (5, .int .i64 2), (6, .int .i64 0), (7, .int .i64 0), (8, .int .i64 3), (9, .int .i64 0), (11, .int .i64 2), (22, .bool ((((0 : Int) != (0 : Int)) || false)))]) ⟨rfl, rfl, rfl, rfl, rfl, rfl, rfl, rfl, rfl, rfl, rfl, rfl, trivial⟩ ?_)
  refine WE.next (WC.seq ?_)
  refine WC.opt [(true, .val (.int .i64 0)), (true, .val (.bool (((0 : Int) == (0 : Int))))), (true, .val (.bool (((0 : Int) == (0 : Int))))), ((true && ((0 : Int) == (0 : Int))), .val (.int .i64 2)), ((true && ((0 : Int) == (0 : Int))), .val (.bool (((2 : Int) == (2 : Int))))), (true, .val (.bool ((((0 : Int) == (0 : Int)) && ((2 : Int) == (2 : Int)))))), (true, .val (.bool ((((0 : Int) == (0 : Int)) && ((2 : Int) == (2 : Int)))))), ((true && (((0 : Int) == (0 : Int)) && ((2 : Int) == (2 : Int)))), .val (.int .i64 0)), ((true && (((0 : Int) == (0 : Int)) && ((2 : Int) == (2 : Int)))), .val (.bool (((0 : Int) == (0 : Int))))), (true, .val (.bool (((((0 : Int) == (0 : Int)) && ((2 : Int) == (2 : Int))) && ((0 : Int) == (0 : Int)))))), (true, .val (.bool (((((0 : Int) == (0 : Int)) && ((2 : Int) == (2 : Int))) && ((0 : Int) == (0 : Int)))))), ((true && ((((0 : Int) == (0 : Int)) && ((2 : Int) == (2 : Int))) && ((0 : Int) == (0 : Int)))), .val (.int .i64 0)), ((true && ((((0 : Int) == (0 : Int)) && ((2 : Int) == (2 : Int))) && ((0 : Int) == (0 : Int)))), .val (.bool (((0 : Int) == (0 : Int))))), (true, .val (.bool ((((((0 : Int) == (0 : Int)) && ((2 : Int) == (2 : Int))) && ((0 : Int) == (0 : Int))) && ((0 : Int) == (0 : Int)))))), (true, .val (.bool ((((((0 : Int) == (0 : Int)) && ((2 : Int) == (2 : Int))) && ((0 : Int) == (0 : Int))) && ((0 : Int) == (0 : Int)))))), ((true && (((((0 : Int) == (0 : Int)) && ((2 : Int) == (2 : Int))) && ((0 : Int) == (0 : Int))) && ((0 : Int) == (0 : Int)))), .val (.int .i64 0)), ((true && (((((0 : Int) == (0 : Int)) && ((2 : Int) == (2 : Int))) && ((0 : Int) == (0 : Int))) && ((0 : Int) == (0 : Int)))), .val (.bool (((0 : Int) == (0 : Int))))), (true, .val (.bool (((((((0 : Int) == (0 : Int)) && ((2 : Int) == (2 : Int))) && ((0 : Int) == (0 : Int))) && ((0 : Int) == (0 : Int))) && ((0 : Int) == (0 : Int)))))), (true, .val (.bool (((((((0 : Int) == (0 : Int)) && ((2 : Int) == (2 : Int))) && ((0 : Int) == (0 : Int))) && ((0 : Int) == (0 : Int))) && ((0 : Int) == (0 : Int)))))), ((true && ((((((0 : Int) == (0 : Int)) && ((2 : Int) == (2 : Int))) && ((0 : Int) == (0 : Int))) && ((0 : Int) == (0 : Int))) && ((0 : Int) == (0 : Int)))), .val (.int .i64 3)), ((true && ((((((0 : Int) == (0 : Int)) && ((2 : Int) == (2 : Int))) && ((0 : Int) == (0 : Int))) && ((0 : Int) == (0 : Int))) && ((0 : Int) == (0 : Int)))), .val (.bool (((3 : Int) == (3 : Int))))), (true, .val (.bool ((((((((0 : Int) == (0 : Int)) && ((2 : Int) == (2 : Int))) && ((0 : Int) == (0 : Int))) && ((0 : Int) == (0 : Int))) && ((0 : Int) == (0 : Int))) && ((3 : Int) == (3 : Int)))))), (true, .val (.bool ((((((((0 : Int) == (0 : Int)) && ((2 : Int) == (2 : Int))) && ((0 : Int) == (0 : Int))) && ((0 : Int) == (0 : Int))) && ((0 : Int) == (0 : Int))) && ((3 : Int) == (3 : Int)))))), ((true && (((((((0 : Int) == (0 : Int)) && ((2 : Int) == (2 : Int))) && ((0 : Int) == (0 : Int))) && ((0 : Int) == (0 : Int))) && ((0 : Int) == (0 : Int))) && ((3 : Int) == (3 : Int)))), .val (.pointer (some ⟨gk2, 0, none⟩))), ((true && (((((((0 : Int) == (0 : Int)) && ((2 : Int) == (2 : Int))) && ((0 : Int) == (0 : Int))) && ((0 : Int) == (0 : Int))) && ((0 : Int) == (0 : Int))) && ((3 : Int) == (3 : Int)))), .val (.int .i64 4)), ((true && (((((((0 : Int) == (0 : Int)) && ((2 : Int) == (2 : Int))) && ((0 : Int) == (0 : Int))) && ((0 : Int) == (0 : Int))) && ((0 : Int) == (0 : Int))) && ((3 : Int) == (3 : Int)))), .val (.bool (((4 : Int) == (4 : Int))))), (true, .val (.bool (((((((((0 : Int) == (0 : Int)) && ((2 : Int) == (2 : Int))) && ((0 : Int) == (0 : Int))) && ((0 : Int) == (0 : Int))) && ((0 : Int) == (0 : Int))) && ((3 : Int) == (3 : Int))) && ((4 : Int) == (4 : Int)))))), (true, .val (.bool (((((((((0 : Int) == (0 : Int)) && ((2 : Int) == (2 : Int))) && ((0 : Int) == (0 : Int))) && ((0 : Int) == (0 : Int))) && ((0 : Int) == (0 : Int))) && ((3 : Int) == (3 : Int))) && ((4 : Int) == (4 : Int)))))), ((true && ((((((((0 : Int) == (0 : Int)) && ((2 : Int) == (2 : Int))) && ((0 : Int) == (0 : Int))) && ((0 : Int) == (0 : Int))) && ((0 : Int) == (0 : Int))) && ((3 : Int) == (3 : Int))) && ((4 : Int) == (4 : Int)))), .val (.pointer (some ⟨gk2, 0, none⟩))), ((true && ((((((((0 : Int) == (0 : Int)) && ((2 : Int) == (2 : Int))) && ((0 : Int) == (0 : Int))) && ((0 : Int) == (0 : Int))) && ((0 : Int) == (0 : Int))) && ((3 : Int) == (3 : Int))) && ((4 : Int) == (4 : Int)))), .val (.int .i64 3)), ((true && ((((((((0 : Int) == (0 : Int)) && ((2 : Int) == (2 : Int))) && ((0 : Int) == (0 : Int))) && ((0 : Int) == (0 : Int))) && ((0 : Int) == (0 : Int))) && ((3 : Int) == (3 : Int))) && ((4 : Int) == (4 : Int)))), .val (.bool (((3 : Int) == (3 : Int))))), (true, .val (.bool ((((((((((0 : Int) == (0 : Int)) && ((2 : Int) == (2 : Int))) && ((0 : Int) == (0 : Int))) && ((0 : Int) == (0 : Int))) && ((0 : Int) == (0 : Int))) && ((3 : Int) == (3 : Int))) && ((4 : Int) == (4 : Int))) && ((3 : Int) == (3 : Int)))))), (true, .val (.bool ((((((((((0 : Int) == (0 : Int)) && ((2 : Int) == (2 : Int))) && ((0 : Int) == (0 : Int))) && ((0 : Int) == (0 : Int))) && ((0 : Int) == (0 : Int))) && ((3 : Int) == (3 : Int))) && ((4 : Int) == (4 : Int))) && ((3 : Int) == (3 : Int)))))), ((true && (((((((((0 : Int) == (0 : Int)) && ((2 : Int) == (2 : Int))) && ((0 : Int) == (0 : Int))) && ((0 : Int) == (0 : Int))) && ((0 : Int) == (0 : Int))) && ((3 : Int) == (3 : Int))) && ((4 : Int) == (4 : Int))) && ((3 : Int) == (3 : Int)))), .val (.pointer (some ⟨gk2, 0, none⟩))), ((true && (((((((((0 : Int) == (0 : Int)) && ((2 : Int) == (2 : Int))) && ((0 : Int) == (0 : Int))) && ((0 : Int) == (0 : Int))) && ((0 : Int) == (0 : Int))) && ((3 : Int) == (3 : Int))) && ((4 : Int) == (4 : Int))) && ((3 : Int) == (3 : Int)))), .val (.bool true)), (true, .val (.bool (((((((((((0 : Int) == (0 : Int)) && ((2 : Int) == (2 : Int))) && ((0 : Int) == (0 : Int))) && ((0 : Int) == (0 : Int))) && ((0 : Int) == (0 : Int))) && ((3 : Int) == (3 : Int))) && ((4 : Int) == (4 : Int))) && ((3 : Int) == (3 : Int))) && true)))), (true, .val (.bool (((((((((((0 : Int) == (0 : Int)) && ((2 : Int) == (2 : Int))) && ((0 : Int) == (0 : Int))) && ((0 : Int) == (0 : Int))) && ((0 : Int) == (0 : Int))) && ((3 : Int) == (3 : Int))) && ((4 : Int) == (4 : Int))) && ((3 : Int) == (3 : Int))) && true)))), ((true && ((((((((((0 : Int) == (0 : Int)) && ((2 : Int) == (2 : Int))) && ((0 : Int) == (0 : Int))) && ((0 : Int) == (0 : Int))) && ((0 : Int) == (0 : Int))) && ((3 : Int) == (3 : Int))) && ((4 : Int) == (4 : Int))) && ((3 : Int) == (3 : Int))) && true)), .val (.pointer (some ⟨gk2, 0, none⟩))), ((true && ((((((((((0 : Int) == (0 : Int)) && ((2 : Int) == (2 : Int))) && ((0 : Int) == (0 : Int))) && ((0 : Int) == (0 : Int))) && ((0 : Int) == (0 : Int))) && ((3 : Int) == (3 : Int))) && ((4 : Int) == (4 : Int))) && ((3 : Int) == (3 : Int))) && true)), .val (.bool false)), ((true && ((((((((((0 : Int) == (0 : Int)) && ((2 : Int) == (2 : Int))) && ((0 : Int) == (0 : Int))) && ((0 : Int) == (0 : Int))) && ((0 : Int) == (0 : Int))) && ((3 : Int) == (3 : Int))) && ((4 : Int) == (4 : Int))) && ((3 : Int) == (3 : Int))) && true)), .val (.bool ((!false)))), (true, .val (.bool ((((((((((((0 : Int) == (0 : Int)) && ((2 : Int) == (2 : Int))) && ((0 : Int) == (0 : Int))) && ((0 : Int) == (0 : Int))) && ((0 : Int) == (0 : Int))) && ((3 : Int) == (3 : Int))) && ((4 : Int) == (4 : Int))) && ((3 : Int) == (3 : Int))) && true) && (!false))))), (true, .val (.bool ((((((((((((0 : Int) == (0 : Int)) && ((2 : Int) == (2 : Int))) && ((0 : Int) == (0 : Int))) && ((0 : Int) == (0 : Int))) && ((0 : Int) == (0 : Int))) && ((3 : Int) == (3 : Int))) && ((4 : Int) == (4 : Int))) && ((3 : Int) == (3 : Int))) && true) && (!false))))), ((true && (((((((((((0 : Int) == (0 : Int)) && ((2 : Int) == (2 : Int))) && ((0 : Int) == (0 : Int))) && ((0 : Int) == (0 : Int))) && ((0 : Int) == (0 : Int))) && ((3 : Int) == (3 : Int))) && ((4 : Int) == (4 : Int))) && ((3 : Int) == (3 : Int))) && true) && (!false))), .val (.int .i64 2)), ((true && (((((((((((0 : Int) == (0 : Int)) && ((2 : Int) == (2 : Int))) && ((0 : Int) == (0 : Int))) && ((0 : Int) == (0 : Int))) && ((0 : Int) == (0 : Int))) && ((3 : Int) == (3 : Int))) && ((4 : Int) == (4 : Int))) && ((3 : Int) == (3 : Int))) && true) && (!false))), .val (.bool (((2 : Int) == (2 : Int))))), (true, .val (.bool (((((((((((((0 : Int) == (0 : Int)) && ((2 : Int) == (2 : Int))) && ((0 : Int) == (0 : Int))) && ((0 : Int) == (0 : Int))) && ((0 : Int) == (0 : Int))) && ((3 : Int) == (3 : Int))) && ((4 : Int) == (4 : Int))) && ((3 : Int) == (3 : Int))) && true) && (!false)) && ((2 : Int) == (2 : Int)))))), (true, .val (.bool (((((((((((((0 : Int) == (0 : Int)) && ((2 : Int) == (2 : Int))) && ((0 : Int) == (0 : Int))) && ((0 : Int) == (0 : Int))) && ((0 : Int) == (0 : Int))) && ((3 : Int) == (3 : Int))) && ((4 : Int) == (4 : Int))) && ((3 : Int) == (3 : Int))) && true) && (!false)) && ((2 : Int) == (2 : Int))))))] [(1, .pointer (some ⟨gk2, 0, none⟩)), (2, .int .i64 0), (3, .pointer (some ⟨g10, 0, none⟩)), (4, .pointer (some ⟨g19, 0, none⟩)), (5, .int .i64 2), (6, .int .i64 0), (7, .int .i64 0), (8, .int .i64 3), (9, .int .i64 0), (11, .int .i64 2), (22, .bool ((((0 : Int) != (0 : Int)) || false)))] ⟨rfl, rfl, rfl, rfl, rfl, rfl, rfl, rfl, rfl, rfl, rfl, trivial⟩ (by kernel_rfl) (by kernel_rfl) (by kernel_rfl) ?_ ?_
  ·refine ⟨⟨true, .none rfl, fun h w => optUndef h, fun zβ za zw zc => ?_⟩, ?_⟩
   ·exact wp_move rfl (zc.kn.ev rfl) ⟨_, rfl, Below.refl _ _, optDef zβ rfl⟩
   refine ⟨⟨true, .none rfl, fun h w => optUndef h, fun zβ za zw zc => ?_⟩, ?_⟩
   ·exact eql_27 rfl ((evt za 54).trans (optVal (zc.dep 0 54 (by kernel_rfl)) rfl rfl)) (zc.kn.ev rfl) ⟨_, rfl, Below.refl _ _, optDef zβ rfl⟩
   refine ⟨⟨true, .none rfl, fun h w => optUndef h, fun zβ za zw zc => ?_⟩, ?_⟩
   ·exact wp_move rfl ((evt za 55).trans (optVal (zc.dep 1 55 (by kernel_rfl)) rfl rfl)) ⟨_, rfl, Below.refl _ _, optDef zβ rfl⟩
   refine ⟨⟨_, .yes (c := ((0 : Int) == (0 : Int))) (d := true) rfl (fun v w h => h), fun h w => optUndef h, fun zβ za zw zc => ?_⟩, ?_⟩
   ·exact wp_move rfl (zc.kn.ev rfl) ⟨_, rfl, Below.refl _ _, optDef zβ rfl⟩
   refine ⟨⟨_, .yes (c := ((0 : Int) == (0 : Int))) (d := true) rfl (fun v w h => h), fun h w => optUndef h, fun zβ za zw zc => ?_⟩, ?_⟩
   ·exact eql_3 rfl ((evt za 57).trans (optVal (zc.dep 3 57 (by kernel_rfl)) rfl zβ)) (zc.kn.ev rfl) ⟨_, rfl, Below.refl _ _, optDef zβ rfl⟩
   refine ⟨⟨true, .none rfl, fun h w => optUndef h, fun zβ za zw zc => ?_⟩, ?_⟩
   ·exact wp_and rfl ((evt za 56).trans (optVal (zc.dep 2 56 (by kernel_rfl)) rfl rfl)) (fun hp => ((evt za 58).trans (optVal (zc.dep 4 58 (by kernel_rfl)) rfl (bMk zβ hp)))) ⟨_, rfl, Below.refl _ _, optDef zβ rfl⟩
   refine ⟨⟨true, .none rfl, fun h w => optUndef h, fun zβ za zw zc => ?_⟩, ?_⟩
   ·exact wp_move rfl ((evt za 59).trans (optVal (zc.dep 5 59 (by kernel_rfl)) rfl rfl)) ⟨_, rfl, Below.refl _ _, optDef zβ rfl⟩
   refine ⟨⟨_, .yes (c := (((0 : Int) == (0 : Int)) && ((2 : Int) == (2 : Int)))) (d := true) rfl (fun v w h => h), fun h w => optUndef h, fun zβ za zw zc => ?_⟩, ?_⟩
   ·exact wp_move rfl (zc.kn.ev rfl) ⟨_, rfl, Below.refl _ _, optDef zβ rfl⟩
   refine ⟨⟨_, .yes (c := (((0 : Int) == (0 : Int)) && ((2 : Int) == (2 : Int)))) (d := true) rfl (fun v w h => h), fun h w => optUndef h, fun zβ za zw zc => ?_⟩, ?_⟩
   ·exact eql_27 rfl ((evt za 61).trans (optVal (zc.dep 7 61 (by kernel_rfl)) rfl zβ)) (zc.kn.ev rfl) ⟨_, rfl, Below.refl _ _, optDef zβ rfl⟩
   refine ⟨⟨true, .none rfl, fun h w => optUndef h, fun zβ za zw zc => ?_⟩, ?_⟩
   ·exact wp_and rfl ((evt za 60).trans (optVal (zc.dep 6 60 (by kernel_rfl)) rfl rfl)) (fun hp => ((evt za 62).trans (optVal (zc.dep 8 62 (by kernel_rfl)) rfl (bMk zβ hp)))) ⟨_, rfl, Below.refl _ _, optDef zβ rfl⟩
   refine ⟨⟨true, .none rfl, fun h w => optUndef h, fun zβ za zw zc => ?_⟩, ?_⟩
   ·exact wp_move rfl ((evt za 63).trans (optVal (zc.dep 9 63 (by kernel_rfl)) rfl rfl)) ⟨_, rfl, Below.refl _ _, optDef zβ rfl⟩
   refine ⟨⟨_, .yes (c := ((((0 : Int) == (0 : Int)) && ((2 : Int) == (2 : Int))) && ((0 : Int) == (0 : Int)))) (d := true) rfl (fun v w h => h), fun h w => optUndef h, fun zβ za zw zc => ?_⟩, ?_⟩
   ·exact wp_move rfl (zc.kn.ev rfl) ⟨_, rfl, Below.refl _ _, optDef zβ rfl⟩
   refine ⟨⟨_, .yes (c := ((((0 : Int) == (0 : Int)) && ((2 : Int) == (2 : Int))) && ((0 : Int) == (0 : Int)))) (d := true) rfl (fun v w h => h), fun h w => optUndef h, fun zβ za zw zc => ?_⟩, ?_⟩
   ·exact eql_3 rfl ((evt za 65).trans (optVal (zc.dep 11 65 (by kernel_rfl)) rfl zβ)) (zc.kn.ev rfl) ⟨_, rfl, Below.refl _ _, optDef zβ rfl⟩
   refine ⟨⟨true, .none rfl, fun h w => optUndef h, fun zβ za zw zc => ?_⟩, ?_⟩
   ·exact wp_and rfl ((evt za 64).trans (optVal (zc.dep 10 64 (by kernel_rfl)) rfl rfl)) (fun hp => ((evt za 66).trans (optVal (zc.dep 12 66 (by kernel_rfl)) rfl (bMk zβ hp)))) ⟨_, rfl, Below.refl _ _, optDef zβ rfl⟩
   refine ⟨⟨true, .none rfl, fun h w => optUndef h, fun zβ za zw zc => ?_⟩, ?_⟩
   ·exact wp_move rfl ((evt za 67).trans (optVal (zc.dep 13 67 (by kernel_rfl)) rfl rfl)) ⟨_, rfl, Below.refl _ _, optDef zβ rfl⟩
   refine ⟨⟨_, .yes (c := (((((0 : Int) == (0 : Int)) && ((2 : Int) == (2 : Int))) && ((0 : Int) == (0 : Int))) && ((0 : Int) == (0 : Int)))) (d := true) rfl (fun v w h => h), fun h w => optUndef h, fun zβ za zw zc => ?_⟩, ?_⟩
   ·exact wp_move rfl (zc.kn.ev rfl) ⟨_, rfl, Below.refl _ _, optDef zβ rfl⟩
   refine ⟨⟨_, .yes (c := (((((0 : Int) == (0 : Int)) && ((2 : Int) == (2 : Int))) && ((0 : Int) == (0 : Int))) && ((0 : Int) == (0 : Int)))) (d := true) rfl (fun v w h => h), fun h w => optUndef h, fun zβ za zw zc => ?_⟩, ?_⟩
   ·exact eql_27 rfl ((evt za 69).trans (optVal (zc.dep 15 69 (by kernel_rfl)) rfl zβ)) (zc.kn.ev rfl) ⟨_, rfl, Below.refl _ _, optDef zβ rfl⟩
   refine ⟨⟨true, .none rfl, fun h w => optUndef h, fun zβ za zw zc => ?_⟩, ?_⟩
   ·exact wp_and rfl ((evt za 68).trans (optVal (zc.dep 14 68 (by kernel_rfl)) rfl rfl)) (fun hp => ((evt za 70).trans (optVal (zc.dep 16 70 (by kernel_rfl)) rfl (bMk zβ hp)))) ⟨_, rfl, Below.refl _ _, optDef zβ rfl⟩
   refine ⟨⟨true, .none rfl, fun h w => optUndef h, fun zβ za zw zc => ?_⟩, ?_⟩
   ·exact wp_move rfl ((evt za 71).trans (optVal (zc.dep 17 71 (by kernel_rfl)) rfl rfl)) ⟨_, rfl, Below.refl _ _, optDef zβ rfl⟩
   refine ⟨⟨_, .yes (c := ((((((0 : Int) == (0 : Int)) && ((2 : Int) == (2 : Int))) && ((0 : Int) == (0 : Int))) && ((0 : Int) == (0 : Int))) && ((0 : Int) == (0 : Int)))) (d := true) rfl (fun v w h => h), fun h w => optUndef h, fun zβ za zw zc => ?_⟩, ?_⟩
   ·exact wp_move rfl (zc.kn.ev rfl) ⟨_, rfl, Below.refl _ _, optDef zβ rfl⟩
   refine ⟨⟨_, .yes (c := ((((((0 : Int) == (0 : Int)) && ((2 : Int) == (2 : Int))) && ((0 : Int) == (0 : Int))) && ((0 : Int) == (0 : Int))) && ((0 : Int) == (0 : Int)))) (d := true) rfl (fun v w h => h), fun h w => optUndef h, fun zβ za zw zc => ?_⟩, ?_⟩
   ·exact eql_3 rfl ((evt za 73).trans (optVal (zc.dep 19 73 (by kernel_rfl)) rfl zβ)) (zc.kn.ev rfl) ⟨_, rfl, Below.refl _ _, optDef zβ rfl⟩
   refine ⟨⟨true, .none rfl, fun h w => optUndef h, fun zβ za zw zc => ?_⟩, ?_⟩
   ·exact wp_and rfl ((evt za 72).trans (optVal (zc.dep 18 72 (by kernel_rfl)) rfl rfl)) (fun hp => ((evt za 74).trans (optVal (zc.dep 20 74 (by kernel_rfl)) rfl (bMk zβ hp)))) ⟨_, rfl, Below.refl _ _, optDef zβ rfl⟩
   refine ⟨⟨true, .none rfl, fun h w => optUndef h, fun zβ za zw zc => ?_⟩, ?_⟩
   ·exact wp_move rfl ((evt za 75).trans (optVal (zc.dep 21 75 (by kernel_rfl)) rfl rfl)) ⟨_, rfl, Below.refl _ _, optDef zβ rfl⟩
   refine ⟨⟨_, .yes (c := (((((((0 : Int) == (0 : Int)) && ((2 : Int) == (2 : Int))) && ((0 : Int) == (0 : Int))) && ((0 : Int) == (0 : Int))) && ((0 : Int) == (0 : Int))) && ((3 : Int) == (3 : Int)))) (d := true) rfl (fun v w h => h), fun h w => optUndef h, fun zβ za zw zc => ?_⟩, ?_⟩
   ·exact wp_move rfl (zc.kn.ev rfl) ⟨_, rfl, Below.refl _ _, optDef zβ rfl⟩
   refine ⟨⟨_, .yes (c := (((((((0 : Int) == (0 : Int)) && ((2 : Int) == (2 : Int))) && ((0 : Int) == (0 : Int))) && ((0 : Int) == (0 : Int))) && ((0 : Int) == (0 : Int))) && ((3 : Int) == (3 : Int)))) (d := true) rfl (fun v w h => h), fun h w => optUndef h, fun zβ za zw zc => ?_⟩, ?_⟩
   ·exact wp_call (by kernel_rfl) rfl (hv1 ((evt za 77).trans (optVal (zc.dep 23 77 (by kernel_rfl)) rfl zβ))) (jLen (BkSJ.below hk100 (bstep hq110 zc.below))) (fun v w' h => ⟨v, rfl, h.2, optDef zβ h.1⟩)
   refine ⟨⟨_, .yes (c := (((((((0 : Int) == (0 : Int)) && ((2 : Int) == (2 : Int))) && ((0 : Int) == (0 : Int))) && ((0 : Int) == (0 : Int))) && ((0 : Int) == (0 : Int))) && ((3 : Int) == (3 : Int)))) (d := true) rfl (fun v w h => h), fun h w => optUndef h, fun zβ za zw zc => ?_⟩, ?_⟩
   ·exact eql_3 rfl ((evt za 78).trans (optVal (zc.dep 24 78 (by kernel_rfl)) rfl zβ)) (zc.kn.ev rfl) ⟨_, rfl, Below.refl _ _, optDef zβ rfl⟩
   refine ⟨⟨true, .none rfl, fun h w => optUndef h, fun zβ za zw zc => ?_⟩, ?_⟩
   ·exact wp_and rfl ((evt za 76).trans (optVal (zc.dep 22 76 (by kernel_rfl)) rfl rfl)) (fun hp => ((evt za 79).trans (optVal (zc.dep 25 79 (by kernel_rfl)) rfl (bMk zβ hp)))) ⟨_, rfl, Below.refl _ _, optDef zβ rfl⟩
   refine ⟨⟨true, .none rfl, fun h w => optUndef h, fun zβ za zw zc => ?_⟩, ?_⟩
   ·exact wp_move rfl ((evt za 80).trans (optVal (zc.dep 26 80 (by kernel_rfl)) rfl rfl)) ⟨_, rfl, Below.refl _ _, optDef zβ rfl⟩
   refine ⟨⟨_, .yes (c := ((((((((0 : Int) == (0 : Int)) && ((2 : Int) == (2 : Int))) && ((0 : Int) == (0 : Int))) && ((0 : Int) == (0 : Int))) && ((0 : Int) == (0 : Int))) && ((3 : Int) == (3 : Int))) && ((4 : Int) == (4 : Int)))) (d := true) rfl (fun v w h => h), fun h w => optUndef h, fun zβ za zw zc => ?_⟩, ?_⟩
   ·exact wp_move rfl (zc.kn.ev rfl) ⟨_, rfl, Below.refl _ _, optDef zβ rfl⟩
   refine ⟨⟨_, .yes (c := ((((((((0 : Int) == (0 : Int)) && ((2 : Int) == (2 : Int))) && ((0 : Int) == (0 : Int))) && ((0 : Int) == (0 : Int))) && ((0 : Int) == (0 : Int))) && ((3 : Int) == (3 : Int))) && ((4 : Int) == (4 : Int)))) (d := true) rfl (fun v w h => h), fun h w => optUndef h, fun zβ za zw zc => ?_⟩, ?_⟩
   ·exact wp_call (by kernel_rfl) rfl (hv2 ((evt za 82).trans (optVal (zc.dep 28 82 (by kernel_rfl)) rfl zβ)) (zc.kn.ev rfl)) (jSize 2 (by decide) (BkSJ.below hk100 (bstep hq110 zc.below))) (fun v w' h => ⟨v, rfl, h.2, optDef zβ h.1⟩)
   refine ⟨⟨_, .yes (c := ((((((((0 : Int) == (0 : Int)) && ((2 : Int) == (2 : Int))) && ((0 : Int) == (0 : Int))) && ((0 : Int) == (0 : Int))) && ((0 : Int) == (0 : Int))) && ((3 : Int) == (3 : Int))) && ((4 : Int) == (4 : Int)))) (d := true) rfl (fun v w h => h), fun h w => optUndef h, fun zβ za zw zc => ?_⟩, ?_⟩
   ·exact eql_3 rfl ((evt za 83).trans (optVal (zc.dep 29 83 (by kernel_rfl)) rfl zβ)) (zc.kn.ev rfl) ⟨_, rfl, Below.refl _ _, optDef zβ rfl⟩
   refine ⟨⟨true, .none rfl, fun h w => optUndef h, fun zβ za zw zc => ?_⟩, ?_⟩
   ·exact wp_and rfl ((evt za 81).trans (optVal (zc.dep 27 81 (by kernel_rfl)) rfl rfl)) (fun hp => ((evt za 84).trans (optVal (zc.dep 30 84 (by kernel_rfl)) rfl (bMk zβ hp)))) ⟨_, rfl, Below.refl _ _, optDef zβ rfl⟩
   refine ⟨⟨true, .none rfl, fun h w => optUndef h, fun zβ za zw zc => ?_⟩, ?_⟩
   ·exact wp_move rfl ((evt za 85).trans (optVal (zc.dep 31 85 (by kernel_rfl)) rfl rfl)) ⟨_, rfl, Below.refl _ _, optDef zβ rfl⟩
   refine ⟨⟨_, .yes (c := (((((((((0 : Int) == (0 : Int)) && ((2 : Int) == (2 : Int))) && ((0 : Int) == (0 : Int))) && ((0 : Int) == (0 : Int))) && ((0 : Int) == (0 : Int))) && ((3 : Int) == (3 : Int))) && ((4 : Int) == (4 : Int))) && ((3 : Int) == (3 : Int)))) (d := true) rfl (fun v w h => h), fun h w => optUndef h, fun zβ za zw zc => ?_⟩, ?_⟩
   ·exact wp_move rfl (zc.kn.ev rfl) ⟨_, rfl, Below.refl _ _, optDef zβ rfl⟩
   refine ⟨⟨_, .yes (c := (((((((((0 : Int) == (0 : Int)) && ((2 : Int) == (2 : Int))) && ((0 : Int) == (0 : Int))) && ((0 : Int) == (0 : Int))) && ((0 : Int) == (0 : Int))) && ((3 : Int) == (3 : Int))) && ((4 : Int) == (4 : Int))) && ((3 : Int) == (3 : Int)))) (d := true) rfl (fun v w h => h), fun h w => optUndef h, fun zβ za zw zc => ?_⟩, ?_⟩
   ·exact wp_call (by kernel_rfl) rfl (hv2 ((evt za 87).trans (optVal (zc.dep 33 87 (by kernel_rfl)) rfl zβ)) (zc.kn.ev rfl)) (jGround 0 (by decide) (BkSJ.below hk100 (bstep hq110 zc.below))) (fun v w' h => ⟨v, rfl, h.2, optDef zβ h.1⟩)
   refine ⟨⟨true, .none rfl, fun h w => optUndef h, fun zβ za zw zc => ?_⟩, ?_⟩
   ·exact wp_and rfl ((evt za 86).trans (optVal (zc.dep 32 86 (by kernel_rfl)) rfl rfl)) (fun hp => ((evt za 88).trans (optVal (zc.dep 34 88 (by kernel_rfl)) rfl (bMk zβ hp)))) ⟨_, rfl, Below.refl _ _, optDef zβ rfl⟩
   refine ⟨⟨true, .none rfl, fun h w => optUndef h, fun zβ za zw zc => ?_⟩, ?_⟩
   ·exact wp_move rfl ((evt za 89).trans (optVal (zc.dep 35 89 (by kernel_rfl)) rfl rfl)) ⟨_, rfl, Below.refl _ _, optDef zβ rfl⟩
   refine ⟨⟨_, .yes (c := ((((((((((0 : Int) == (0 : Int)) && ((2 : Int) == (2 : Int))) && ((0 : Int) == (0 : Int))) && ((0 : Int) == (0 : Int))) && ((0 : Int) == (0 : Int))) && ((3 : Int) == (3 : Int))) && ((4 : Int) == (4 : Int))) && ((3 : Int) == (3 : Int))) && true)) (d := true) rfl (fun v w h => h), fun h w => optUndef h, fun zβ za zw zc => ?_⟩, ?_⟩
   ·exact wp_move rfl (zc.kn.ev rfl) ⟨_, rfl, Below.refl _ _, optDef zβ rfl⟩
   refine ⟨⟨_, .yes (c := ((((((((((0 : Int) == (0 : Int)) && ((2 : Int) == (2 : Int))) && ((0 : Int) == (0 : Int))) && ((0 : Int) == (0 : Int))) && ((0 : Int) == (0 : Int))) && ((3 : Int) == (3 : Int))) && ((4 : Int) == (4 : Int))) && ((3 : Int) == (3 : Int))) && true)) (d := true) rfl (fun v w h => h), fun h w => optUndef h, fun zβ za zw zc => ?_⟩, ?_⟩
   ·exact wp_call (by kernel_rfl) rfl (hv2 ((evt za 91).trans (optVal (zc.dep 37 91 (by kernel_rfl)) rfl zβ)) (zc.kn.ev rfl)) (jGround 1 (by decide) (BkSJ.below hk100 (bstep hq110 zc.below))) (fun v w' h => ⟨v, rfl, h.2, optDef zβ h.1⟩)
   refine ⟨⟨_, .yes (c := ((((((((((0 : Int) == (0 : Int)) && ((2 : Int) == (2 : Int))) && ((0 : Int) == (0 : Int))) && ((0 : Int) == (0 : Int))) && ((0 : Int) == (0 : Int))) && ((3 : Int) == (3 : Int))) && ((4 : Int) == (4 : Int))) && ((3 : Int) == (3 : Int))) && true)) (d := true) rfl (fun v w h => h), fun h w => optUndef h, fun zβ za zw zc => ?_⟩, ?_⟩
   ·exact wp_not rfl ((evt za 92).trans (optVal (zc.dep 38 92 (by kernel_rfl)) rfl zβ)) ⟨_, rfl, Below.refl _ _, optDef zβ rfl⟩
   refine ⟨⟨true, .none rfl, fun h w => optUndef h, fun zβ za zw zc => ?_⟩, ?_⟩
   ·exact wp_and rfl ((evt za 90).trans (optVal (zc.dep 36 90 (by kernel_rfl)) rfl rfl)) (fun hp => ((evt za 93).trans (optVal (zc.dep 39 93 (by kernel_rfl)) rfl (bMk zβ hp)))) ⟨_, rfl, Below.refl _ _, optDef zβ rfl⟩
   refine ⟨⟨true, .none rfl, fun h w => optUndef h, fun zβ za zw zc => ?_⟩, ?_⟩
   ·exact wp_move rfl ((evt za 94).trans (optVal (zc.dep 40 94 (by kernel_rfl)) rfl rfl)) ⟨_, rfl, Below.refl _ _, optDef zβ rfl⟩
   refine ⟨⟨_, .yes (c := (((((((((((0 : Int) == (0 : Int)) && ((2 : Int) == (2 : Int))) && ((0 : Int) == (0 : Int))) && ((0 : Int) == (0 : Int))) && ((0 : Int) == (0 : Int))) && ((3 : Int) == (3 : Int))) && ((4 : Int) == (4 : Int))) && ((3 : Int) == (3 : Int))) && true) && (!false))) (d := true) rfl (fun v w h => h), fun h w => optUndef h, fun zβ za zw zc => ?_⟩, ?_⟩
   ·exact wp_move rfl (zc.kn.ev rfl) ⟨_, rfl, Below.refl _ _, optDef zβ rfl⟩
   refine ⟨⟨_, .yes (c := (((((((((((0 : Int) == (0 : Int)) && ((2 : Int) == (2 : Int))) && ((0 : Int) == (0 : Int))) && ((0 : Int) == (0 : Int))) && ((0 : Int) == (0 : Int))) && ((3 : Int) == (3 : Int))) && ((4 : Int) == (4 : Int))) && ((3 : Int) == (3 : Int))) && true) && (!false))) (d := true) rfl (fun v w h => h), fun h w => optUndef h, fun zβ za zw zc => ?_⟩, ?_⟩
   ·exact eql_27 rfl ((evt za 96).trans (optVal (zc.dep 42 96 (by kernel_rfl)) rfl zβ)) (zc.kn.ev rfl) ⟨_, rfl, Below.refl _ _, optDef zβ rfl⟩
   refine ⟨⟨true, .none rfl, fun h w => optUndef h, fun zβ za zw zc => ?_⟩, ?_⟩
   ·exact wp_and rfl ((evt za 95).trans (optVal (zc.dep 41 95 (by kernel_rfl)) rfl rfl)) (fun hp => ((evt za 97).trans (optVal (zc.dep 43 97 (by kernel_rfl)) rfl (bMk zβ hp)))) ⟨_, rfl, Below.refl _ _, optDef zβ rfl⟩
   refine ⟨⟨true, .none rfl, fun h w => optUndef h, fun zβ za zw zc => ?_⟩, ?_⟩
   ·exact wp_assign rfl ((evt za 98).trans (optVal (zc.dep 44 98 (by kernel_rfl)) rfl rfl)) ⟨_, rfl, Below.refl _ _, optDef zβ rfl⟩
   exact trivial
  ·intro za w112 zh hb113 zu
   have zh := zh.cons (d := 0) (v := .bool (((((((((((((0 : Int) == (0 : Int)) && ((2 : Int) == (2 : Int))) && ((0 : Int) == (0 : Int))) && ((0 : Int) == (0 : Int))) && ((0 : Int) == (0 : Int))) && ((3 : Int) == (3 : Int))) && ((4 : Int) == (4 : Int))) && ((3 : Int) == (3 : Int))) && true) && (!false)) && ((2 : Int) == (2 : Int))))) (optVal (zu 45 0 (by kernel_rfl)) rfl rfl)
   clear zu
   refine WE.go zh ?_
   refine WE.next (WC.ret (WE.ret1 rfl rfl ?_))
   have hb114 : Below w.heap.size w w112 := (bstep (bstep hb106 hq110) hb113)
   exact ⟨_, rfl, congrArg Value.bool (by simp), hb114⟩
end Go.Proofs.Ytbohlpfndiiimaa

/- Operations, one law a kind and type. -/
namespace Go.Proofs.Ytbohlpfndiiimaa
open Go.RowKit Go
set_option linter.unusedVariables false
set_option linter.unusedSimpArgs false
set_option maxRecDepth 100000
end Go.Proofs.Ytbohlpfndiiimaa

/- No bank answers the answers of no bank. -/
namespace Go.Proofs.Ytbohlpfndiiimaa
open Go.RowKit Go
set_option linter.unusedVariables false
set_option linter.unusedSimpArgs false
set_option maxRecDepth 100000 in
theorem ok_nil (w : World) : Calls Try.prog 29 #[.pointer none] w (Ret fun v' w' => v' = .bool false ∧ Below w.heap.size w w') := by
 refine Calls.walk (l := [.pointer none]) Try.func29 rfl (by kernel_rfl) ?_
 refine WC.sub (K' := [(0, .pointer none)]) ⟨rfl, trivial⟩ ?_
 refine WC.seq (WC.region (WL.asg rfl rfl rfl rfl rfl (WL.nil (WE.next (WC.seq (WC.region (WL.mv rfl rfl rfl rfl rfl ?_)))))))
 refine WL.val (.bool false) rfl rfl rfl (fun za zC zh zk => neqn_26 rfl (zh.ev rfl) (zh.ev rfl) zk) ?_
 refine WL.mv rfl rfl rfl rfl rfl ?_
 refine WL.skip (d := 5) rfl rfl rfl rfl rfl ?_
 refine WL.skip (d := 5) rfl rfl rfl rfl rfl ?_
 refine WL.skip (d := 5) rfl rfl rfl rfl rfl ?_
 refine WL.skip (d := 5) rfl rfl rfl rfl rfl ?_
 refine WL.skip (d := 5) rfl rfl rfl rfl rfl ?_
 refine WL.val (.bool false) rfl rfl rfl (fun za zC zh zk => wp_pickF rfl (zh.ev rfl) (zh.ev rfl) zk) ?_
 refine WL.asg rfl rfl rfl rfl rfl (WL.nil (WE.next (WC.ret (WE.ret1 rfl rfl ?_))))
 exact ⟨_, rfl, rfl, (Below.refl _ _)⟩
set_option maxRecDepth 100000 in
theorem has_nil (n : Int) (w : World) : Calls Try.prog 33 #[.pointer none, .int .i64 n] w (Ret fun v' w' => v' = .bool false ∧ Below w.heap.size w w') := by
 refine Calls.walk (l := [.pointer none, .int .i64 n]) Try.func33 rfl (by kernel_rfl) ?_
 refine WC.sub (K' := [(0, .pointer none), (1, .int .i64 n)]) ⟨rfl, rfl, trivial⟩ ?_
 refine WC.seq (WC.region (WL.asg rfl rfl rfl rfl rfl (WL.nil (WE.next (WC.seq ?_)))))
 refine WC.opt [(true, .val (.pointer none)), (true, .val (.bool false)), (true, .val (.bool false)), ((true && false), .val undef), ((true && false), .val undef), (true, .val (.bool false)), (true, .val (.bool false)), ((true && false), .val undef), ((true && false), .val undef), ((true && false), .val undef), ((true && false), .val undef), ((true && false), .val undef), ((true && false), .val undef), ((true && false), .val undef), (true, .val (.bool false)), (true, .val (.bool false))] [(0, .pointer none), (1, .int .i64 n)] ⟨rfl, rfl, trivial⟩ (by kernel_rfl) (by kernel_rfl) (by kernel_rfl) ?_ ?_
 ·refine ⟨⟨true, .none rfl, fun h w => optUndef h, fun zβ za zw zc => ?_⟩, ?_⟩
  ·exact wp_move rfl (zc.kn.ev rfl) ⟨_, rfl, Below.refl _ _, optDef zβ rfl⟩
  refine ⟨⟨true, .none rfl, fun h w => optUndef h, fun zβ za zw zc => ?_⟩, ?_⟩
  ·exact wp_call (by kernel_rfl) rfl (hv1 ((evt za 5).trans (optVal (zc.dep 0 5 (by kernel_rfl)) rfl rfl))) (ok_nil _) (fun v w' h => ⟨v, rfl, h.2, optDef zβ h.1⟩)
  refine ⟨⟨true, .none rfl, fun h w => optUndef h, fun zβ za zw zc => ?_⟩, ?_⟩
  ·exact wp_move rfl ((evt za 6).trans (optVal (zc.dep 1 6 (by kernel_rfl)) rfl rfl)) ⟨_, rfl, Below.refl _ _, optDef zβ rfl⟩
  refine ⟨⟨(true && false), .yes (c := false) (d := true) rfl (fun v w h => h), fun h w => optUndef h, fun zβ za zw zc => ?_⟩, ?_⟩
  ·simp at zβ
  refine ⟨⟨(true && false), .yes (c := false) (d := true) rfl (fun v w h => h), fun h w => optUndef h, fun zβ za zw zc => ?_⟩, ?_⟩
  ·simp at zβ
  refine ⟨⟨true, .none rfl, fun h w => optUndef h, fun zβ za zw zc => ?_⟩, ?_⟩
  ·exact wp_pickF rfl ((evt za 7).trans (optVal (zc.dep 2 7 (by kernel_rfl)) rfl rfl)) (zc.kn.ev rfl) ⟨_, rfl, Below.refl _ _, optDef zβ rfl⟩
  refine ⟨⟨true, .none rfl, fun h w => optUndef h, fun zβ za zw zc => ?_⟩, ?_⟩
  ·exact wp_move rfl ((evt za 10).trans (optVal (zc.dep 5 10 (by kernel_rfl)) rfl rfl)) ⟨_, rfl, Below.refl _ _, optDef zβ rfl⟩
  refine ⟨⟨(true && false), .yes (c := false) (d := true) rfl (fun v w h => h), fun h w => optUndef h, fun zβ za zw zc => ?_⟩, ?_⟩
  ·simp at zβ
  refine ⟨⟨(true && false), .yes (c := false) (d := true) rfl (fun v w h => h), fun h w => optUndef h, fun zβ za zw zc => ?_⟩, ?_⟩
  ·simp at zβ
  refine ⟨⟨(true && false), .yes (c := false) (d := true) rfl (fun v w h => h), fun h w => optUndef h, fun zβ za zw zc => ?_⟩, ?_⟩
  ·simp at zβ
  refine ⟨⟨(true && false), .yes (c := false) (d := true) rfl (fun v w h => h), fun h w => optUndef h, fun zβ za zw zc => ?_⟩, ?_⟩
  ·simp at zβ
  refine ⟨⟨(true && false), .yes (c := false) (d := true) rfl (fun v w h => h), fun h w => optUndef h, fun zβ za zw zc => ?_⟩, ?_⟩
  ·simp at zβ
  refine ⟨⟨(true && false), .yes (c := false) (d := true) rfl (fun v w h => h), fun h w => optUndef h, fun zβ za zw zc => ?_⟩, ?_⟩
  ·simp at zβ
  refine ⟨⟨(true && false), .yes (c := false) (d := true) rfl (fun v w h => h), fun h w => optUndef h, fun zβ za zw zc => ?_⟩, ?_⟩
  ·simp at zβ
  refine ⟨⟨true, .none rfl, fun h w => optUndef h, fun zβ za zw zc => ?_⟩, ?_⟩
  ·exact wp_pickF rfl ((evt za 11).trans (optVal (zc.dep 6 11 (by kernel_rfl)) rfl rfl)) (zc.kn.ev rfl) ⟨_, rfl, Below.refl _ _, optDef zβ rfl⟩
  refine ⟨⟨true, .none rfl, fun h w => optUndef h, fun zβ za zw zc => ?_⟩, ?_⟩
  ·exact wp_assign rfl ((evt za 19).trans (optVal (zc.dep 14 19 (by kernel_rfl)) rfl rfl)) ⟨_, rfl, Below.refl _ _, optDef zβ rfl⟩
  exact trivial
 ·intro za w1 zh hb2 zu
  have zh := zh.cons (d := 4) (v := .bool false) (optVal (zu 15 4 (by kernel_rfl)) rfl rfl)
  clear zu
  refine WE.go zh ?_
  refine WE.next (WC.ret (WE.ret1 rfl rfl ?_))
  exact ⟨_, rfl, rfl, hb2⟩
set_option maxRecDepth 100000 in
theorem len_nil (w : World) : Calls Try.prog 14 #[.pointer none] w (Ret fun v' w' => v' = .int .i64 0 ∧ Below w.heap.size w w') := by
 refine Calls.walk (l := [.pointer none]) Try.func14 rfl (by kernel_rfl) ?_
 refine WC.sub (K' := [(0, .pointer none)]) ⟨rfl, trivial⟩ ?_
 refine WC.seq (WC.region (WL.asg rfl rfl rfl rfl rfl (WL.nil (WE.next (WC.seq (WC.seq (WC.region (WL.mv rfl rfl rfl rfl rfl ?_))))))))
 refine WL.call rfl rfl rfl (fun za zh zC => wp_call (by kernel_rfl) rfl (hv1 (zh.ev rfl))) (ok_nil _) ?_
 rintro _ w2 ⟨rfl, hq1⟩
 refine WL.val (.bool true) rfl rfl rfl (fun za zC zh zk => wp_not rfl (zh.ev rfl) zk) ?_
 refine WL.nil (WE.next ?_)
 refine WC.condT rfl rfl ?_
 refine WC.seq (WC.region (WL.asg rfl rfl rfl rfl rfl (WL.nil (WE.next (WC.ret (WE.thenRet (WE.ret1 rfl rfl ?_)))))))
 exact ⟨_, rfl, rfl, hq1⟩
set_option maxRecDepth 100000 in
theorem put_nil (f : Int) (ta : Option Addr) (tn tc : Nat) (w : World) : Calls Try.prog 9 #[.pointer none, .agg #[.int .i64 f, .slice ta tn tc]] w (Ret fun v' w' => v' = .tuple #[.int .i64 0, .int .i64 1] ∧ Below w.heap.size w w') := by
 refine Calls.walk (l := [.pointer none, .agg #[.int .i64 f, .slice ta tn tc]]) Try.func9 rfl (by kernel_rfl) ?_
 refine WC.sub (K' := [(0, .pointer none), (1, .agg #[.int .i64 f, .slice ta tn tc])]) ⟨rfl, rfl, trivial⟩ ?_
 refine WC.seq (WC.region ?_)
 refine WL.step (post := NewBlk w 35 #[.int .i64 f, .slice ta tn tc]) rfl rfl rfl (fun za zC zh zk => box_35 rfl (zh.ev rfl) (zk _ _ (newBlk _ _ _))) ?_
 rintro _ w1 ⟨g2, rfl, hg3, hB4, hb5, hz6⟩
 have hl7 : w.heap.size ≤ g2 := by omega
 refine WL.asg rfl rfl rfl rfl rfl (WL.asg rfl rfl rfl rfl rfl (WL.nil (WE.next (WC.seq (WC.block (WC.seq (WC.region (WL.mv rfl rfl rfl rfl rfl ?_))))))))
 refine WL.call rfl rfl rfl (fun za zh zC => wp_call (by kernel_rfl) rfl (hv1 (zh.ev rfl))) (ok_nil _) ?_
 rintro _ w9 ⟨rfl, hq8⟩
 refine WL.val (.bool true) rfl rfl rfl (fun za zC zh zk => wp_not rfl (zh.ev rfl) zk) ?_
 refine WL.asg rfl rfl rfl rfl rfl (WL.nil (WE.next ?_))
 refine WC.condT rfl rfl ?_
 refine WC.seq (WC.region (WL.asg rfl rfl rfl rfl rfl (WL.asg rfl rfl rfl rfl rfl (WL.nil (WE.next (WC.ret (WE.blockRet (WE.thenRet (WE.ret2 rfl rfl rfl ?_)))))))))
 have hb10 : Below w.heap.size w w9 := (bstep hb5 hq8)
 exact ⟨_, rfl, rfl, hb10⟩
set_option maxRecDepth 100000 in
theorem get_nil (n : Int) (w : World) : Calls Try.prog 11 #[.pointer none, .int .i64 n] w (Ret fun v' w' => v' = .tuple #[.agg #[.int .i64 0, .slice none 0 0], .int .i64 1] ∧ Below w.heap.size w w') := by
 refine Calls.walk (l := [.pointer none, .int .i64 n]) Try.func11 rfl (by kernel_rfl) ?_
 refine WC.sub (K' := [(0, .pointer none), (1, .int .i64 n)]) ⟨rfl, rfl, trivial⟩ ?_
 refine WC.seq (WC.region ?_)
 refine WL.step (post := NewBlk w 35 #[.int .i64 0, .slice none 0 0]) rfl rfl rfl (fun za zC zh zk => alloc_35 rfl (zk _ _ (newBlk _ _ _))) ?_
 rintro _ w1 ⟨g2, rfl, hg3, hB4, hb5, hz6⟩
 have hl7 : w.heap.size ≤ g2 := by omega
 refine WL.asg rfl rfl rfl rfl rfl (WL.nil (WE.next (WC.seq (WC.block (WC.seq (WC.region (WL.mv rfl rfl rfl rfl rfl ?_)))))))
 refine WL.call rfl rfl rfl (fun za zh zC => wp_call (by kernel_rfl) rfl (hv1 (zh.ev rfl))) (ok_nil _) ?_
 rintro _ w9 ⟨rfl, hq8⟩
 refine WL.val (.bool true) rfl rfl rfl (fun za zC zh zk => wp_not rfl (zh.ev rfl) zk) ?_
 refine WL.asg rfl rfl rfl rfl rfl (WL.nil (WE.next ?_))
 refine WC.condT rfl rfl ?_
 refine WC.seq (WC.region ?_)
 refine WL.val (.agg #[.int .i64 0, .slice none 0 0]) rfl rfl rfl (fun za zC zh zk => build_35_ rfl  zk) ?_
 have hB10 := hB4.below hq8
 refine WL.step (post := fun _ w' => Upd g2 w9 w' ∧ Blk w' g2 35 #[.int .i64 0, .slice none 0 0]) rfl rfl rfl (fun za zC zh zk => st_35 rfl (zh.ev rfl) (zh.ev rfl) rfl rfl hB10 (by first | decide | simp) (fun v => zk v _ ⟨(Upd.at_ _ _ _ _).trans (Upd.at_ _ _ _ _), (hB10.set_ 0 _).set_ 1 _⟩)) ?_
 rintro v14 w11 ⟨hu12, hB13⟩
 have hb15 : Below w.heap.size w w9 := (bstep hb5 hq8)
 have hb16 := upd_below hb15 hu12 (by omega)
 refine WL.asg rfl rfl rfl rfl rfl (WL.nil (WE.next (WC.ret (WE.blockRet (WE.thenRet ?_)))))
 refine WE.retAny (v := .tuple #[.agg #[.int .i64 0, .slice none 0 0], .int .i64 1]) (fun za zh => ?_) ?_
 ·have z0 : za.tmps[4]?.getD undef = .pointer (some ⟨g2, 0, none⟩) := by rw [← Array.getD_eq_getD_getElem?]; exact zh.knows 4 _ rfl
  have y0_0 : w11.cell? ⟨g2, 0, none⟩ = some (.int .i64 0) := ((hB13.cell 0).trans rfl)
  have y0_1 : w11.cell? ⟨g2, 1, none⟩ = some (.slice none 0 0) := ((hB13.cell 1).trans rfl)
  have z1 : za.tmps[5]?.getD undef = .int .i64 1 := by rw [← Array.getD_eq_getD_getElem?]; exact zh.knows 5 _ rfl
  simp [results, Try.results11, z0, y0_0, y0_1, z1, go_sem]
 ·exact ⟨_, rfl, rfl, hb16⟩
set_option maxRecDepth 100000 in
theorem find_nil (f : Int) (ta : Option Addr) (tn tc : Nat) (w : World) : Calls Try.prog 12 #[.pointer none, .agg #[.int .i64 f, .slice ta tn tc]] w (Ret fun v' w' => v' = .tuple #[.int .i64 0, .bool false] ∧ Below w.heap.size w w') := by
 refine Calls.walk (l := [.pointer none, .agg #[.int .i64 f, .slice ta tn tc]]) Try.func12 rfl (by kernel_rfl) ?_
 refine WC.sub (K' := [(0, .pointer none), (1, .agg #[.int .i64 f, .slice ta tn tc])]) ⟨rfl, rfl, trivial⟩ ?_
 refine WC.seq (WC.region ?_)
 refine WL.step (post := NewBlk w 35 #[.int .i64 f, .slice ta tn tc]) rfl rfl rfl (fun za zC zh zk => box_35 rfl (zh.ev rfl) (zk _ _ (newBlk _ _ _))) ?_
 rintro _ w1 ⟨g2, rfl, hg3, hB4, hb5, hz6⟩
 have hl7 : w.heap.size ≤ g2 := by omega
 refine WL.asg rfl rfl rfl rfl rfl (WL.asg rfl rfl rfl rfl rfl (WL.nil (WE.next (WC.seq (WC.seq (WC.region (WL.mv rfl rfl rfl rfl rfl ?_)))))))
 refine WL.call rfl rfl rfl (fun za zh zC => wp_call (by kernel_rfl) rfl (hv1 (zh.ev rfl))) (ok_nil _) ?_
 rintro _ w9 ⟨rfl, hq8⟩
 refine WL.val (.bool true) rfl rfl rfl (fun za zC zh zk => wp_not rfl (zh.ev rfl) zk) ?_
 refine WL.nil (WE.next ?_)
 refine WC.condT rfl rfl ?_
 refine WC.seq (WC.region (WL.asg rfl rfl rfl rfl rfl (WL.asg rfl rfl rfl rfl rfl (WL.nil (WE.next (WC.ret (WE.thenRet (WE.ret2 rfl rfl rfl ?_))))))))
 have hb10 : Below w.heap.size w w9 := (bstep hb5 hq8)
 exact ⟨_, rfl, rfl, hb10⟩
set_option maxRecDepth 100000 in
theorem args_nil (n : Int) (w : World) : Calls Try.prog 13 #[.pointer none, .int .i64 n] w (Ret fun v' w' => v' = .slice none 0 0 ∧ Below w.heap.size w w') := by
 refine Calls.walk (l := [.pointer none, .int .i64 n]) Try.func13 rfl (by kernel_rfl) ?_
 refine WC.sub (K' := [(0, .pointer none), (1, .int .i64 n)]) ⟨rfl, rfl, trivial⟩ ?_
 refine WC.seq (WC.region (WL.asg rfl rfl rfl rfl rfl (WL.nil (WE.next (WC.seq (WC.seq (WC.region (WL.mv rfl rfl rfl rfl rfl (WL.mv rfl rfl rfl rfl rfl ?_)))))))))
 refine WL.call rfl rfl rfl (fun za zh zC => wp_call (by kernel_rfl) rfl (hv2 (zh.ev rfl) (zh.ev rfl))) (has_nil n _) ?_
 rintro _ w2 ⟨rfl, hq1⟩
 refine WL.val (.bool true) rfl rfl rfl (fun za zC zh zk => wp_not rfl (zh.ev rfl) zk) ?_
 refine WL.nil (WE.next ?_)
 refine WC.condT rfl rfl ?_
 refine WC.seq (WC.region (WL.asg rfl rfl rfl rfl rfl (WL.nil (WE.next (WC.ret (WE.thenRet (WE.ret1 rfl rfl ?_)))))))
 exact ⟨_, rfl, rfl, hq1⟩
set_option maxRecDepth 100000 in
theorem size_nil (n : Int) (w : World) : Calls Try.prog 15 #[.pointer none, .int .i64 n] w (Ret fun v' w' => v' = .int .i64 0 ∧ Below w.heap.size w w') := by
 refine Calls.walk (l := [.pointer none, .int .i64 n]) Try.func15 rfl (by kernel_rfl) ?_
 refine WC.sub (K' := [(0, .pointer none), (1, .int .i64 n)]) ⟨rfl, rfl, trivial⟩ ?_
 refine WC.seq (WC.region (WL.asg rfl rfl rfl rfl rfl (WL.nil (WE.next (WC.seq (WC.seq (WC.region (WL.mv rfl rfl rfl rfl rfl (WL.mv rfl rfl rfl rfl rfl ?_)))))))))
 refine WL.call rfl rfl rfl (fun za zh zC => wp_call (by kernel_rfl) rfl (hv2 (zh.ev rfl) (zh.ev rfl))) (has_nil n _) ?_
 rintro _ w2 ⟨rfl, hq1⟩
 refine WL.val (.bool true) rfl rfl rfl (fun za zC zh zk => wp_not rfl (zh.ev rfl) zk) ?_
 refine WL.nil (WE.next ?_)
 refine WC.condT rfl rfl ?_
 refine WC.seq (WC.region (WL.asg rfl rfl rfl rfl rfl (WL.nil (WE.next (WC.ret (WE.thenRet (WE.ret1 rfl rfl ?_)))))))
 exact ⟨_, rfl, rfl, hq1⟩
set_option maxRecDepth 100000 in
theorem ground_nil (n : Int) (w : World) : Calls Try.prog 16 #[.pointer none, .int .i64 n] w (Ret fun v' w' => v' = .bool false ∧ Below w.heap.size w w') := by
 refine Calls.walk (l := [.pointer none, .int .i64 n]) Try.func16 rfl (by kernel_rfl) ?_
 refine WC.sub (K' := [(0, .pointer none), (1, .int .i64 n)]) ⟨rfl, rfl, trivial⟩ ?_
 refine WC.seq (WC.region (WL.asg rfl rfl rfl rfl rfl (WL.nil (WE.next (WC.seq ?_)))))
 refine WC.opt [(true, .val (.pointer none)), (true, .val (.int .i64 n)), (true, .val (.bool false)), (true, .val (.bool false)), ((true && false), .val undef), ((true && false), .val undef), ((true && false), .val undef), ((true && false), .val undef), ((true && false), .val undef), ((true && false), .val undef), ((true && false), .val undef), ((true && false), .val undef), ((true && false), .val undef), (true, .val (.bool false)), (true, .val (.bool false))] [(0, .pointer none), (1, .int .i64 n)] ⟨rfl, rfl, trivial⟩ (by kernel_rfl) (by kernel_rfl) (by kernel_rfl) ?_ ?_
 ·refine ⟨⟨true, .none rfl, fun h w => optUndef h, fun zβ za zw zc => ?_⟩, ?_⟩
  ·exact wp_move rfl (zc.kn.ev rfl) ⟨_, rfl, Below.refl _ _, optDef zβ rfl⟩
  refine ⟨⟨true, .none rfl, fun h w => optUndef h, fun zβ za zw zc => ?_⟩, ?_⟩
  ·exact wp_move rfl (zc.kn.ev rfl) ⟨_, rfl, Below.refl _ _, optDef zβ rfl⟩
  refine ⟨⟨true, .none rfl, fun h w => optUndef h, fun zβ za zw zc => ?_⟩, ?_⟩
  ·exact wp_call (by kernel_rfl) rfl (hv2 ((evt za 5).trans (optVal (zc.dep 0 5 (by kernel_rfl)) rfl rfl)) ((evt za 6).trans (optVal (zc.dep 1 6 (by kernel_rfl)) rfl rfl))) (has_nil n _) (fun v w' h => ⟨v, rfl, h.2, optDef zβ h.1⟩)
  refine ⟨⟨true, .none rfl, fun h w => optUndef h, fun zβ za zw zc => ?_⟩, ?_⟩
  ·exact wp_move rfl ((evt za 7).trans (optVal (zc.dep 2 7 (by kernel_rfl)) rfl rfl)) ⟨_, rfl, Below.refl _ _, optDef zβ rfl⟩
  refine ⟨⟨(true && false), .yes (c := false) (d := true) rfl (fun v w h => h), fun h w => optUndef h, fun zβ za zw zc => ?_⟩, ?_⟩
  ·simp at zβ
  refine ⟨⟨(true && false), .yes (c := false) (d := true) rfl (fun v w h => h), fun h w => optUndef h, fun zβ za zw zc => ?_⟩, ?_⟩
  ·simp at zβ
  refine ⟨⟨(true && false), .yes (c := false) (d := true) rfl (fun v w h => h), fun h w => optUndef h, fun zβ za zw zc => ?_⟩, ?_⟩
  ·simp at zβ
  refine ⟨⟨(true && false), .yes (c := false) (d := true) rfl (fun v w h => h), fun h w => optUndef h, fun zβ za zw zc => ?_⟩, ?_⟩
  ·simp at zβ
  refine ⟨⟨(true && false), .yes (c := false) (d := true) rfl (fun v w h => h), fun h w => optUndef h, fun zβ za zw zc => ?_⟩, ?_⟩
  ·simp at zβ
  refine ⟨⟨(true && false), .yes (c := false) (d := true) rfl (fun v w h => h), fun h w => optUndef h, fun zβ za zw zc => ?_⟩, ?_⟩
  ·simp at zβ
  refine ⟨⟨(true && false), .yes (c := false) (d := true) rfl (fun v w h => h), fun h w => optUndef h, fun zβ za zw zc => ?_⟩, ?_⟩
  ·simp at zβ
  refine ⟨⟨(true && false), .yes (c := false) (d := true) rfl (fun v w h => h), fun h w => optUndef h, fun zβ za zw zc => ?_⟩, ?_⟩
  ·simp at zβ
  refine ⟨⟨(true && false), .yes (c := false) (d := true) rfl (fun v w h => h), fun h w => optUndef h, fun zβ za zw zc => ?_⟩, ?_⟩
  ·simp at zβ
  refine ⟨⟨true, .none rfl, fun h w => optUndef h, fun zβ za zw zc => ?_⟩, ?_⟩
  ·exact wp_pickF rfl ((evt za 8).trans (optVal (zc.dep 3 8 (by kernel_rfl)) rfl rfl)) (zc.kn.ev rfl) ⟨_, rfl, Below.refl _ _, optDef zβ rfl⟩
  refine ⟨⟨true, .none rfl, fun h w => optUndef h, fun zβ za zw zc => ?_⟩, ?_⟩
  ·exact wp_assign rfl ((evt za 18).trans (optVal (zc.dep 13 18 (by kernel_rfl)) rfl rfl)) ⟨_, rfl, Below.refl _ _, optDef zβ rfl⟩
  exact trivial
 ·intro za w1 zh hb2 zu
  have zh := zh.cons (d := 4) (v := .bool false) (optVal (zu 14 4 (by kernel_rfl)) rfl rfl)
  clear zu
  refine WE.go zh ?_
  refine WE.next (WC.ret (WE.ret1 rfl rfl ?_))
  exact ⟨_, rfl, rfl, hb2⟩
set_option maxRecDepth 100000 in
theorem replace_nil (n m : Int) (pa : Option Addr) (pn pc : Nat) (w : World) : Calls Try.prog 24 #[.pointer none, .int .i64 n, .slice pa pn pc, .int .i64 m] w (Ret fun v' w' => v' = .tuple #[.int .i64 0, .int .i64 1] ∧ Below w.heap.size w w') := by
 refine Calls.walk (l := [.pointer none, .int .i64 n, .slice pa pn pc, .int .i64 m]) Try.func24 rfl (by kernel_rfl) ?_
 refine WC.sub (K' := [(0, .pointer none), (1, .int .i64 n), (2, .slice pa pn pc), (3, .int .i64 m)]) ⟨rfl, rfl, rfl, rfl, trivial⟩ ?_
 refine WC.seq (WC.region (WL.asg rfl rfl rfl rfl rfl (WL.asg rfl rfl rfl rfl rfl (WL.nil (WE.next (WC.seq (WC.block (WC.seq (WC.region (WL.mv rfl rfl rfl rfl rfl ?_))))))))))
 refine WL.call rfl rfl rfl (fun za zh zC => wp_call (by kernel_rfl) rfl (hv1 (zh.ev rfl))) (ok_nil _) ?_
 rintro _ w2 ⟨rfl, hq1⟩
 refine WL.val (.bool true) rfl rfl rfl (fun za zC zh zk => wp_not rfl (zh.ev rfl) zk) ?_
 refine WL.asg rfl rfl rfl rfl rfl (WL.nil (WE.next ?_))
 refine WC.condT rfl rfl ?_
 refine WC.seq (WC.region (WL.asg rfl rfl rfl rfl rfl (WL.asg rfl rfl rfl rfl rfl (WL.nil (WE.next (WC.ret (WE.blockRet (WE.thenRet (WE.ret2 rfl rfl rfl ?_)))))))))
 exact ⟨_, rfl, rfl, hq1⟩
set_option maxRecDepth 100000 in
theorem users0_nil (n : Int) (w : World) : Calls Try.prog 37 #[.pointer none, .int .i64 n] w (Ret fun v' w' => (∃ gl, v' = .func (.func 57) #[] #[.pointer (some ⟨gl, 0, none⟩)] ∧ w.heap.size ≤ gl ∧ Blk w' gl 31 #[.slice none 0 0]) ∧ Below w.heap.size w w') := by
 refine Calls.walk (l := [.pointer none, .int .i64 n]) Try.func37 rfl (by kernel_rfl) ?_
 refine WC.sub (K' := [(0, .pointer none), (1, .int .i64 n)]) ⟨rfl, rfl, trivial⟩ ?_
 refine WC.seq (WC.region (WL.asg rfl rfl rfl rfl rfl (WL.nil (WE.next (WC.seq (WC.region ?_))))))
 refine WL.step (post := NewBlk w 31 #[.slice none 0 0]) rfl rfl rfl (fun za zC zh zk => alloc_31 rfl (zk _ _ (newBlk _ _ _))) ?_
 rintro _ w1 ⟨g2, rfl, hg3, hB4, hb5, hz6⟩
 have hl7 : w.heap.size ≤ g2 := by omega
 refine WL.nil (WE.next (WC.seq (WC.seq (WC.region (WL.mv rfl rfl rfl rfl rfl (WL.mv rfl rfl rfl rfl rfl ?_))))))
 refine WL.call rfl rfl rfl (fun za zh zC => wp_call (by kernel_rfl) rfl (hv2 (zh.ev rfl) (zh.ev rfl))) (has_nil n _) ?_
 rintro _ w9 ⟨rfl, hq8⟩
 refine WL.nil (WE.next ?_)
 refine WC.condF rfl rfl ?_
 refine WC.skip (WE.next (WC.seq (WC.region ?_)))
 refine WL.val (.func (Fn.func 57) #[] #[.pointer (some ⟨g2, 0, none⟩)]) rfl rfl rfl (fun za zC zh zk => mkfn rfl (hv0) (hv1 (zh.ev rfl)) zk) ?_
 refine WL.asg rfl rfl rfl rfl rfl (WL.nil (WE.next (WC.ret (WE.ret1 rfl rfl ?_))))
 have hB10 := hB4.below hq8
 have hb11 : Below w.heap.size w w9 := (bstep hb5 hq8)
 exact ⟨_, rfl, ⟨g2, rfl, by omega, hB10⟩, hb11⟩
set_option maxRecDepth 100000 in
theorem users_nil (n leave : Int) (w : World) : Calls Try.prog 17 #[.pointer none, .int .i64 n, .int .i64 leave] w (Ret fun v' w' => v' = .slice none 0 0 ∧ Below w.heap.size w w') := by
 refine Calls.walk (l := [.pointer none, .int .i64 n, .int .i64 leave]) Try.func17 rfl (by kernel_rfl) ?_
 refine WC.sub (K' := [(0, .pointer none), (1, .int .i64 n), (2, .int .i64 leave)]) ⟨rfl, rfl, rfl, trivial⟩ ?_
 refine WC.seq (WC.region ?_)
 refine WL.step (post := NewBlk w 3 #[.int .i64 leave]) rfl rfl rfl (fun za zC zh zk => box_3 rfl (zh.ev rfl) (zk _ _ (newBlk _ _ _))) ?_
 rintro _ w1 ⟨g2, rfl, hg3, hB4, hb5, hz6⟩
 have hl7 : w.heap.size ≤ g2 := by omega
 refine WL.asg rfl rfl rfl rfl rfl (WL.nil (WE.next (WC.seq (WC.region ?_))))
 refine WL.step (post := NewBlk w1 31 #[.slice none 0 0]) rfl rfl rfl (fun za zC zh zk => alloc_31 rfl (zk _ _ (newBlk _ _ _))) ?_
 rintro _ w8 ⟨g9, rfl, hg10, hB11, hb12, hz13⟩
 have hl14 : g2 < g9 := by have z1 := hB4.lt; omega
 have hl15 : w.heap.size ≤ g9 := by have z2 := (hb5).size; omega
 refine WL.nil (WE.next (WC.seq (WC.region (WL.mv rfl rfl rfl rfl rfl (WL.mv rfl rfl rfl rfl rfl ?_)))))
 have hB20 := hB4.below hb12
 have hl21 := hB20.lt
 have hl22 := hB11.lt
 refine WL.call rfl rfl rfl (fun za zh zC => wp_call (by kernel_rfl) rfl (hv2 (zh.ev rfl) (zh.ev rfl))) (users0_nil n _) ?_
 rintro _ w23 ⟨⟨gl16, rfl, hg18, hB17⟩, hb19⟩
 have hIT : UIt w23 w8.heap.size w23.heap.size gl16 [] none 0 := ⟨⟨hg18, hB17.lt⟩, Nat.le_refl _, hB17, InRow.nil⟩
 have hsz12 : w8.heap.size ≤ w23.heap.size := (hb19).size
 refine WL.asg rfl rfl rfl rfl rfl (WL.nil (WE.next (WC.seq (WC.seq (WC.region (WL.mv rfl rfl rfl rfl rfl ?_))))))
 refine WL.val (.bool false) rfl rfl rfl (fun za zC zh zk => eqlfn_85 rfl (zh.ev rfl) (zh.ev rfl) zk) ?_
 refine WL.nil (WE.next ?_)
 refine WC.condF rfl rfl ?_
 refine WC.skip (WE.next (WC.seq (WC.seq (WC.region (WL.mv rfl rfl rfl rfl rfl (WL.nil (WE.next (WC.block ?_))))))))
 have hwn1 : w.heap.size ≤ w8.heap.size := by omega
 refine WC.range (γ := Unit) (encs := fun zx => [.int .i64 (((zx : Nat) : Int))]) ((fun b => b < w8.heap.size ∨ w23.heap.size ≤ b)) rfl (by kernel_rfl) (by kernel_rfl) (users_seq (l := []) _ (fun b h1 h2 h => by omega) (by simp) hIT) ((fun l hl => .inr (Nat.le_trans ((Nat.le_refl _)) hl))) ((Below.refl _ _)) (fun _ => rfl) (fun x zy => [(0, .pointer none), (1, .int .i64 n), (2, .int .i64 leave), (5, .pointer (some ⟨g2, 0, none⟩)), (6, .slice none 0 0), (7, .pointer (some ⟨g9, 0, none⟩)), (8, .func (.func 57) #[] #[.pointer (some ⟨gl16, 0, none⟩)]), (9, .int .i64 (((x : Nat) : Int))), (14, .bool false), (15, .func (.func 57) #[] #[.pointer (some ⟨gl16, 0, none⟩)])]) (fun x zy w24 => True) (fun pre w24 => 0 = 0 ∧ w23.heap.size ≤ (w24).heap.size ∧ Below w.heap.size w w24 ∧ Blk w24 g2 3 #[.int .i64 leave] ∧ Blk w24 g9 31 #[.slice none 0 0]) (fun zc pre w24 => False) (fun pre w1 w2 t h => (by obtain ⟨z0, z1, z2, z3, z4⟩ := h; exact ⟨z0, Nat.le_trans z1 t.size, below_turn z2 t (Nat.le_trans (Nat.le_trans hb5.size hb12.size) hb19.size), blk_turn z3 t, blk_turn z4 t⟩)) (fun zc pre w1 w2 t h => h.elim) (fun x zy w1 w2 t h => h) ?_ ?_ ?_ ?_ ?_
 ·have hb25 : Below w.heap.size w w23 := (bstep (bstep hb5 hb12) hb19)
  have hB26 := hB20.below hb19
  have hB27 := hB11.below hb19
  exact ⟨rfl, (Nat.le_refl _), hb25, hB26, hB27⟩
 ·rintro zl28 pre x w29 ⟨_, hzs, hb30, _, _⟩
  refine WC.sub (K' := [(0, .pointer none), (1, .int .i64 n), (2, .int .i64 leave), (5, .pointer (some ⟨g2, 0, none⟩)), (6, .slice none 0 0), (7, .pointer (some ⟨g9, 0, none⟩)), (8, .func (.func 57) #[] #[.pointer (some ⟨gl16, 0, none⟩)]), (14, .bool false), (15, .func (.func 57) #[] #[.pointer (some ⟨gl16, 0, none⟩)]), (16, .int .i64 (((x : Nat) : Int)))]) ⟨rfl, rfl, rfl, rfl, rfl, rfl, rfl, rfl, rfl, rfl, trivial⟩ ?_
  refine WC.region (WL.asg rfl rfl rfl rfl rfl (WL.nil ?_))
  exact fun _ zk => ⟨(Below.refl _ _), (), zk.sub ⟨rfl, rfl, rfl, rfl, rfl, rfl, rfl, rfl, rfl, rfl, trivial⟩, trivial⟩
 ·rintro zl31 pre x zy w32 ⟨_, hz37, hb34, hB35, hB36⟩ _ hl33
  exact absurd hl33 (Nat.not_lt_zero _)
 ·rintro D38 xs39 w40 hD41 hS42 ⟨_, hz47, hb44, hB45, hB46⟩ hw43
  have hx0 := hS42
  refine WE.blockNormal (WE.next (WC.seq (WC.region ?_)))
  refine WL.val _ rfl rfl rfl (fun za zC zh zk => ld_31 rfl (zh.ev rfl) ((hB46.cell 0).trans rfl) zk) ?_
  refine WL.asg rfl rfl rfl rfl rfl (WL.nil (WE.next (WC.ret ?_)))
  obtain ⟨w48, hs49, hc50, hk51⟩ := shut_all [D38] w40 (by intro D hD; simp only [List.mem_cons, List.not_mem_nil, or_false] at hD; rcases hD with rfl <;> assumption) (by simp <;> omega)
  have hB52 : Blk w48 g2 3 #[.int .i64 leave] := hk51 _ _ hB45 rfl
  have hB53 : Blk w48 g9 31 #[.slice none 0 0] := hk51 _ _ hB46 rfl
  have hb54 := chg_below hb44 hc50 (fun b hb => by simp only [List.mem_cons, List.not_mem_nil, or_false]; omega)
  refine WE.retS1 rfl rfl hs49 ?_
  exact ⟨_, rfl, rfl, hb54⟩
 ·rintro D55 zc56 pre57 w58 hD59 hS60 hI61 hw62
  exact hI61.elim
set_option maxRecDepth 100000 in
theorem nil_any (t : T) (n m : Int) (w : World) (vt : Value) (pa : Option Addr) (pn pc : Nat) (ht : IsT w t vt) : Calls Try.prog 6 #[vt, .int .i64 n, .int .i64 m, .slice pa pn pc] w (Ret fun v' w' => v' = .bool true ∧ Below w.heap.size w w') := by
 obtain ⟨_, ta, tc, rfl, _, _, _⟩ := ht.form
 refine Calls.walk (l := [.agg #[.int .i64 t.f, .slice ta t.args.length tc], .int .i64 n, .int .i64 m, .slice pa pn pc]) Try.func6 rfl (by kernel_rfl) ?_
 refine WC.sub (K' := [(0, .agg #[.int .i64 t.f, .slice ta t.args.length tc]), (1, .int .i64 n), (2, .int .i64 m), (3, .slice pa pn pc)]) ⟨rfl, rfl, rfl, rfl, trivial⟩ ?_
 refine WC.seq (WC.region ?_)
 refine WL.step (post := NewBlk w 35 #[.int .i64 t.f, .slice ta t.args.length tc]) rfl rfl rfl (fun za zC zh zk => box_35 rfl (zh.ev rfl) (zk _ _ (newBlk _ _ _))) ?_
 rintro _ w1 ⟨g2, rfl, hg3, hB4, hb5, hz6⟩
 have hl7 : w.heap.size ≤ g2 := by omega
 refine WL.asg rfl rfl rfl rfl rfl (WL.nil (WE.next (WC.seq (WC.region (WL.asg rfl rfl rfl rfl rfl (WL.nil (WE.next (WC.seq (WC.region (WL.mv rfl rfl rfl rfl rfl ?_))))))))))
 refine WL.val _ rfl rfl rfl (fun za zC zh zk => ld_35 rfl (zh.ev rfl) ((hB4.cell 0).trans rfl) ((hB4.cell 1).trans rfl) zk) ?_
 refine WL.call rfl rfl rfl (fun za zh zC => wp_call (by kernel_rfl) rfl (hv2 (zh.ev rfl) (zh.ev rfl))) (put_nil _ _ _ _ _) ?_
 rintro _ w9 ⟨rfl, hq8⟩
 refine WL.mv rfl rfl rfl rfl rfl ?_
 refine WL.val (.int .i64 0) rfl rfl rfl (fun za zC zh zk => ext2_0 rfl (zh.ev rfl) zk) ?_
 refine WL.val (.int .i64 1) rfl rfl rfl (fun za zC zh zk => ext2_1 rfl (zh.ev rfl) zk) ?_
 refine WL.asg rfl rfl rfl rfl rfl (WL.asg rfl rfl rfl rfl rfl (WL.nil (WE.next (WC.seq (WC.region (WL.mv rfl rfl rfl rfl rfl (WL.mv rfl rfl rfl rfl rfl ?_)))))))
 refine WL.call rfl rfl rfl (fun za zh zC => wp_call (by kernel_rfl) rfl (hv2 (zh.ev rfl) (zh.ev rfl))) (get_nil _ _) ?_
 rintro _ w11 ⟨rfl, hq10⟩
 refine WL.mv rfl rfl rfl rfl rfl ?_
 refine WL.val (.agg #[.int .i64 0, .slice none 0 0]) rfl rfl rfl (fun za zC zh zk => ext2_0 rfl (zh.ev rfl) zk) ?_
 refine WL.val (.int .i64 1) rfl rfl rfl (fun za zC zh zk => ext2_1 rfl (zh.ev rfl) zk) ?_
 refine WL.step (post := NewBlk w11 35 #[.int .i64 0, .slice none 0 0]) rfl rfl rfl (fun za zC zh zk => alloc_35 rfl (zk _ _ (newBlk _ _ _))) ?_
 rintro _ w12 ⟨g13, rfl, hg14, hB15, hb16, hz17⟩
 have hb18 : Below w1.heap.size w1 w11 := (bstep hq8 hq10)
 have hl19 : g2 < g13 := by have z1 := hB4.lt; have z2 := (hb18).size; omega
 have hb20 : Below w.heap.size w w11 := (bstep hb5 hb18)
 have hl21 : w.heap.size ≤ g13 := by have z2 := (hb20).size; omega
 refine WL.step (post := fun _ w' => Upd g13 w12 w' ∧ Blk w' g13 35 #[.int .i64 0, .slice none 0 0]) rfl rfl rfl (fun za zC zh zk => st_35 rfl (zh.ev rfl) (zh.ev rfl) rfl rfl hB15 (by first | decide | simp) (fun v => zk v _ ⟨(Upd.at_ _ _ _ _).trans (Upd.at_ _ _ _ _), (hB15.set_ 0 _).set_ 1 _⟩)) ?_
 rintro v25 w22 ⟨hu23, hB24⟩
 have hb26 : Below w.heap.size w w12 := (bstep hb20 hb16)
 have hb27 := upd_below hb26 hu23 (by omega)
 have hb29 : Below w1.heap.size w1 w12 := (bstep hb18 hb16)
 have hB28 := hB4.below hb29
 have hB30 := upd_blk hB28 hu23 (by omega)
 refine WL.asg rfl rfl rfl rfl rfl (WL.nil (WE.next (WC.seq (WC.region (WL.mv rfl rfl rfl rfl rfl (WL.mv rfl rfl rfl rfl rfl (WL.mv rfl rfl rfl rfl rfl (WL.mv rfl rfl rfl rfl rfl ?_))))))))
 refine WL.call rfl rfl rfl (fun za zh zC => wp_call (by kernel_rfl) rfl (hv4 (zh.ev rfl) (zh.ev rfl) (zh.ev rfl) (zh.ev rfl))) (replace_nil _ _ _ _ _ _) ?_
 rintro _ w32 ⟨rfl, hq31⟩
 refine WL.mv rfl rfl rfl rfl rfl ?_
 refine WL.val (.int .i64 0) rfl rfl rfl (fun za zC zh zk => ext2_0 rfl (zh.ev rfl) zk) ?_
 refine WL.val (.int .i64 1) rfl rfl rfl (fun za zC zh zk => ext2_1 rfl (zh.ev rfl) zk) ?_
 refine WL.asg rfl rfl rfl rfl rfl (WL.asg rfl rfl rfl rfl rfl ?_)
 refine WL.nil (WE.sub (K' := [(0, .agg #[.int .i64 t.f, .slice ta t.args.length tc]), (1, .int .i64 n), (2, .int .i64 m), (3, .slice pa pn pc), (4, .pointer (some ⟨g2, 0, none⟩)), (8, .bool false), (9, .pointer none), (11, .int .i64 1), (13, .int .i64 1), (15, .int .i64 1)]) ⟨rfl, rfl, rfl, rfl, rfl, rfl, rfl, rfl, rfl, rfl, trivial⟩ ?_)
 refine WE.next (WC.seq (WC.region (WL.mv rfl rfl rfl rfl rfl ?_)))
 have hB33 := hB30.below hq31
 refine WL.val _ rfl rfl rfl (fun za zC zh zk => ld_35 rfl (zh.ev rfl) ((hB33.cell 0).trans rfl) ((hB33.cell 1).trans rfl) zk) ?_
 refine WL.call rfl rfl rfl (fun za zh zC => wp_call (by kernel_rfl) rfl (hv2 (zh.ev rfl) (zh.ev rfl))) (find_nil _ _ _ _ _) ?_
 rintro _ w35 ⟨rfl, hq34⟩
 refine WL.mv rfl rfl rfl rfl rfl ?_
 refine WL.val (.int .i64 0) rfl rfl rfl (fun za zC zh zk => ext2_0 rfl (zh.ev rfl) zk) ?_
 refine WL.val (.bool false) rfl rfl rfl (fun za zC zh zk => ext2_1 rfl (zh.ev rfl) zk) ?_
 refine WL.asg rfl rfl rfl rfl rfl (WL.asg rfl rfl rfl rfl rfl (WL.nil (WE.next (WC.seq (WC.region (WL.mv rfl rfl rfl rfl rfl ?_))))))
 refine WL.val (.bool true) rfl rfl rfl (fun za zC zh zk => eql_27 rfl (zh.ev rfl) (zh.ev rfl) zk) ?_
 refine WL.mv rfl rfl rfl rfl rfl ?_
 refine WL.want (d := 46) rfl rfl rfl ?_
 refine WL.mv rfl rfl rfl rfl rfl ?_
 refine WL.want (d := 46) rfl rfl rfl ?_
 refine WL.val (.bool true) rfl rfl rfl (fun za zC zh zk => eql_27 rfl (zh.ev rfl) (zh.ev rfl) zk) ?_
 refine WL.val (.bool true) rfl rfl rfl (fun za zC zh zk => wp_pickT rfl (zh.ev rfl) (zh.ev rfl) zk) ?_
 refine WL.mv rfl rfl rfl rfl rfl ?_
 refine WL.want (d := 50) rfl rfl rfl ?_
 refine WL.mv rfl rfl rfl rfl rfl ?_
 refine WL.want (d := 50) rfl rfl rfl ?_
 refine WL.val (.bool true) rfl rfl rfl (fun za zC zh zk => eql_27 rfl (zh.ev rfl) (zh.ev rfl) zk) ?_
 refine WL.val (.bool true) rfl rfl rfl (fun za zC zh zk => wp_pickT rfl (zh.ev rfl) (zh.ev rfl) zk) ?_
 refine WL.mv rfl rfl rfl rfl rfl ?_
 refine WL.want (d := 54) rfl rfl rfl ?_
 refine WL.mv rfl rfl rfl rfl rfl ?_
 refine WL.want (d := 54) rfl rfl rfl ?_
 refine WL.val (.bool true) rfl rfl rfl (fun za zC zh zk => wp_not rfl (zh.ev rfl) zk) ?_
 refine WL.val (.bool true) rfl rfl rfl (fun za zC zh zk => wp_pickT rfl (zh.ev rfl) (zh.ev rfl) zk) ?_
 refine WL.mv rfl rfl rfl rfl rfl ?_
 refine WL.want (d := 58) rfl rfl rfl ?_
 refine WL.mv rfl rfl rfl rfl rfl ?_
 refine WL.want (d := 58) rfl rfl rfl ?_
 refine WL.call rfl rfl rfl (fun za zh zC => wp_call (by kernel_rfl) rfl (hv1 (zh.ev rfl))) (len_nil _) ?_
 rintro _ w37 ⟨rfl, hq36⟩
 refine WL.want (d := 58) rfl rfl rfl ?_
 refine WL.val (.bool true) rfl rfl rfl (fun za zC zh zk => eql_3 rfl (zh.ev rfl) (zh.ev rfl) zk) ?_
 refine WL.val (.bool true) rfl rfl rfl (fun za zC zh zk => wp_pickT rfl (zh.ev rfl) (zh.ev rfl) zk) ?_
 refine WL.mv rfl rfl rfl rfl rfl ?_
 refine WL.want (d := 63) rfl rfl rfl ?_
 refine WL.mv rfl rfl rfl rfl rfl ?_
 refine WL.want (d := 63) rfl rfl rfl ?_
 refine WL.mv rfl rfl rfl rfl rfl ?_
 refine WL.want (d := 63) rfl rfl rfl ?_
 refine WL.call rfl rfl rfl (fun za zh zC => wp_call (by kernel_rfl) rfl (hv2 (zh.ev rfl) (zh.ev rfl))) (args_nil _ _) ?_
 rintro _ w39 ⟨rfl, hq38⟩
 refine WL.want (d := 63) rfl rfl rfl ?_
 refine WL.val (.int .i64 0) rfl rfl rfl (fun za zC zh zk => len_31 rfl (zh.ev rfl) zk) ?_
 refine WL.want (d := 63) rfl rfl rfl ?_
 refine WL.val (.bool true) rfl rfl rfl (fun za zC zh zk => eql_3 rfl (zh.ev rfl) (zh.ev rfl) zk) ?_
 refine WL.val (.bool true) rfl rfl rfl (fun za zC zh zk => wp_pickT rfl (zh.ev rfl) (zh.ev rfl) zk) ?_
 refine WL.mv rfl rfl rfl rfl rfl ?_
 refine WL.want (d := 70) rfl rfl rfl ?_
 refine WL.mv rfl rfl rfl rfl rfl ?_
 refine WL.want (d := 70) rfl rfl rfl ?_
 refine WL.mv rfl rfl rfl rfl rfl ?_
 refine WL.want (d := 70) rfl rfl rfl ?_
 refine WL.call rfl rfl rfl (fun za zh zC => wp_call (by kernel_rfl) rfl (hv2 (zh.ev rfl) (zh.ev rfl))) (size_nil _ _) ?_
 rintro _ w41 ⟨rfl, hq40⟩
 refine WL.want (d := 70) rfl rfl rfl ?_
 refine WL.val (.bool true) rfl rfl rfl (fun za zC zh zk => eql_3 rfl (zh.ev rfl) (zh.ev rfl) zk) ?_
 refine WL.val (.bool true) rfl rfl rfl (fun za zC zh zk => wp_pickT rfl (zh.ev rfl) (zh.ev rfl) zk) ?_
 refine WL.mv rfl rfl rfl rfl rfl ?_
 refine WL.want (d := 76) rfl rfl rfl ?_
 refine WL.mv rfl rfl rfl rfl rfl ?_
 refine WL.want (d := 76) rfl rfl rfl ?_
 refine WL.mv rfl rfl rfl rfl rfl ?_
 refine WL.want (d := 76) rfl rfl rfl ?_
 refine WL.call rfl rfl rfl (fun za zh zC => wp_call (by kernel_rfl) rfl (hv2 (zh.ev rfl) (zh.ev rfl))) (ground_nil _ _) ?_
 rintro _ w43 ⟨rfl, hq42⟩
 refine WL.want (d := 76) rfl rfl rfl ?_
 refine WL.val (.bool true) rfl rfl rfl (fun za zC zh zk => wp_not rfl (zh.ev rfl) zk) ?_
 refine WL.val (.bool true) rfl rfl rfl (fun za zC zh zk => wp_pickT rfl (zh.ev rfl) (zh.ev rfl) zk) ?_
 refine WL.mv rfl rfl rfl rfl rfl ?_
 refine WL.want (d := 82) rfl rfl rfl ?_
 refine WL.mv rfl rfl rfl rfl rfl ?_
 refine WL.want (d := 82) rfl rfl rfl ?_
 refine WL.mv rfl rfl rfl rfl rfl ?_
 refine WL.want (d := 82) rfl rfl rfl ?_
 refine WL.call rfl rfl rfl (fun za zh zC => wp_call (by kernel_rfl) rfl (hv3 (zh.ev rfl) (zh.ev rfl) (zh.ev rfl))) (users_nil _ _ _) ?_
 rintro _ w45 ⟨rfl, hq44⟩
 refine WL.want (d := 82) rfl rfl rfl ?_
 refine WL.val (.int .i64 0) rfl rfl rfl (fun za zC zh zk => len_31 rfl (zh.ev rfl) zk) ?_
 refine WL.want (d := 82) rfl rfl rfl ?_
 refine WL.val (.bool true) rfl rfl rfl (fun za zC zh zk => eql_3 rfl (zh.ev rfl) (zh.ev rfl) zk) ?_
 refine WL.val (.bool true) rfl rfl rfl (fun za zC zh zk => wp_pickT rfl (zh.ev rfl) (zh.ev rfl) zk) ?_
 refine WL.mv rfl rfl rfl rfl rfl ?_
 refine WL.want (d := 89) rfl rfl rfl ?_
 refine WL.call rfl rfl rfl (fun za zh zC => wp_call (by kernel_rfl) rfl (hv0)) (wakes_any _) ?_
 rintro _ w47 ⟨rfl, hq46⟩
 refine WL.val (.bool true) rfl rfl rfl (fun za zC zh zk => wp_pickT rfl (zh.ev rfl) (zh.ev rfl) zk) ?_
 refine WL.asg rfl rfl rfl rfl rfl ?_
 refine WL.nil (WE.sub (K' := [(0, .agg #[.int .i64 t.f, .slice ta t.args.length tc]), (1, .int .i64 n), (2, .int .i64 m), (3, .slice pa pn pc), (4, .pointer (some ⟨g2, 0, none⟩)), (8, .bool true), (9, .pointer none), (11, .int .i64 1), (13, .int .i64 1), (15, .int .i64 1), (17, .bool false)]) ⟨rfl, rfl, rfl, rfl, rfl, rfl, rfl, rfl, rfl, rfl, rfl, trivial⟩ ?_)
 refine WE.next (WC.ret (WE.ret1 rfl rfl ?_))
 have hb48 : Below w.heap.size w w47 := (bstep (bstep (bstep (bstep (bstep (bstep (bstep (bstep hb27 hq31) hq34) hq36) hq38) hq40) hq42) hq44) hq46)
 exact ⟨_, rfl, rfl, hb48⟩
end Go.Proofs.Ytbohlpfndiiimaa

/- What a law's statement asks behind its call, where the call answers true and leaves all that was there as it was. -/
namespace Go.Proofs.Ytbohlpfndiiimaa
open Go.ChangeShapes Go.WideShapes Go.ChangeAt Go.RowKit
section
variable {H : Type} {enc : TypeId × Value → H} {P : Program}
theorem trodAll_below (hl : laidOutB P = true) {W W' : World} (hb : Below W.heap.size W W') : ∀ {ts : List TypeId} {vs : List Value} {ds : List (DataW H)} {ps : List MemPlace},
    (∀ t ∈ ts, P.readableRec t = true ∧ t < P.types.size) → (∀ x ∈ ps, x.block < W.heap.size) → DataW.TrodAll enc P W 0 (fun _ => true) true ts vs ds ps →
    DataW.TrodAll enc P W' 0 (fun b => decide (b < W.heap.size)) true ts vs ds ps
  | [], [], [], _, _, _, h => h
  | t :: ts, v :: vs, d :: ds, ps, hr, hlt, ⟨p, q, h1, h2, e⟩ => by
    subst e
    exact ⟨p, q, Below.trod hl (hr t (by simp)).1 (hr t (by simp)).2 h1 hb (fun x hx => hlt x (by simp [hx])), trodAll_below hl hb (fun t ht => hr t (by simp [ht])) (fun x hx => hlt x (by simp [hx])) h2, rfl⟩
  | [], _ :: _, _, _, _, _, h => h.elim
  | [], [], _ :: _, _, _, _, h => h.elim
  | _ :: _, [], _, _, _, _, h => h.elim
  | _ :: _, _ :: _, [], _, _, _, h => h.elim
theorem law_post {f : Func} {s : ChangeSpec} {W W' : World} {args : Array Value} {ds gs : List (DataW H)} {before : List MemPlace} {tb : TypeId} (hl : laidOutB P = true) (hr : ∀ t ∈ f.params.toList, P.readableRec t = true ∧ t < P.types.size)
    (htb : P.underlying tb = some .bool) (hrt : f.resultTypes = #[tb]) (hv : s.vars = []) (hs : s.fn H ds = { results := [.lit (.bool true)], args := ds })
    (hW : DataW.Whole enc P f.params.toList s.vars false W args.toList ds gs before) (hb : Below W.heap.size W W') : s.post enc P f false true false false W args (.bool true) W' := by
  have hlt : ∀ p ∈ before, p.block < W.heap.size := fun p hp => hW.lt p hp
  have hW0 := hW
  obtain ⟨p, q, hA, hV, hpq, _, _⟩ := hW
  rw [hv] at hV
  obtain ⟨rfl, rfl⟩ := trodVars_none hV
  refine ⟨ds, [], before, [], p, [], hW0, ?_, ?_, ?_, hb.frame _, fun h => by cases h⟩
  · rw [List.append_nil, hs, hrt]
    exact trodAll_cons_mk (shut_bool htb _) trodAll_mk0
  · rw [List.append_nil, hs]
    refine trodAll_below hl hb hr (fun x hx => hlt x ?_) hA
    rw [hpq]; simp [hx]
  · rw [List.append_nil, hv]
    have : (s.fn H ds).vars = [] := by rw [hs]
    rw [this]
    rfl
end
end Go.Proofs.Ytbohlpfndiiimaa

/- Arguments of a law, opened: terms, integers, truth values; rows in general. -/
namespace Go.Proofs.Ytbohlpfndiiimaa
open Go.ChangeShapes Go.WideShapes Go.ChangeAt Go.RowKit
theorem own : ownKnob Try.prog.godebug = none := by kernel_rfl
theorem readable_all {P : Program} {ts : List TypeId} (h : (ts.all fun t => P.readableRec t && Nat.blt t P.types.size) = true) : ∀ t ∈ ts, P.readableRec t = true ∧ t < P.types.size := by
  intro t ht
  have := List.all_eq_true.1 h t ht
  simp only [Bool.and_eq_true, Nat.blt_eq] at this
  exact this
theorem bulk_mem {H : Type} {l : List (DataW H)} (hk : Rows.uptoSmall H l = true) {d : DataW H} (h : d ∈ l) : Rows.uptoBulk d ≤ 1048576 :=
  Nat.le_trans (bulkAll_le h) (of_decide_eq_true hk)
section
variable {H : Type} {enc : TypeId × Value → H} {w : World} {base : Nat} {spare : Nat → Bool} {held : Bool}
set_option maxRecDepth 100000 in
theorem arg_T {r : Reach} {b : Nat} {v : Value} {d : DataW H} {p : List MemPlace} (h : Value.okWide Try.prog w r b 35 v) (ht : DataW.Trod enc Try.prog w base spare held 35 v d p) :
    ∃ t : T, IsT w t v ∧ t.size ≤ Rows.uptoBulk d := by
  obtain ⟨cs, rfl, _⟩ := okWide_struct Try.underlying35 h
  obtain ⟨fuel, hf⟩ := ht
  obtain ⟨t, u, v, e, h1, h2⟩ := open_T _ _ _ hf
  have e' : cs = #[u, v] := by
    apply Array.toList_inj.1
    exact e
  subst e'
  exact ⟨t, h1, h2⟩
set_option maxRecDepth 100000 in
theorem arg_int {r : Reach} {b : Nat} {v : Value} {d : DataW H} {p : List MemPlace} (h : Value.okWide Try.prog w r b 3 v) (ht : DataW.Trod enc Try.prog w base spare held 3 v d p) :
    ∃ n : Int, v = .int .i64 n ∧ I64 n := by
  obtain ⟨n, rfl⟩ := okWide_int Try.underlying3 h
  obtain ⟨fuel, hf⟩ := ht
  obtain ⟨m, e, _, wf⟩ := DataW.trod_int Try.underlying3 hf
  have e' : (.int .i64 n : Value) = .int .i64 m := by simpa [Value.cells] using e
  simp only [Value.int.injEq, true_and] at e'
  exact ⟨n, rfl, by rw [e']; exact i64_wf wf⟩
end
end Go.Proofs.Ytbohlpfndiiimaa

namespace Go.Proofs.Ytbohlpfndiiimaa
open Go.ChangeShapes Go.WideShapes Go.ChangeAt Go.RowKit
local instance : Inhabited T := ⟨.mk 0 []⟩
section
variable {H : Type} {enc : TypeId × Value → H} {w : World} {base : Nat} {spare : Nat → Bool} {held : Bool}
set_option maxRecDepth 100000 in
theorem arg_Pos0 {r : Reach} {b : Nat} {v : Value} {d : DataW H} {p : List MemPlace} (h : Value.okWide Try.prog w r b 53 v) (_ : DataW.Trod enc Try.prog w base spare held 53 v d p) :
    ∃ (a : Option Addr) (n c : Nat), v = .slice a n c := by
  obtain ⟨a, n, c, rfl⟩ := okWide_slice Try.underlying53 h
  exact ⟨a, n, c, rfl⟩
end
end Go.Proofs.Ytbohlpfndiiimaa
