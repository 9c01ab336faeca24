/- Arguments of a law, opened: terms, integers, truth values; rows in general. -/
import Derived.Test.YtibncmnmjhimeaaFPNd
import Derived.Test.YtibncmnmjhimeaaFPNa
import Derived.WalkKit
import Derived.ProofKit
import Derived.JoinedCond
import Derived.OpenShut
import Derived.Test.YtibncmnmjhimeaaFPNb

/- No index; the example that every law shows. -/
namespace Go.Proofs.Ytibncmnmjhimeaa
open Go.RowKit Go
set_option linter.unusedVariables false
set_option linter.unusedSimpArgs false
set_option maxRecDepth 100000 in
theorem okNil  (w : World) : Calls Try.prog 24 #[.pointer none] w (Ret fun v' w' => v' = .bool false ∧ Below w.heap.size w w') := by
 skip
 refine Calls.walk (l := [.pointer none]) Try.func24 rfl (by kernel_rfl) ?_
 refine WC.sub (K' := [(0, .pointer none)]) ⟨rfl, trivial⟩ ?_
 refine WC.seq (WC.region (WL.asg rfl rfl rfl rfl rfl (WL.nil (WE.next (WC.seq (WC.region (WL.mv rfl rfl rfl rfl rfl ?_)))))))
 refine WL.val (.bool false) rfl rfl rfl (fun za zC zh zk => neqn_27 rfl (zh.ev rfl) (zh.ev rfl) zk) ?_
 refine WL.mv rfl rfl rfl rfl rfl ?_
 refine WL.skip (d := 5) rfl rfl rfl rfl rfl ?_
 refine WL.skip (d := 5) rfl rfl rfl rfl rfl ?_
 refine WL.skip (d := 5) rfl rfl rfl rfl rfl ?_
 refine WL.skip (d := 5) rfl rfl rfl rfl rfl ?_
 refine WL.skip (d := 5) rfl rfl rfl rfl rfl ?_
 refine WL.val (.bool false) rfl rfl rfl (fun za zC zh zk => wp_pickF rfl (zh.ev rfl) (zh.ev rfl) zk) ?_
 refine WL.asg rfl rfl rfl rfl rfl (WL.nil (WE.next (WC.ret (WE.ret1 rfl rfl ?_))))
 exact ⟨_, rfl, rfl, (Below.refl _ _)⟩
set_option maxRecDepth 100000 in
theorem lenNil  (w : World) : Calls Try.prog 18 #[.pointer none] w (Ret fun v' w' => v' = .int .i64 0 ∧ Below w.heap.size w w') := by
 skip
 refine Calls.walk (l := [.pointer none]) Try.func18 rfl (by kernel_rfl) ?_
 refine WC.sub (K' := [(0, .pointer none)]) ⟨rfl, trivial⟩ ?_
 refine WC.seq (WC.region (WL.asg rfl rfl rfl rfl rfl (WL.nil (WE.next (WC.seq (WC.seq (WC.region (WL.mv rfl rfl rfl rfl rfl ?_))))))))
 refine WL.call rfl rfl rfl (fun za zh zC => wp_call (by kernel_rfl) rfl (hv1 (zh.ev rfl))) (okNil _) ?_
 rintro _ w2 ⟨rfl, hq1⟩
 refine WL.val (.bool true) rfl rfl rfl (fun za zC zh zk => wp_not rfl (zh.ev rfl) zk) ?_
 refine WL.nil (WE.next ?_)
 refine WC.condT rfl rfl ?_
 refine WC.seq (WC.region (WL.asg rfl rfl rfl rfl rfl (WL.nil (WE.next (WC.ret (WE.thenRet (WE.ret1 rfl rfl ?_)))))))
 exact ⟨_, rfl, rfl, hq1⟩
set_option maxRecDepth 100000 in
theorem addNil (f : Int) (a : Option Addr) (n c : Nat) (id : Int) (w : World) : Calls Try.prog 9 #[.pointer none, .agg #[.int .i64 f, .slice a n c], .int .i64 id] w (Ret fun v' w' => v' = .int .i64 1 ∧ Below w.heap.size w w') := by
 skip
 refine Calls.walk (l := [.pointer none, .agg #[.int .i64 f, .slice a n c], .int .i64 id]) Try.func9 rfl (by kernel_rfl) ?_
 refine WC.sub (K' := [(0, .pointer none), (1, .agg #[.int .i64 f, .slice a n c]), (2, .int .i64 id)]) ⟨rfl, rfl, rfl, trivial⟩ ?_
 refine WC.seq (WC.region ?_)
 refine WL.step (post := NewBlk w 24 #[.int .i64 f, .slice a n c]) rfl rfl rfl (fun za zC zh zk => box_24 rfl (zh.ev rfl) (zk _ _ (newBlk _ _ _))) ?_
 rintro _ w1 ⟨g2, rfl, hg3, hB4, hb5, hz6⟩
 have hl7 : w.heap.size ≤ g2 := by omega
 refine WL.asg rfl rfl rfl rfl rfl (WL.nil (WE.next (WC.seq (WC.block (WC.seq (WC.region (WL.mv rfl rfl rfl rfl rfl ?_)))))))
 refine WL.call rfl rfl rfl (fun za zh zC => wp_call (by kernel_rfl) rfl (hv1 (zh.ev rfl))) (okNil _) ?_
 rintro _ w9 ⟨rfl, hq8⟩
 refine WL.val (.bool true) rfl rfl rfl (fun za zC zh zk => wp_not rfl (zh.ev rfl) zk) ?_
 refine WL.asg rfl rfl rfl rfl rfl (WL.nil (WE.next ?_))
 refine WC.condT rfl rfl ?_
 refine WC.seq (WC.region (WL.asg rfl rfl rfl rfl rfl (WL.nil (WE.next (WC.ret (WE.blockRet (WE.thenRet (WE.ret1 rfl rfl ?_))))))))
 have hb10 : Below w.heap.size w w9 := (bstep hb5 hq8)
 exact ⟨_, rfl, rfl, hb10⟩
set_option maxRecDepth 100000 in
theorem delNil (f : Int) (a : Option Addr) (n c : Nat) (id : Int) (w : World) : Calls Try.prog 17 #[.pointer none, .agg #[.int .i64 f, .slice a n c], .int .i64 id] w (Ret fun v' w' => v' = .bool false ∧ Below w.heap.size w w') := by
 skip
 refine Calls.walk (l := [.pointer none, .agg #[.int .i64 f, .slice a n c], .int .i64 id]) Try.func17 rfl (by kernel_rfl) ?_
 refine WC.sub (K' := [(0, .pointer none), (1, .agg #[.int .i64 f, .slice a n c]), (2, .int .i64 id)]) ⟨rfl, rfl, rfl, trivial⟩ ?_
 refine WC.seq (WC.region ?_)
 refine WL.step (post := NewBlk w 24 #[.int .i64 f, .slice a n c]) rfl rfl rfl (fun za zC zh zk => box_24 rfl (zh.ev rfl) (zk _ _ (newBlk _ _ _))) ?_
 rintro _ w1 ⟨g2, rfl, hg3, hB4, hb5, hz6⟩
 have hl7 : w.heap.size ≤ g2 := by omega
 refine WL.step (post := NewBlk w1 3 #[.int .i64 id]) rfl rfl rfl (fun za zC zh zk => box_3 rfl (zh.ev rfl) (zk _ _ (newBlk _ _ _))) ?_
 rintro _ w8 ⟨g9, rfl, hg10, hB11, hb12, hz13⟩
 have hl14 : g2 < g9 := by have z1 := hB4.lt; omega
 have hl15 : w.heap.size ≤ g9 := by have z2 := (hb5).size; omega
 refine WL.asg rfl rfl rfl rfl rfl (WL.nil (WE.next (WC.seq (WC.seq (WC.region (WL.mv rfl rfl rfl rfl rfl ?_))))))
 refine WL.call rfl rfl rfl (fun za zh zC => wp_call (by kernel_rfl) rfl (hv1 (zh.ev rfl))) (okNil _) ?_
 rintro _ w17 ⟨rfl, hq16⟩
 refine WL.val (.bool true) rfl rfl rfl (fun za zC zh zk => wp_not rfl (zh.ev rfl) zk) ?_
 refine WL.nil (WE.next ?_)
 refine WC.condT rfl rfl ?_
 refine WC.seq (WC.region (WL.asg rfl rfl rfl rfl rfl (WL.nil (WE.next (WC.ret (WE.thenRet (WE.ret1 rfl rfl ?_)))))))
 have hb18 : Below w.heap.size w w17 := (bstep (bstep hb5 hb12) hq16)
 exact ⟨_, rfl, rfl, hb18⟩
set_option maxRecDepth 100000 in
theorem askNil (way : Nat) (f : Int) (a : Option Addr) (n c : Nat) (w : World) : Calls Try.prog 27 #[.pointer none, .agg #[.int .i64 f, .slice a n c], .func (.func (fnW way)) #[] #[]] w (Ret fun v' w' => v' = .slice none 0 0 ∧ Below w.heap.size w w') := by
 skip
 refine Calls.walk (l := [.pointer none, .agg #[.int .i64 f, .slice a n c], .func (.func (fnW way)) #[] #[]]) Try.func27 rfl (by kernel_rfl) ?_
 refine WC.sub (K' := [(0, .pointer none), (1, .agg #[.int .i64 f, .slice a n c]), (2, .func (.func (fnW way)) #[] #[])]) ⟨rfl, rfl, rfl, trivial⟩ ?_
 refine WC.seq (WC.region ?_)
 refine WL.step (post := NewBlk w 24 #[.int .i64 f, .slice a n c]) rfl rfl rfl (fun za zC zh zk => box_24 rfl (zh.ev rfl) (zk _ _ (newBlk _ _ _))) ?_
 rintro _ w1 ⟨g2, rfl, hg3, hB4, hb5, hz6⟩
 have hl7 : w.heap.size ≤ g2 := by omega
 refine WL.step (post := NewBlk w1 56 #[.func (.func (fnW way)) #[] #[]]) rfl rfl rfl (fun za zC zh zk => box_56 rfl (zh.ev rfl) (zk _ _ (newBlk _ _ _))) ?_
 rintro _ w8 ⟨g9, rfl, hg10, hB11, hb12, hz13⟩
 have hl14 : g2 < g9 := by have z1 := hB4.lt; omega
 have hl15 : w.heap.size ≤ g9 := by have z2 := (hb5).size; omega
 refine WL.asg rfl rfl rfl rfl rfl (WL.nil (WE.next (WC.seq (WC.seq (WC.region (WL.mv rfl rfl rfl rfl rfl ?_))))))
 refine WL.call rfl rfl rfl (fun za zh zC => wp_call (by kernel_rfl) rfl (hv1 (zh.ev rfl))) (okNil _) ?_
 rintro _ w17 ⟨rfl, hq16⟩
 refine WL.val (.bool true) rfl rfl rfl (fun za zC zh zk => wp_not rfl (zh.ev rfl) zk) ?_
 refine WL.nil (WE.next ?_)
 refine WC.condT rfl rfl ?_
 refine WC.seq (WC.region (WL.asg rfl rfl rfl rfl rfl (WL.nil (WE.next (WC.ret (WE.thenRet (WE.ret1 rfl rfl ?_)))))))
 have hb18 : Below w.heap.size w w17 := (bstep (bstep hb5 hb12) hq16)
 exact ⟨_, rfl, rfl, hb18⟩
set_option maxRecDepth 100000 in
theorem uniNil (f : Int) (a : Option Addr) (n c : Nat) (w : World) : Calls Try.prog 10 #[.pointer none, .agg #[.int .i64 f, .slice a n c]] w (Ret fun v' w' => v' = .slice none 0 0 ∧ Below w.heap.size w w') := by
 skip
 refine Calls.walk (l := [.pointer none, .agg #[.int .i64 f, .slice a n c]]) Try.func10 rfl (by kernel_rfl) ?_
 refine WC.sub (K' := [(0, .pointer none), (1, .agg #[.int .i64 f, .slice a n c])]) ⟨rfl, rfl, trivial⟩ ?_
 refine WC.seq (WC.region ?_)
 refine WL.step (post := NewBlk w 24 #[.int .i64 f, .slice a n c]) rfl rfl rfl (fun za zC zh zk => box_24 rfl (zh.ev rfl) (zk _ _ (newBlk _ _ _))) ?_
 rintro _ w1 ⟨g2, rfl, hg3, hB4, hb5, hz6⟩
 have hl7 : w.heap.size ≤ g2 := by omega
 refine WL.asg rfl rfl rfl rfl rfl (WL.nil (WE.next (WC.seq (WC.region (WL.mv rfl rfl rfl rfl rfl ?_)))))
 refine WL.val _ rfl rfl rfl (fun za zC zh zk => ld_24 rfl (zh.ev rfl) ((hB4.cell 0).trans rfl) ((hB4.cell 1).trans rfl) zk) ?_
 refine WL.call rfl rfl rfl (fun za zh zC => wp_call (by kernel_rfl) rfl (hv3 (zh.ev rfl) (zh.ev rfl) (zh.ev rfl))) (askNil 0 _ _ _ _ _) ?_
 rintro _ w9 ⟨rfl, hq8⟩
 refine WL.asg rfl rfl rfl rfl rfl (WL.nil (WE.next (WC.ret (WE.ret1 rfl rfl ?_))))
 have hb10 : Below w.heap.size w w9 := (bstep hb5 hq8)
 exact ⟨_, rfl, rfl, hb10⟩
set_option maxRecDepth 100000 in
theorem genNil (f : Int) (a : Option Addr) (n c : Nat) (w : World) : Calls Try.prog 11 #[.pointer none, .agg #[.int .i64 f, .slice a n c]] w (Ret fun v' w' => v' = .slice none 0 0 ∧ Below w.heap.size w w') := by
 skip
 refine Calls.walk (l := [.pointer none, .agg #[.int .i64 f, .slice a n c]]) Try.func11 rfl (by kernel_rfl) ?_
 refine WC.sub (K' := [(0, .pointer none), (1, .agg #[.int .i64 f, .slice a n c])]) ⟨rfl, rfl, trivial⟩ ?_
 refine WC.seq (WC.region ?_)
 refine WL.step (post := NewBlk w 24 #[.int .i64 f, .slice a n c]) rfl rfl rfl (fun za zC zh zk => box_24 rfl (zh.ev rfl) (zk _ _ (newBlk _ _ _))) ?_
 rintro _ w1 ⟨g2, rfl, hg3, hB4, hb5, hz6⟩
 have hl7 : w.heap.size ≤ g2 := by omega
 refine WL.asg rfl rfl rfl rfl rfl (WL.nil (WE.next (WC.seq (WC.region (WL.mv rfl rfl rfl rfl rfl ?_)))))
 refine WL.val _ rfl rfl rfl (fun za zC zh zk => ld_24 rfl (zh.ev rfl) ((hB4.cell 0).trans rfl) ((hB4.cell 1).trans rfl) zk) ?_
 refine WL.call rfl rfl rfl (fun za zh zC => wp_call (by kernel_rfl) rfl (hv3 (zh.ev rfl) (zh.ev rfl) (zh.ev rfl))) (askNil 1 _ _ _ _ _) ?_
 rintro _ w9 ⟨rfl, hq8⟩
 refine WL.asg rfl rfl rfl rfl rfl (WL.nil (WE.next (WC.ret (WE.ret1 rfl rfl ?_))))
 have hb10 : Below w.heap.size w w9 := (bstep hb5 hq8)
 exact ⟨_, rfl, rfl, hb10⟩
set_option maxRecDepth 100000 in
theorem insNil (f : Int) (a : Option Addr) (n c : Nat) (w : World) : Calls Try.prog 12 #[.pointer none, .agg #[.int .i64 f, .slice a n c]] w (Ret fun v' w' => v' = .slice none 0 0 ∧ Below w.heap.size w w') := by
 skip
 refine Calls.walk (l := [.pointer none, .agg #[.int .i64 f, .slice a n c]]) Try.func12 rfl (by kernel_rfl) ?_
 refine WC.sub (K' := [(0, .pointer none), (1, .agg #[.int .i64 f, .slice a n c])]) ⟨rfl, rfl, trivial⟩ ?_
 refine WC.seq (WC.region ?_)
 refine WL.step (post := NewBlk w 24 #[.int .i64 f, .slice a n c]) rfl rfl rfl (fun za zC zh zk => box_24 rfl (zh.ev rfl) (zk _ _ (newBlk _ _ _))) ?_
 rintro _ w1 ⟨g2, rfl, hg3, hB4, hb5, hz6⟩
 have hl7 : w.heap.size ≤ g2 := by omega
 refine WL.asg rfl rfl rfl rfl rfl (WL.nil (WE.next (WC.seq (WC.region (WL.mv rfl rfl rfl rfl rfl ?_)))))
 refine WL.val _ rfl rfl rfl (fun za zC zh zk => ld_24 rfl (zh.ev rfl) ((hB4.cell 0).trans rfl) ((hB4.cell 1).trans rfl) zk) ?_
 refine WL.call rfl rfl rfl (fun za zh zC => wp_call (by kernel_rfl) rfl (hv3 (zh.ev rfl) (zh.ev rfl) (zh.ev rfl))) (askNil 2 _ _ _ _ _) ?_
 rintro _ w9 ⟨rfl, hq8⟩
 refine WL.asg rfl rfl rfl rfl rfl (WL.nil (WE.next (WC.ret (WE.ret1 rfl rfl ?_))))
 have hb10 : Below w.heap.size w w9 := (bstep hb5 hq8)
 exact ⟨_, rfl, rfl, hb10⟩
set_option maxRecDepth 100000 in
theorem lof_any (f : Int) (a : Option Addr) (n c : Nat) (w : World) : Calls Try.prog 20 #[.int .i64 f, .slice a n c] w (Ret fun v' w' => v' = .agg #[.int .i64 f, .slice a n c] ∧ Below w.heap.size w w') := by
 skip
 refine Calls.walk (l := [.int .i64 f, .slice a n c]) Try.func20 rfl (by kernel_rfl) ?_
 refine WC.sub (K' := [(0, .int .i64 f), (1, .slice a n c)]) ⟨rfl, rfl, trivial⟩ ?_
 refine WC.seq (WC.region ?_)
 refine WL.step (post := NewBlk w 24 #[.int .i64 0, .slice none 0 0]) rfl rfl rfl (fun za zC zh zk => alloc_24 rfl (zk _ _ (newBlk _ _ _))) ?_
 rintro _ w1 ⟨g2, rfl, hg3, hB4, hb5, hz6⟩
 have hl7 : w.heap.size ≤ g2 := by omega
 refine WL.nil (WE.next (WC.seq (WC.region (WL.mv rfl rfl rfl rfl rfl (WL.mv rfl rfl rfl rfl rfl ?_)))))
 refine WL.val (.agg #[.int .i64 f, .slice a n c]) rfl rfl rfl (fun za zC zh zk => build_24_0_1 rfl (zh.ev rfl) (zh.ev rfl) zk) ?_
 refine WL.step (post := fun _ w' => Upd g2 w1 w' ∧ Blk w' g2 24 #[.int .i64 f, .slice a n c]) rfl rfl rfl (fun za zC zh zk => st_24 rfl (zh.ev rfl) (zh.ev rfl) rfl rfl hB4 (by first | decide | simp) (fun v => zk v _ ⟨(Upd.at_ _ _ _ _).trans (Upd.at_ _ _ _ _), (hB4.set_ 0 _).set_ 1 _⟩)) ?_
 rintro v11 w8 ⟨hu9, hB10⟩
 have hb12 := upd_below hb5 hu9 (by omega)
 refine WL.nil (WE.next (WC.ret ?_))
 refine WE.retAny (v := .agg #[.int .i64 f, .slice a n c]) (fun za zh => ?_) ?_
 ·have z0 : za.tmps[4]?.getD undef = .pointer (some ⟨g2, 0, none⟩) := by rw [← Array.getD_eq_getD_getElem?]; exact zh.knows 4 _ rfl
  have y0 : w8.cell? ⟨g2, 0, none⟩ = some (.int .i64 f) := ((hB10.cell 0).trans rfl)
  have y1 : w8.cell? ⟨g2, 1, none⟩ = some (.slice a n c) := ((hB10.cell 1).trans rfl)
  simp [results, Try.results20, z0, y0, y1, go_sem]
 ·exact ⟨_, rfl, rfl, hb12⟩
set_option maxRecDepth 100000 in
theorem row_same {S1 S2 : Nat → Prop} {L : List Int} {w : World} {a b : Option Addr} {c e : Nat} (h1 : InRow eltI S1 w L a) (h2 : InRow eltI S2 w L b) (hz : L.length ≤ 1073741824) : Calls Try.prog 19 #[.slice a L.length c, .slice b L.length e] w (Ret fun v' w' => v' = .bool true ∧ Below w.heap.size w w') := by
 skip
 refine Calls.walk (l := [.slice a L.length c, .slice b L.length e]) Try.func19 rfl (by kernel_rfl) ?_
 refine WC.sub (K' := [(0, .slice a L.length c), (1, .slice b L.length e)]) ⟨rfl, rfl, trivial⟩ ?_
 refine WC.seq (WC.region (WL.asg rfl rfl rfl rfl rfl (WL.nil (WE.next (WC.seq (WC.seq (WC.region (WL.mv rfl rfl rfl rfl rfl ?_))))))))
 refine WL.val (.int .i64 (((L.length : Nat) : Int))) rfl rfl rfl (fun za zC zh zk => len_31 rfl (zh.ev rfl) zk) ?_
 refine WL.mv rfl rfl rfl rfl rfl ?_
 refine WL.val (.int .i64 (((L.length : Nat) : Int))) rfl rfl rfl (fun za zC zh zk => len_31 rfl (zh.ev rfl) zk) ?_
 refine WL.val (.bool (((((L.length : Nat) : Int) : Int) != (((L.length : Nat) : Int) : Int)))) rfl rfl rfl (fun za zC zh zk => neq_3 rfl (zh.ev rfl) (zh.ev rfl) zk) ?_
 refine WL.nil (WE.next ?_)
 refine WC.condF rfl ((by simp)) ?_
 refine WC.skip (WE.next (WC.seq (WC.seq (WC.region (WL.asg rfl rfl rfl rfl rfl (WL.nil (WE.next (WC.block ?_))))))))
 refine WC.loop (X := Nat) (fun k => L.length - k) (fun k => [(0, .slice a L.length c), (1, .slice b L.length e), (5, .int .i64 (((k : Nat) : Int))), (10, .bool (((((L.length : Nat) : Int) : Int) != (((L.length : Nat) : Int) : Int))))]) (fun k w1 => k ≤ L.length ∧ Below w.heap.size w w1) 0 ⟨rfl, rfl, rfl, rfl, trivial⟩ ?_ ?_
 ·exact ⟨Nat.zero_le _, (Below.refl _ _)⟩
 ·rintro k w1 ⟨hk, hb2⟩
  refine WC.seq (WC.seq (WC.region (WL.mv rfl rfl rfl rfl rfl (WL.mv rfl rfl rfl rfl rfl ?_))))
  refine WL.val (.int .i64 (((L.length : Nat) : Int))) rfl rfl rfl (fun za zC zh zk => len_31 rfl (zh.ev rfl) zk) ?_
  refine WL.val (.bool ((decide ((((k : Nat) : Int) : Int) < (((L.length : Nat) : Int) : Int))))) rfl rfl rfl (fun za zC zh zk => lss_3 rfl (zh.ev rfl) (zh.ev rfl) zk) ?_
  refine WL.nil (WE.next ?_)
  refine WC.cond rfl (fun h3 => ?_) (fun h3 => ?_)
  ·have h3 : (((k : Nat) : Int) : Int) < (((L.length : Nat) : Int) : Int) := by simpa using h3
   refine WC.skip (WE.next (WC.seq (WC.block (WC.seq ?_))))
   obtain ⟨b4, o5, ha6, hc7⟩ := InRow.openI (h1.below hb2)
   obtain ⟨b8, o9, ha10, hc11⟩ := InRow.openI (h2.below hb2)
   refine WC.opt [(true, .val (.slice a L.length c)), (true, .val (.int .i64 (((k : Nat) : Int)))), (true, .val (.pointer (some ⟨b4, o5 + k, none⟩))), (true, .val (.int .i64 ((List.getD L k 0)))), (true, .val (.slice b L.length e)), (true, .val (.int .i64 (((k : Nat) : Int)))), (true, .val (.pointer (some ⟨b8, o9 + k, none⟩))), (true, .val (.int .i64 ((List.getD L k 0)))), (true, .val (.bool ((((List.getD L k 0) : Int) != ((List.getD L k 0) : Int)))))] [(0, .slice a L.length c), (1, .slice b L.length e), (5, .int .i64 (((k : Nat) : Int))), (10, .bool (((((L.length : Nat) : Int) : Int) != (((L.length : Nat) : Int) : Int)))), (14, .bool ((decide ((((k : Nat) : Int) : Int) < (((L.length : Nat) : Int) : Int)))))] ⟨rfl, rfl, rfl, rfl, rfl, trivial⟩ (by kernel_rfl) (by kernel_rfl) (by kernel_rfl) ?_ ?_
   ·refine ⟨⟨true, .none rfl, fun h w => optUndef h, fun zβ za zw zc => ?_⟩, ?_⟩
    ·exact wp_move rfl (zc.kn.ev rfl) ⟨_, rfl, Below.refl _ _, optDef zβ rfl⟩
    refine ⟨⟨true, .none rfl, fun h w => optUndef h, fun zβ za zw zc => ?_⟩, ?_⟩
    ·exact wp_move rfl (zc.kn.ev rfl) ⟨_, rfl, Below.refl _ _, optDef zβ rfl⟩
    refine ⟨⟨true, .none rfl, fun h w => optUndef h, fun zβ za zw zc => ?_⟩, ?_⟩
    ·exact ix_31 (k := k) rfl ((evt za 17).trans (optVal (zc.dep 0 17 (by kernel_rfl)) rfl rfl)) (ha6 k (by omega)) ((evt za 18).trans (optVal (zc.dep 1 18 (by kernel_rfl)) rfl rfl)) (by first | omega | (simp; omega)) ⟨_, rfl, Below.refl _ _, optDef zβ rfl⟩
    refine ⟨⟨true, .none rfl, fun h w => optUndef h, fun zβ za zw zc => ?_⟩, ?_⟩
    ·exact ld_3 rfl ((evt za 19).trans (optVal (zc.dep 2 19 (by kernel_rfl)) rfl rfl)) (bkeeps zc.below _ _ (hc7 k (by omega))) ⟨_, rfl, Below.refl _ _, optDef zβ rfl⟩
    refine ⟨⟨true, .none rfl, fun h w => optUndef h, fun zβ za zw zc => ?_⟩, ?_⟩
    ·exact wp_move rfl (zc.kn.ev rfl) ⟨_, rfl, Below.refl _ _, optDef zβ rfl⟩
    refine ⟨⟨true, .none rfl, fun h w => optUndef h, fun zβ za zw zc => ?_⟩, ?_⟩
    ·exact wp_move rfl (zc.kn.ev rfl) ⟨_, rfl, Below.refl _ _, optDef zβ rfl⟩
    refine ⟨⟨true, .none rfl, fun h w => optUndef h, fun zβ za zw zc => ?_⟩, ?_⟩
    ·exact ix_31 (k := k) rfl ((evt za 21).trans (optVal (zc.dep 4 21 (by kernel_rfl)) rfl rfl)) (ha10 k (by omega)) ((evt za 22).trans (optVal (zc.dep 5 22 (by kernel_rfl)) rfl rfl)) (by first | omega | (simp; omega)) ⟨_, rfl, Below.refl _ _, optDef zβ rfl⟩
    refine ⟨⟨true, .none rfl, fun h w => optUndef h, fun zβ za zw zc => ?_⟩, ?_⟩
    ·exact ld_3 rfl ((evt za 23).trans (optVal (zc.dep 6 23 (by kernel_rfl)) rfl rfl)) (bkeeps zc.below _ _ (hc11 k (by omega))) ⟨_, rfl, Below.refl _ _, optDef zβ rfl⟩
    refine ⟨⟨true, .none rfl, fun h w => optUndef h, fun zβ za zw zc => ?_⟩, ?_⟩
    ·exact neq_3 rfl ((evt za 20).trans (optVal (zc.dep 3 20 (by kernel_rfl)) rfl rfl)) ((evt za 24).trans (optVal (zc.dep 7 24 (by kernel_rfl)) rfl rfl)) ⟨_, rfl, Below.refl _ _, optDef zβ rfl⟩
    exact trivial
   ·intro za w12 zh hb13 zu
    have zh := zh.cons (d := 25) (v := .bool ((((List.getD L k 0) : Int) != ((List.getD L k 0) : Int)))) (optVal (zu 8 25 (by kernel_rfl)) rfl rfl)
    clear zu
    refine WE.go zh ?_
    refine WE.next ?_
    refine WC.condF rfl ((by simp)) ?_
    refine WC.skip (WE.blockNormal (WE.next (WC.region (WL.mv rfl rfl rfl rfl rfl ?_))))
    refine WL.val (.int .i64 ((((k + 1) : Nat) : Int))) rfl rfl rfl (fun za zC zh zk => addb_3 rfl (zh.ev rfl) (zh.ev rfl) (wrap_eq (by omega) (by omega) (by omega)) zk) ?_
    refine WL.asg rfl rfl rfl rfl rfl (WL.nil ?_)
    refine WE.round (k + 1) ⟨rfl, rfl, rfl, rfl, trivial⟩ ?_ ?_
    ·have hb14 : Below w.heap.size w w12 := (bstep hb2 hb13)
     exact ⟨(by (try dsimp only at *); omega), hb14⟩
    ·(try dsimp only at *); omega
  ·have h3 : ¬ ((((k : Nat) : Int) : Int) < (((L.length : Nat) : Int) : Int)) := by simpa using h3
   refine WC.exit (WE.thenExit (WE.thenExit (WE.blockIs rfl (WE.next (WC.seq (WC.region (WL.asg rfl rfl rfl rfl rfl (WL.nil (WE.next (WC.ret (WE.ret1 rfl rfl ?_)))))))))))
   exact ⟨_, rfl, rfl, hb2⟩
def Told0 (w : World) (l : List Int) (v : Value) : Prop := ∃ a c, v = .slice a l.length c ∧ InRow eltI (fun _ => True) w l a
theorem Told0.below {w w' : World} {l : List Int} {v : Value} (h : Told0 w l v) (hb : Below w.heap.size w w') : Told0 w' l v := by
 obtain ⟨a, c, e, h⟩ := h
 exact ⟨a, c, e, h.below hb⟩
theorem told0 {w0 w : World} {l m : List Int} {v : Value} (h : Told w0 w l v) (e : l = m) : Told0 w m v := by
 obtain ⟨a, c, e1, _, _, h⟩ := h
 subst e
 exact ⟨a, c, e1, h.mono (by decide) (fun _ _ _ => trivial)⟩
theorem told_blk {w : World} {g t c : Nat} {l : List Int} (h : Blk w g t ((l.map (Value.int .i64)).toArray)) : Told0 w l (.slice (some ⟨g, 0, none⟩) l.length c) := ⟨_, c, rfl, fun i hi => ⟨g, 0, [.int .i64 l[i]], rfl, trivial, rfl, fun j hj => by
 have hj0 : j = 0 := by have z : j < 1 := hj; omega
 subst hj0
 rw [h.cell]
 show _ = some _
 simp [show eltI.k = 1 from rfl, hi]⟩⟩
theorem row_told {w : World} {l : List Int} {v u : Value} (h1 : Told0 w l v) (h2 : Told0 w l u) (hz : l.length ≤ 1073741824) : Calls Try.prog 19 #[v, u] w (Ret fun v' w' => v' = .bool true ∧ Below w.heap.size w w') := by
 obtain ⟨a, c, rfl, h1⟩ := h1
 obtain ⟨b, e, rfl, h2⟩ := h2
 exact row_same h1 h2 hz
def wkB : List TI := [(((.mk 2 [(.mk (-1) []), (.mk 1 [])]) : T), (1 : Int)), ((.mk 2 [(.mk 1 []), (.mk (-1) [])]), 2), ((.mk (-1) []), 3), ((.mk 1 []), 4)]
theorem wk1 : askP wkB 0 (prt (.mk 2 [(.mk 1 []), (.mk 1 [])])) = [1, 2, 3] := by decide +kernel
theorem wk2 : askP wkB 0 (prt (.mk 1 [])) = [3, 4] := by decide +kernel
theorem wk3 : askP wkB 1 (prt (.mk 2 [(.mk (-1) []), (.mk (-2) [])])) = [3] := by decide +kernel
theorem wk4 : askP wkB 2 (prt (.mk 2 [(.mk (-1) []), (.mk (-2) [])])) = [1, 2] := by decide +kernel
set_option maxRecDepth 100000 in
set_option maxHeartbeats 1000000 in
theorem wakes_any (w : World) : Calls Try.prog 7 #[] w (Ret fun v' w' => v' = .bool true ∧ Below w.heap.size w w') := by
 skip
 refine Calls.walk (l := []) Try.func7 rfl (by kernel_rfl) ?_
 refine WC.sub (K' := []) trivial ?_
 refine WC.seq (WC.region (WL.asg rfl rfl rfl rfl rfl (WL.nil (WE.next (WC.seq (WC.region ?_))))))
 refine WL.call rfl rfl rfl (fun za zh zC => wp_call (by kernel_rfl) rfl (hv0)) (fnew_any _) ?_
 rintro _ w1 ⟨⟨g9, rfl, hF9⟩, hb9⟩
 refine WL.asg rfl rfl rfl rfl rfl (WL.nil (WE.next (WC.seq (WC.region ?_))))
 refine WL.call rfl rfl rfl (fun za zh zC => wp_call (by kernel_rfl) rfl (hv2 (zh.ev rfl) (zh.ev rfl))) (lof_any _ _ _ _ _) ?_
 rintro _ w3 ⟨rfl, hq2⟩
 refine WL.call rfl rfl rfl (fun za zh zC => wp_call (by kernel_rfl) rfl (hv2 (zh.ev rfl) (zh.ev rfl))) (lof_any _ _ _ _ _) ?_
 rintro _ w5 ⟨rfl, hq4⟩
 refine WL.step (post := NewBlk w5 24 #[.int .i64 0, .slice none 0 0]) rfl rfl rfl (fun za zC zh zk => alloc_24 rfl (zk _ _ (newBlk _ _ _))) ?_
 rintro _ w6 ⟨g7, rfl, hg8, hB9, hb10, hz11⟩
 have hb12 : Below w.heap.size w w5 := (bstep (bstep hb9 hq2) hq4)
 have hl13 : w.heap.size ≤ g7 := by have z2 := (hb12).size; omega
 have hb14 : Below w1.heap.size w1 w5 := (bstep hq2 hq4)
 have hl15 : w1.heap.size ≤ g7 := by have z2 := (hb14).size; omega
 refine WL.step (post := NewBlk w6 24 #[.int .i64 0, .slice none 0 0]) rfl rfl rfl (fun za zC zh zk => alloc_24 rfl (zk _ _ (newBlk _ _ _))) ?_
 rintro _ w16 ⟨g17, rfl, hg18, hB19, hb20, hz21⟩
 have hl22 : g7 < g17 := by have z1 := hB9.lt; omega
 have hb23 : Below w.heap.size w w6 := (bstep hb12 hb10)
 have hl24 : w.heap.size ≤ g17 := by have z2 := (hb23).size; omega
 have hb25 : Below w1.heap.size w1 w6 := (bstep hb14 hb10)
 have hl26 : w1.heap.size ≤ g17 := by have z2 := (hb25).size; omega
 have hB27 := hB9.below hb20
 refine WL.step (post := fun _ w' => Upd g7 w16 w' ∧ Blk w' g7 24 #[.int .i64 1, .slice none 0 0]) rfl rfl rfl (fun za zC zh zk => st_24 rfl (zh.ev rfl) (zh.ev rfl) rfl rfl hB27 (by first | decide | simp) (fun v => zk v _ ⟨(Upd.at_ _ _ _ _).trans (Upd.at_ _ _ _ _), (hB27.set_ 0 _).set_ 1 _⟩)) ?_
 rintro v31 w28 ⟨hu29, hB30⟩
 have hb32 : Below w.heap.size w w16 := (bstep hb23 hb20)
 have hb33 : Below w1.heap.size w1 w16 := (bstep hb25 hb20)
 have hb34 := upd_below hb32 hu29 (by omega)
 have hb35 := upd_below hb33 hu29 (by omega)
 have hB36 := upd_blk hB19 hu29 (by omega)
 refine WL.step (post := fun _ w' => Upd g17 w28 w' ∧ Blk w' g17 24 #[.int .i64 ((-1)), .slice none 0 0]) rfl rfl rfl (fun za zC zh zk => st_24 rfl (zh.ev rfl) (zh.ev rfl) rfl rfl hB36 (by first | decide | simp) (fun v => zk v _ ⟨(Upd.at_ _ _ _ _).trans (Upd.at_ _ _ _ _), (hB36.set_ 0 _).set_ 1 _⟩)) ?_
 rintro v40 w37 ⟨hu38, hB39⟩
 have hb41 := upd_below hb34 hu38 (by omega)
 have hb42 := upd_below hb35 hu38 (by omega)
 have hB43 := upd_blk hB30 hu38 (by omega)
 refine WL.nil (WE.next (WC.seq (WC.seq (WC.region (WL.mv rfl rfl rfl rfl rfl ?_)))))
 refine WL.val (.bool false) rfl rfl rfl (fun za zC zh zk => eqlp_27 rfl (zh.ev rfl) (zh.ev rfl) zk) ?_
 refine WL.mv rfl rfl rfl rfl rfl ?_
 refine WL.want (d := 9) rfl rfl rfl ?_
 refine WL.mv rfl rfl rfl rfl rfl ?_
 refine WL.want (d := 9) rfl rfl rfl ?_
 refine WL.val _ rfl rfl rfl (fun za zC zh zk => ld_24 rfl (zh.ev rfl) ((hB39.cell 0).trans rfl) ((hB39.cell 1).trans rfl) zk) ?_
 refine WL.want (d := 9) rfl rfl rfl ?_
 refine WL.val _ rfl rfl rfl (fun za zC zh zk => ld_24 rfl (zh.ev rfl) ((hB43.cell 0).trans rfl) ((hB43.cell 1).trans rfl) zk) ?_
 refine WL.want (d := 9) rfl rfl rfl ?_
 refine WL.step (post := NewRow w37 24 #[.int .i64 ((-1)), .slice none 0 0, .int .i64 1, .slice none 0 0] 2) rfl rfl rfl (fun za zC zh zk => row_22_2 rfl (zh.ev rfl) (zh.ev rfl) (zk _ _ (newRow _ _ _ _))) ?_
 rintro _ w44 ⟨g45, rfl, hg46, hB47, hb48, hz49⟩
 have hl50 : g7 < g45 := by have z1 := hB43.lt; omega
 have hl51 : g17 < g45 := by have z1 := hB39.lt; omega
 have hl52 : w.heap.size ≤ g45 := by have z2 := (hb41).size; omega
 have hl53 : w1.heap.size ≤ g45 := by have z2 := (hb42).size; omega
 refine WL.want (d := 9) rfl rfl rfl ?_
 refine WL.call rfl rfl rfl (fun za zh zC => wp_call (by kernel_rfl) rfl (hv2 (zh.ev rfl) (zh.ev rfl))) (lof_any _ _ _ _ _) ?_
 rintro _ w55 ⟨rfl, hq54⟩
 refine WL.want (d := 9) rfl rfl rfl ?_
 have hb57 : Below w37.heap.size w37 w55 := (bstep hb48 hq54)
 have hB56 := hB43.below hb57
 have hB58 := hB39.below hb57
 have hB59 := hB47.below hq54
 have hq0 : ∀ b, (fun b => w.heap.size ≤ b ∧ b < w1.heap.size) b → w.heap.size ≤ b ∧ b ≠ g7 ∧ b ≠ g17 := fun b q => ⟨by have z := q.1; (have z2 := q.1); omega, by have z := q.2; (have z3 := q.2); omega, by have z := q.2; (have z3 := q.2); omega⟩
 have hT0 : IsT w55 (.mk 2 [(.mk ((-1)) []), (.mk 1 [])]) (.agg #[.int .i64 2, .slice ((some ⟨g45, 0, none⟩)) 2 2]) := (isT_mk (by unfold I64; decide) ⟨_, _, rfl, Nat.le_refl _, by unfold maxLen; decide, ⟨⟨_, 0, _, _, rfl, (hB59.cell _).trans rfl, (hB59.cell _).trans rfl, (isT_lf (by decide))⟩, ⟨⟨_, 0, _, _, rfl, (hB59.cell _).trans rfl, (hB59.cell _).trans rfl, (isT_lf (by decide))⟩, trivial⟩⟩⟩)
 have hb61 : Below w1.heap.size w1 w55 := (bstep hb42 hb57)
 have ho60 := hF9.below hb61
 have hl62 := hB56.lt
 have hl63 := hB58.lt
 refine WL.call rfl rfl rfl (fun za zh zC => wp_call (by kernel_rfl) rfl (hv3 (zh.ev rfl) (zh.ev rfl) (zh.ev rfl))) (fadd_any g9 _ [] _ (.mk 2 [(.mk ((-1)) []), (.mk 1 [])]) _ 1 (by decide) (by unfold I64; decide) (by decide) (by decide) hT0 ho60) ?_
 rintro _ w64 ⟨rfl, ⟨Z0_, hf0_, hz0_⟩, hc0_⟩
 have hb65 : Below w.heap.size w w55 := (bstep hb9 hb61)
 have hb66 := chg_below hb65 hc0_ (fun b hb => (fun h => by have z := hq0 _ h; (try dsimp only at *); omega))
 have hB67 := chg_blk hB56 hc0_ (fun h => by have z := hq0 _ h; (try dsimp only at *); omega)
 have hB68 := chg_blk hB58 hc0_ (fun h => by have z := hq0 _ h; (try dsimp only at *); omega)
 have hw0_ := (hb65).size
 have hq1 : ∀ b, Z0_ b → w.heap.size ≤ b ∧ b ≠ g7 ∧ b ≠ g17 := fun b q => by
  rcases hz0_ b q with q | q
  ·exact hq0 b q
  ·omega
 refine WL.want (d := 9) rfl rfl rfl ?_
 refine WL.val (.bool false) rfl rfl rfl (fun za zC zh zk => neq_29 rfl (zh.ev rfl) (zh.ev rfl) (by rw [show ((0 : Int) != (0 : Int)) = false from rfl]; exact zk)) ?_
 refine WL.val (.bool false) rfl rfl rfl (fun za zC zh zk => wp_pickF rfl (zh.ev rfl) (zh.ev rfl) zk) ?_
 refine WL.mv rfl rfl rfl rfl rfl ?_
 refine WL.want (d := 18) rfl rfl rfl ?_
 refine WL.mv rfl rfl rfl rfl rfl ?_
 refine WL.want (d := 18) rfl rfl rfl ?_
 refine WL.val _ rfl rfl rfl (fun za zC zh zk => ld_24 rfl (zh.ev rfl) ((hB67.cell 0).trans rfl) ((hB67.cell 1).trans rfl) zk) ?_
 refine WL.want (d := 18) rfl rfl rfl ?_
 refine WL.val _ rfl rfl rfl (fun za zC zh zk => ld_24 rfl (zh.ev rfl) ((hB68.cell 0).trans rfl) ((hB68.cell 1).trans rfl) zk) ?_
 refine WL.want (d := 18) rfl rfl rfl ?_
 refine WL.step (post := NewRow w64 24 #[.int .i64 1, .slice none 0 0, .int .i64 ((-1)), .slice none 0 0] 2) rfl rfl rfl (fun za zC zh zk => row_22_2 rfl (zh.ev rfl) (zh.ev rfl) (zk _ _ (newRow _ _ _ _))) ?_
 rintro _ w69 ⟨g70, rfl, hg71, hB72, hb73, hz74⟩
 have hl75 : g7 < g70 := by have z1 := hB67.lt; omega
 have hl76 : g17 < g70 := by have z1 := hB68.lt; omega
 have hl77 : w.heap.size ≤ g70 := by have z2 := (hb66).size; omega
 have hl78 : w64.heap.size ≤ g70 := by omega
 refine WL.want (d := 18) rfl rfl rfl ?_
 refine WL.call rfl rfl rfl (fun za zh zC => wp_call (by kernel_rfl) rfl (hv2 (zh.ev rfl) (zh.ev rfl))) (lof_any _ _ _ _ _) ?_
 rintro _ w80 ⟨rfl, hq79⟩
 refine WL.want (d := 18) rfl rfl rfl ?_
 have hB81 := hB72.below hq79
 have hT1 : IsT w80 (.mk 2 [(.mk 1 []), (.mk ((-1)) [])]) (.agg #[.int .i64 2, .slice ((some ⟨g70, 0, none⟩)) 2 2]) := (isT_mk (by unfold I64; decide) ⟨_, _, rfl, Nat.le_refl _, by unfold maxLen; decide, ⟨⟨_, 0, _, _, rfl, (hB81.cell _).trans rfl, (hB81.cell _).trans rfl, (isT_lf (by decide))⟩, ⟨⟨_, 0, _, _, rfl, (hB81.cell _).trans rfl, (hB81.cell _).trans rfl, (isT_lf (by decide))⟩, trivial⟩⟩⟩)
 have hb83 : Below w64.heap.size w64 w80 := (bstep hb73 hq79)
 have ho82 := hf0_.below hb83
 have hB84 := hB67.below hb83
 have hl85 := hB84.lt
 have hB86 := hB68.below hb83
 have hl87 := hB86.lt
 refine WL.call rfl rfl rfl (fun za zh zC => wp_call (by kernel_rfl) rfl (hv3 (zh.ev rfl) (zh.ev rfl) (zh.ev rfl))) (fadd_any g9 _ [((.mk 2 [(.mk (-1) []), (.mk 1 [])]), 1)] _ (.mk 2 [(.mk 1 []), (.mk ((-1)) [])]) _ 2 (by decide) (by unfold I64; decide) (by decide) (by decide) hT1 ho82) ?_
 rintro _ w88 ⟨rfl, ⟨Z1_, hf1_, hz1_⟩, hc1_⟩
 have hb89 : Below w.heap.size w w80 := (bstep hb66 hb83)
 have hb90 := chg_below hb89 hc1_ (fun b hb => (fun h => by have z := hq1 _ h; (try dsimp only at *); omega))
 have hB91 := chg_blk hB84 hc1_ (fun h => by have z := hq1 _ h; (try dsimp only at *); omega)
 have hB92 := chg_blk hB86 hc1_ (fun h => by have z := hq1 _ h; (try dsimp only at *); omega)
 have hw1_ := (hb89).size
 have hq2 : ∀ b, Z1_ b → w.heap.size ≤ b ∧ b ≠ g7 ∧ b ≠ g17 := fun b q => by
  rcases hz1_ b q with q | q
  ·exact hq1 b q
  ·omega
 refine WL.want (d := 18) rfl rfl rfl ?_
 refine WL.val (.bool false) rfl rfl rfl (fun za zC zh zk => neq_29 rfl (zh.ev rfl) (zh.ev rfl) (by rw [show ((0 : Int) != (0 : Int)) = false from rfl]; exact zk)) ?_
 refine WL.val (.bool false) rfl rfl rfl (fun za zC zh zk => wp_pickF rfl (zh.ev rfl) (zh.ev rfl) zk) ?_
 refine WL.mv rfl rfl rfl rfl rfl ?_
 refine WL.want (d := 27) rfl rfl rfl ?_
 refine WL.mv rfl rfl rfl rfl rfl ?_
 refine WL.want (d := 27) rfl rfl rfl ?_
 refine WL.val _ rfl rfl rfl (fun za zC zh zk => ld_24 rfl (zh.ev rfl) ((hB92.cell 0).trans rfl) ((hB92.cell 1).trans rfl) zk) ?_
 refine WL.want (d := 27) rfl rfl rfl ?_
 have hT2 : IsT w88 (.mk ((-1)) []) (.agg #[.int .i64 ((-1)), .slice none 0 0]) := (isT_lf (by decide))
 have hl93 := hB91.lt
 have hl94 := hB92.lt
 refine WL.call rfl rfl rfl (fun za zh zC => wp_call (by kernel_rfl) rfl (hv3 (zh.ev rfl) (zh.ev rfl) (zh.ev rfl))) (fadd_any g9 _ [((.mk 2 [(.mk (-1) []), (.mk 1 [])]), 1), ((.mk 2 [(.mk 1 []), (.mk (-1) [])]), 2)] _ (.mk ((-1)) []) _ 3 (by decide) (by unfold I64; decide) (by decide) (by decide) hT2 hf1_) ?_
 rintro _ w95 ⟨rfl, ⟨Z2_, hf2_, hz2_⟩, hc2_⟩
 have hb96 := chg_below hb90 hc2_ (fun b hb => (fun h => by have z := hq2 _ h; (try dsimp only at *); omega))
 have hB97 := chg_blk hB91 hc2_ (fun h => by have z := hq2 _ h; (try dsimp only at *); omega)
 have hB98 := chg_blk hB92 hc2_ (fun h => by have z := hq2 _ h; (try dsimp only at *); omega)
 have hw2_ := (hb90).size
 have hq3 : ∀ b, Z2_ b → w.heap.size ≤ b ∧ b ≠ g7 ∧ b ≠ g17 := fun b q => by
  rcases hz2_ b q with q | q
  ·exact hq2 b q
  ·omega
 refine WL.want (d := 27) rfl rfl rfl ?_
 refine WL.val (.bool false) rfl rfl rfl (fun za zC zh zk => neq_29 rfl (zh.ev rfl) (zh.ev rfl) (by rw [show ((0 : Int) != (0 : Int)) = false from rfl]; exact zk)) ?_
 refine WL.val (.bool false) rfl rfl rfl (fun za zC zh zk => wp_pickF rfl (zh.ev rfl) (zh.ev rfl) zk) ?_
 refine WL.mv rfl rfl rfl rfl rfl ?_
 refine WL.want (d := 33) rfl rfl rfl ?_
 refine WL.mv rfl rfl rfl rfl rfl ?_
 refine WL.want (d := 33) rfl rfl rfl ?_
 refine WL.val _ rfl rfl rfl (fun za zC zh zk => ld_24 rfl (zh.ev rfl) ((hB97.cell 0).trans rfl) ((hB97.cell 1).trans rfl) zk) ?_
 refine WL.want (d := 33) rfl rfl rfl ?_
 have hT3 : IsT w95 (.mk 1 []) (.agg #[.int .i64 1, .slice none 0 0]) := (isT_lf (by decide))
 have hl99 := hB97.lt
 have hl100 := hB98.lt
 refine WL.call rfl rfl rfl (fun za zh zC => wp_call (by kernel_rfl) rfl (hv3 (zh.ev rfl) (zh.ev rfl) (zh.ev rfl))) (fadd_any g9 _ [((.mk 2 [(.mk (-1) []), (.mk 1 [])]), 1), ((.mk 2 [(.mk 1 []), (.mk (-1) [])]), 2), ((.mk (-1) []), 3)] _ (.mk 1 []) _ 4 (by decide) (by unfold I64; decide) (by decide) (by decide) hT3 hf2_) ?_
 rintro _ w101 ⟨rfl, ⟨Z3_, hf3_, hz3_⟩, hc3_⟩
 have hb102 := chg_below hb96 hc3_ (fun b hb => (fun h => by have z := hq3 _ h; (try dsimp only at *); omega))
 have hB103 := chg_blk hB97 hc3_ (fun h => by have z := hq3 _ h; (try dsimp only at *); omega)
 have hB104 := chg_blk hB98 hc3_ (fun h => by have z := hq3 _ h; (try dsimp only at *); omega)
 have hw3_ := (hb96).size
 have hq4 : ∀ b, Z3_ b → w.heap.size ≤ b ∧ b ≠ g7 ∧ b ≠ g17 := fun b q => by
  rcases hz3_ b q with q | q
  ·exact hq3 b q
  ·omega
 refine WL.want (d := 33) rfl rfl rfl ?_
 refine WL.val (.bool false) rfl rfl rfl (fun za zC zh zk => neq_29 rfl (zh.ev rfl) (zh.ev rfl) (by rw [show ((0 : Int) != (0 : Int)) = false from rfl]; exact zk)) ?_
 refine WL.val (.bool false) rfl rfl rfl (fun za zC zh zk => wp_pickF rfl (zh.ev rfl) (zh.ev rfl) zk) ?_
 refine WL.nil (WE.sub (K' := [(0, .bool false), (1, .pointer (some ⟨g9, 0, none⟩)), (2, .pointer (some ⟨g7, 0, none⟩)), (3, .pointer (some ⟨g17, 0, none⟩)), (38, .bool false)]) ⟨rfl, rfl, rfl, rfl, rfl, trivial⟩ ?_)
 refine WE.next ?_
 refine WC.condF rfl rfl ?_
 refine WC.skip (WE.next (WC.seq ?_))
 refine WC.opt [(true, .val (.pointer (some ⟨g9, 0, none⟩))), (true, .val (.agg #[.int .i64 1, .slice none 0 0])), (true, .val (.agg #[.int .i64 1, .slice none 0 0])), (true, .mem (fun v w => RowT ([(.mk 1 []), (.mk 1 [])]) v w) (fun v w w' hb h => h.below hb)), (true, .mem (fun v w => IsT w ((.mk 2 [(.mk 1 []), (.mk 1 [])])) v) isT_keep), (true, .mem (fun v w => Told0 w [1, 2, 3] v) (fun v w w' hb h => h.below hb)), (true, .mem (fun v w => Told0 w [1, 2, 3] v) (fun v w w' hb h => h.below hb)), (true, .val (.bool true)), (true, .val (.bool true)), ((true && true), .val (.pointer (some ⟨g9, 0, none⟩))), ((true && true), .val (.agg #[.int .i64 1, .slice none 0 0])), ((true && true), .mem (fun v w => Told0 w [3, 4] v) (fun v w w' hb h => h.below hb)), ((true && true), .mem (fun v w => Told0 w [3, 4] v) (fun v w w' hb h => h.below hb)), ((true && true), .val (.bool true)), (true, .val (.bool true)), (true, .val (.bool true)), ((true && true), .val (.pointer (some ⟨g9, 0, none⟩))), ((true && true), .val (.agg #[.int .i64 ((-1)), .slice none 0 0])), ((true && true), .mem (fun v w => IsT w ((.mk ((-2)) [])) v) isT_keep), ((true && true), .mem (fun v w => RowT ([(.mk ((-1)) []), (.mk ((-2)) [])]) v w) (fun v w w' hb h => h.below hb)), ((true && true), .mem (fun v w => IsT w ((.mk 2 [(.mk ((-1)) []), (.mk ((-2)) [])])) v) isT_keep), ((true && true), .mem (fun v w => Told0 w [3] v) (fun v w w' hb h => h.below hb)), ((true && true), .mem (fun v w => Told0 w [3] v) (fun v w w' hb h => h.below hb)), ((true && true), .val (.bool true)), (true, .val (.bool true)), (true, .val (.bool true)), ((true && true), .val (.pointer (some ⟨g9, 0, none⟩))), ((true && true), .val (.agg #[.int .i64 ((-1)), .slice none 0 0])), ((true && true), .mem (fun v w => IsT w ((.mk ((-2)) [])) v) isT_keep), ((true && true), .mem (fun v w => RowT ([(.mk ((-1)) []), (.mk ((-2)) [])]) v w) (fun v w w' hb h => h.below hb)), ((true && true), .mem (fun v w => IsT w ((.mk 2 [(.mk ((-1)) []), (.mk ((-2)) [])])) v) isT_keep), ((true && true), .mem (fun v w => Told0 w [1, 2] v) (fun v w w' hb h => h.below hb)), ((true && true), .mem (fun v w => Told0 w [1, 2] v) (fun v w w' hb h => h.below hb)), ((true && true), .val (.bool true)), (true, .val (.bool true)), (true, .val (.bool true)), ((true && true), .val (.pointer (some ⟨g9, 0, none⟩))), ((true && true), .val (.int .i64 (((List.length wkB : Nat) : Int)))), ((true && true), .val (.bool true)), (true, .val (.bool true)), (true, .val (.bool true)), ((true && true), .val (.pointer (some ⟨g9, 0, none⟩))), ((true && true), .val (.agg #[.int .i64 1, .slice none 0 0])), ((true && true), .val (.int .i64 2)), ((true && true), .val (.bool true)), (true, .val (.bool true)), (true, .val (.bool true))] [(1, .pointer (some ⟨g9, 0, none⟩)), (2, .pointer (some ⟨g7, 0, none⟩)), (3, .pointer (some ⟨g17, 0, none⟩)), (38, .bool false)] ⟨rfl, rfl, rfl, rfl, trivial⟩ (by kernel_rfl) (by kernel_rfl) (by kernel_rfl) ?_ ?_
 ·refine ⟨⟨true, .none rfl, fun h w => optUndef h, fun zβ za zw zc => ?_⟩, ?_⟩
  ·exact wp_move rfl (zc.kn.ev rfl) ⟨_, rfl, Below.refl _ _, optDef zβ rfl⟩
  refine ⟨⟨true, .none rfl, fun h w => optUndef h, fun zβ za zw zc => ?_⟩, ?_⟩
  ·exact ld_24 rfl (zc.kn.ev rfl) (bkeeps zc.below _ _ ((hB103.cell 0).trans rfl)) (bkeeps zc.below _ _ ((hB103.cell 1).trans rfl)) ⟨_, rfl, Below.refl _ _, optDef zβ rfl⟩
  refine ⟨⟨true, .none rfl, fun h w => optUndef h, fun zβ za zw zc => ?_⟩, ?_⟩
  ·exact ld_24 rfl (zc.kn.ev rfl) (bkeeps zc.below _ _ ((hB103.cell 0).trans rfl)) (bkeeps zc.below _ _ ((hB103.cell 1).trans rfl)) ⟨_, rfl, Below.refl _ _, optDef zβ rfl⟩
  refine ⟨⟨true, .none rfl, fun h w => optUndef h, fun zβ za zw zc => ?_⟩, ?_⟩
  ·have m0 : IsT zw (.mk 1 []) (.agg #[.int .i64 1, .slice none 0 0]) := isT_lf (by decide)
   have E0 := ((evt za 40).trans (optVal (zc.dep 1 40 (by kernel_rfl)) rfl rfl))
   have m1 : IsT zw (.mk 1 []) (.agg #[.int .i64 1, .slice none 0 0]) := isT_lf (by decide)
   have E1 := ((evt za 41).trans (optVal (zc.dep 2 41 (by kernel_rfl)) rfl rfl))
   exact row_22_2 rfl E0 E1 ⟨_, rfl, balloc _ _, optDef zβ ⟨_, _, rfl, Nat.le_refl _, by unfold maxLen; decide, ⟨⟨_, 0, _, _, rfl, (Blk.cell (Blk.new' rfl) _).trans rfl, (Blk.cell (Blk.new' rfl) _).trans rfl, IsT.below (balloc _ _) m0⟩, ⟨⟨_, 0, _, _, rfl, (Blk.cell (Blk.new' rfl) _).trans rfl, (Blk.cell (Blk.new' rfl) _).trans rfl, IsT.below (balloc _ _) m1⟩, trivial⟩⟩⟩⟩
  refine ⟨⟨true, .none rfl, fun h w => optUndef h, fun zβ za zw zc => ?_⟩, ?_⟩
  ·obtain ⟨a1, c1, e1, hr1⟩ := (optMem (zc.dep 3 42 (by kernel_rfl)) rfl rfl)
   have m1 := (optMem (zc.dep 3 42 (by kernel_rfl)) rfl rfl)
   rw [e1] at m1
   exact wp_call (by kernel_rfl) rfl (hv2 (zc.kn.ev rfl) (((evt za 42)).trans e1)) (lof_any _ _ _ _ _) (fun v w' h => ⟨v, rfl, h.2, optDef zβ (by rw [h.1]; exact isT_mk (by unfold I64; decide) (m1.below h.2))⟩)
  refine ⟨⟨true, .none rfl, fun h w => optUndef h, fun zβ za zw zc => ?_⟩, ?_⟩
  ·obtain ⟨_, aq, cq, eq, _, _, _⟩ := IsT.form (optMem (zc.dep 4 43 (by kernel_rfl)) rfl rfl)
   have mq := (optMem (zc.dep 4 43 (by kernel_rfl)) rfl rfl)
   rw [eq] at mq
   have Eq := ((evt za 43)).trans eq
   exact wp_call (by kernel_rfl) rfl (hv2 ((evt za 39).trans (optVal (zc.dep 0 39 (by kernel_rfl)) rfl rfl)) Eq) (fUni_any g9 _ wkB _ (.mk 2 [(.mk 1 []), (.mk 1 [])]) _ (by decide) mq (FpIs.below hf3_ zc.below)) (fun v w' h => ⟨v, rfl, h.2, optDef zβ (told0 h.1 wk1)⟩)
  refine ⟨⟨true, .none rfl, fun h w => optUndef h, fun zβ za zw zc => ?_⟩, ?_⟩
  ·exact row_31_3 rfl (zc.kn.ev rfl) (zc.kn.ev rfl) (zc.kn.ev rfl) ⟨_, rfl, balloc _ _, optDef zβ (told_blk (l := [1, 2, 3]) (Blk.new' rfl))⟩
  refine ⟨⟨true, .none rfl, fun h w => optUndef h, fun zβ za zw zc => ?_⟩, ?_⟩
  ·exact wp_call (by kernel_rfl) rfl (hv2 (evt za 44) (evt za 45)) (row_told (optMem (zc.dep 5 44 (by kernel_rfl)) rfl rfl) (optMem (zc.dep 6 45 (by kernel_rfl)) rfl rfl) (by decide)) (fun v w' h => ⟨v, rfl, h.2, optDef zβ h.1⟩)
  refine ⟨⟨true, .none rfl, fun h w => optUndef h, fun zβ za zw zc => ?_⟩, ?_⟩
  ·exact wp_move rfl ((evt za 46).trans (optVal (zc.dep 7 46 (by kernel_rfl)) rfl rfl)) ⟨_, rfl, Below.refl _ _, optDef zβ rfl⟩
  refine ⟨⟨_, .yes (d := true) rfl (fun v w h => h), fun h w => optUndef h, fun zβ za zw zc => ?_⟩, ?_⟩
  ·exact wp_move rfl (zc.kn.ev rfl) ⟨_, rfl, Below.refl _ _, optDef zβ rfl⟩
  refine ⟨⟨_, .yes (d := true) rfl (fun v w h => h), fun h w => optUndef h, fun zβ za zw zc => ?_⟩, ?_⟩
  ·exact ld_24 rfl (zc.kn.ev rfl) (bkeeps zc.below _ _ ((hB103.cell 0).trans rfl)) (bkeeps zc.below _ _ ((hB103.cell 1).trans rfl)) ⟨_, rfl, Below.refl _ _, optDef zβ rfl⟩
  refine ⟨⟨_, .yes (d := true) rfl (fun v w h => h), fun h w => optUndef h, fun zβ za zw zc => ?_⟩, ?_⟩
  ·have mq : IsT zw (.mk 1 []) (.agg #[.int .i64 1, .slice none 0 0]) := isT_lf (by decide)
   have Eq := ((evt za 49).trans (optVal (zc.dep 10 49 (by kernel_rfl)) rfl rfl))
   exact wp_call (by kernel_rfl) rfl (hv2 ((evt za 48).trans (optVal (zc.dep 9 48 (by kernel_rfl)) rfl rfl)) Eq) (fUni_any g9 _ wkB _ (.mk 1 []) _ (by decide) mq (FpIs.below hf3_ zc.below)) (fun v w' h => ⟨v, rfl, h.2, optDef zβ (told0 h.1 wk2)⟩)
  refine ⟨⟨_, .yes (d := true) rfl (fun v w h => h), fun h w => optUndef h, fun zβ za zw zc => ?_⟩, ?_⟩
  ·exact row_31_2 rfl (zc.kn.ev rfl) (zc.kn.ev rfl) ⟨_, rfl, balloc _ _, optDef zβ (told_blk (l := [3, 4]) (Blk.new' rfl))⟩
  refine ⟨⟨_, .yes (d := true) rfl (fun v w h => h), fun h w => optUndef h, fun zβ za zw zc => ?_⟩, ?_⟩
  ·exact wp_call (by kernel_rfl) rfl (hv2 (evt za 50) (evt za 51)) (row_told (optMem (zc.dep 11 50 (by kernel_rfl)) rfl rfl) (optMem (zc.dep 12 51 (by kernel_rfl)) rfl rfl) (by decide)) (fun v w' h => ⟨v, rfl, h.2, optDef zβ h.1⟩)
  refine ⟨⟨true, .none rfl, fun h w => optUndef h, fun zβ za zw zc => ?_⟩, ?_⟩
  ·exact wp_pickT rfl ((evt za 47).trans (optVal (zc.dep 8 47 (by kernel_rfl)) rfl rfl)) ((evt za 52).trans (optVal (zc.dep 13 52 (by kernel_rfl)) rfl rfl)) ⟨_, rfl, Below.refl _ _, optDef zβ rfl⟩
  refine ⟨⟨true, .none rfl, fun h w => optUndef h, fun zβ za zw zc => ?_⟩, ?_⟩
  ·exact wp_move rfl ((evt za 53).trans (optVal (zc.dep 14 53 (by kernel_rfl)) rfl rfl)) ⟨_, rfl, Below.refl _ _, optDef zβ rfl⟩
  refine ⟨⟨_, .yes (d := true) rfl (fun v w h => h), fun h w => optUndef h, fun zβ za zw zc => ?_⟩, ?_⟩
  ·exact wp_move rfl (zc.kn.ev rfl) ⟨_, rfl, Below.refl _ _, optDef zβ rfl⟩
  refine ⟨⟨_, .yes (d := true) rfl (fun v w h => h), fun h w => optUndef h, fun zβ za zw zc => ?_⟩, ?_⟩
  ·exact ld_24 rfl (zc.kn.ev rfl) (bkeeps zc.below _ _ ((hB104.cell 0).trans rfl)) (bkeeps zc.below _ _ ((hB104.cell 1).trans rfl)) ⟨_, rfl, Below.refl _ _, optDef zβ rfl⟩
  refine ⟨⟨_, .yes (d := true) rfl (fun v w h => h), fun h w => optUndef h, fun zβ za zw zc => ?_⟩, ?_⟩
  ·exact wp_call (by kernel_rfl) rfl (hv2 (zc.kn.ev rfl) (zc.kn.ev rfl)) (lof_any _ _ _ _ _) (fun v w' h => ⟨v, rfl, h.2, optDef zβ (by rw [h.1]; exact isT_lf (by decide))⟩)
  refine ⟨⟨_, .yes (d := true) rfl (fun v w h => h), fun h w => optUndef h, fun zβ za zw zc => ?_⟩, ?_⟩
  ·have m0 : IsT zw (.mk ((-1)) []) (.agg #[.int .i64 ((-1)), .slice none 0 0]) := isT_lf (by decide)
   have E0 := ((evt za 56).trans (optVal (zc.dep 17 56 (by kernel_rfl)) rfl rfl))
   obtain ⟨_, a1, c1, e1, _, _, _⟩ := IsT.form (optMem (zc.dep 18 57 (by kernel_rfl)) rfl rfl)
   have m1 := (optMem (zc.dep 18 57 (by kernel_rfl)) rfl rfl)
   rw [e1] at m1
   have E1 := ((evt za 57)).trans e1
   exact row_22_2 rfl E0 E1 ⟨_, rfl, balloc _ _, optDef zβ ⟨_, _, rfl, Nat.le_refl _, by unfold maxLen; decide, ⟨⟨_, 0, _, _, rfl, (Blk.cell (Blk.new' rfl) _).trans rfl, (Blk.cell (Blk.new' rfl) _).trans rfl, IsT.below (balloc _ _) m0⟩, ⟨⟨_, 0, _, _, rfl, (Blk.cell (Blk.new' rfl) _).trans rfl, (Blk.cell (Blk.new' rfl) _).trans rfl, IsT.below (balloc _ _) m1⟩, trivial⟩⟩⟩⟩
  refine ⟨⟨_, .yes (d := true) rfl (fun v w h => h), fun h w => optUndef h, fun zβ za zw zc => ?_⟩, ?_⟩
  ·obtain ⟨a1, c1, e1, hr1⟩ := (optMem (zc.dep 19 58 (by kernel_rfl)) rfl rfl)
   have m1 := (optMem (zc.dep 19 58 (by kernel_rfl)) rfl rfl)
   rw [e1] at m1
   exact wp_call (by kernel_rfl) rfl (hv2 (zc.kn.ev rfl) (((evt za 58)).trans e1)) (lof_any _ _ _ _ _) (fun v w' h => ⟨v, rfl, h.2, optDef zβ (by rw [h.1]; exact isT_mk (by unfold I64; decide) (m1.below h.2))⟩)
  refine ⟨⟨_, .yes (d := true) rfl (fun v w h => h), fun h w => optUndef h, fun zβ za zw zc => ?_⟩, ?_⟩
  ·obtain ⟨_, aq, cq, eq, _, _, _⟩ := IsT.form (optMem (zc.dep 20 59 (by kernel_rfl)) rfl rfl)
   have mq := (optMem (zc.dep 20 59 (by kernel_rfl)) rfl rfl)
   rw [eq] at mq
   have Eq := ((evt za 59)).trans eq
   exact wp_call (by kernel_rfl) rfl (hv2 ((evt za 55).trans (optVal (zc.dep 16 55 (by kernel_rfl)) rfl rfl)) Eq) (fGen_any g9 _ wkB _ (.mk 2 [(.mk ((-1)) []), (.mk ((-2)) [])]) _ (by decide) mq (FpIs.below hf3_ zc.below)) (fun v w' h => ⟨v, rfl, h.2, optDef zβ (told0 h.1 wk3)⟩)
  refine ⟨⟨_, .yes (d := true) rfl (fun v w h => h), fun h w => optUndef h, fun zβ za zw zc => ?_⟩, ?_⟩
  ·exact row_31_1 rfl (zc.kn.ev rfl) ⟨_, rfl, balloc _ _, optDef zβ (told_blk (l := [3]) (Blk.new' rfl))⟩
  refine ⟨⟨_, .yes (d := true) rfl (fun v w h => h), fun h w => optUndef h, fun zβ za zw zc => ?_⟩, ?_⟩
  ·exact wp_call (by kernel_rfl) rfl (hv2 (evt za 60) (evt za 61)) (row_told (optMem (zc.dep 21 60 (by kernel_rfl)) rfl rfl) (optMem (zc.dep 22 61 (by kernel_rfl)) rfl rfl) (by decide)) (fun v w' h => ⟨v, rfl, h.2, optDef zβ h.1⟩)
  refine ⟨⟨true, .none rfl, fun h w => optUndef h, fun zβ za zw zc => ?_⟩, ?_⟩
  ·exact wp_pickT rfl ((evt za 54).trans (optVal (zc.dep 15 54 (by kernel_rfl)) rfl rfl)) ((evt za 62).trans (optVal (zc.dep 23 62 (by kernel_rfl)) rfl rfl)) ⟨_, rfl, Below.refl _ _, optDef zβ rfl⟩
  refine ⟨⟨true, .none rfl, fun h w => optUndef h, fun zβ za zw zc => ?_⟩, ?_⟩
  ·exact wp_move rfl ((evt za 63).trans (optVal (zc.dep 24 63 (by kernel_rfl)) rfl rfl)) ⟨_, rfl, Below.refl _ _, optDef zβ rfl⟩
  refine ⟨⟨_, .yes (d := true) rfl (fun v w h => h), fun h w => optUndef h, fun zβ za zw zc => ?_⟩, ?_⟩
  ·exact wp_move rfl (zc.kn.ev rfl) ⟨_, rfl, Below.refl _ _, optDef zβ rfl⟩
  refine ⟨⟨_, .yes (d := true) rfl (fun v w h => h), fun h w => optUndef h, fun zβ za zw zc => ?_⟩, ?_⟩
  ·exact ld_24 rfl (zc.kn.ev rfl) (bkeeps zc.below _ _ ((hB104.cell 0).trans rfl)) (bkeeps zc.below _ _ ((hB104.cell 1).trans rfl)) ⟨_, rfl, Below.refl _ _, optDef zβ rfl⟩
  refine ⟨⟨_, .yes (d := true) rfl (fun v w h => h), fun h w => optUndef h, fun zβ za zw zc => ?_⟩, ?_⟩
  ·exact wp_call (by kernel_rfl) rfl (hv2 (zc.kn.ev rfl) (zc.kn.ev rfl)) (lof_any _ _ _ _ _) (fun v w' h => ⟨v, rfl, h.2, optDef zβ (by rw [h.1]; exact isT_lf (by decide))⟩)
  refine ⟨⟨_, .yes (d := true) rfl (fun v w h => h), fun h w => optUndef h, fun zβ za zw zc => ?_⟩, ?_⟩
  ·have m0 : IsT zw (.mk ((-1)) []) (.agg #[.int .i64 ((-1)), .slice none 0 0]) := isT_lf (by decide)
   have E0 := ((evt za 66).trans (optVal (zc.dep 27 66 (by kernel_rfl)) rfl rfl))
   obtain ⟨_, a1, c1, e1, _, _, _⟩ := IsT.form (optMem (zc.dep 28 67 (by kernel_rfl)) rfl rfl)
   have m1 := (optMem (zc.dep 28 67 (by kernel_rfl)) rfl rfl)
   rw [e1] at m1
   have E1 := ((evt za 67)).trans e1
   exact row_22_2 rfl E0 E1 ⟨_, rfl, balloc _ _, optDef zβ ⟨_, _, rfl, Nat.le_refl _, by unfold maxLen; decide, ⟨⟨_, 0, _, _, rfl, (Blk.cell (Blk.new' rfl) _).trans rfl, (Blk.cell (Blk.new' rfl) _).trans rfl, IsT.below (balloc _ _) m0⟩, ⟨⟨_, 0, _, _, rfl, (Blk.cell (Blk.new' rfl) _).trans rfl, (Blk.cell (Blk.new' rfl) _).trans rfl, IsT.below (balloc _ _) m1⟩, trivial⟩⟩⟩⟩
  refine ⟨⟨_, .yes (d := true) rfl (fun v w h => h), fun h w => optUndef h, fun zβ za zw zc => ?_⟩, ?_⟩
  ·obtain ⟨a1, c1, e1, hr1⟩ := (optMem (zc.dep 29 68 (by kernel_rfl)) rfl rfl)
   have m1 := (optMem (zc.dep 29 68 (by kernel_rfl)) rfl rfl)
   rw [e1] at m1
   exact wp_call (by kernel_rfl) rfl (hv2 (zc.kn.ev rfl) (((evt za 68)).trans e1)) (lof_any _ _ _ _ _) (fun v w' h => ⟨v, rfl, h.2, optDef zβ (by rw [h.1]; exact isT_mk (by unfold I64; decide) (m1.below h.2))⟩)
  refine ⟨⟨_, .yes (d := true) rfl (fun v w h => h), fun h w => optUndef h, fun zβ za zw zc => ?_⟩, ?_⟩
  ·obtain ⟨_, aq, cq, eq, _, _, _⟩ := IsT.form (optMem (zc.dep 30 69 (by kernel_rfl)) rfl rfl)
   have mq := (optMem (zc.dep 30 69 (by kernel_rfl)) rfl rfl)
   rw [eq] at mq
   have Eq := ((evt za 69)).trans eq
   exact wp_call (by kernel_rfl) rfl (hv2 ((evt za 65).trans (optVal (zc.dep 26 65 (by kernel_rfl)) rfl rfl)) Eq) (fIns_any g9 _ wkB _ (.mk 2 [(.mk ((-1)) []), (.mk ((-2)) [])]) _ (by decide) mq (FpIs.below hf3_ zc.below)) (fun v w' h => ⟨v, rfl, h.2, optDef zβ (told0 h.1 wk4)⟩)
  refine ⟨⟨_, .yes (d := true) rfl (fun v w h => h), fun h w => optUndef h, fun zβ za zw zc => ?_⟩, ?_⟩
  ·exact row_31_2 rfl (zc.kn.ev rfl) (zc.kn.ev rfl) ⟨_, rfl, balloc _ _, optDef zβ (told_blk (l := [1, 2]) (Blk.new' rfl))⟩
  refine ⟨⟨_, .yes (d := true) rfl (fun v w h => h), fun h w => optUndef h, fun zβ za zw zc => ?_⟩, ?_⟩
  ·exact wp_call (by kernel_rfl) rfl (hv2 (evt za 70) (evt za 71)) (row_told (optMem (zc.dep 31 70 (by kernel_rfl)) rfl rfl) (optMem (zc.dep 32 71 (by kernel_rfl)) rfl rfl) (by decide)) (fun v w' h => ⟨v, rfl, h.2, optDef zβ h.1⟩)
  refine ⟨⟨true, .none rfl, fun h w => optUndef h, fun zβ za zw zc => ?_⟩, ?_⟩
  ·exact wp_pickT rfl ((evt za 64).trans (optVal (zc.dep 25 64 (by kernel_rfl)) rfl rfl)) ((evt za 72).trans (optVal (zc.dep 33 72 (by kernel_rfl)) rfl rfl)) ⟨_, rfl, Below.refl _ _, optDef zβ rfl⟩
  refine ⟨⟨true, .none rfl, fun h w => optUndef h, fun zβ za zw zc => ?_⟩, ?_⟩
  ·exact wp_move rfl ((evt za 73).trans (optVal (zc.dep 34 73 (by kernel_rfl)) rfl rfl)) ⟨_, rfl, Below.refl _ _, optDef zβ rfl⟩
  refine ⟨⟨_, .yes (d := true) rfl (fun v w h => h), fun h w => optUndef h, fun zβ za zw zc => ?_⟩, ?_⟩
  ·exact wp_move rfl (zc.kn.ev rfl) ⟨_, rfl, Below.refl _ _, optDef zβ rfl⟩
  refine ⟨⟨_, .yes (d := true) rfl (fun v w h => h), fun h w => optUndef h, fun zβ za zw zc => ?_⟩, ?_⟩
  ·exact wp_call (by kernel_rfl) rfl (hv1 ((evt za 75).trans (optVal (zc.dep 36 75 (by kernel_rfl)) rfl rfl))) (flen_any g9 _ wkB _ (FpIs.below hf3_ zc.below)) (fun v w' h => ⟨v, rfl, h.2, optDef zβ h.1⟩)
  refine ⟨⟨_, .yes (d := true) rfl (fun v w h => h), fun h w => optUndef h, fun zβ za zw zc => ?_⟩, ?_⟩
  ·exact eql_3 rfl ((evt za 76).trans (optVal (zc.dep 37 76 (by kernel_rfl)) rfl rfl)) (zc.kn.ev rfl) (by rw [show ((((List.length wkB : Nat) : Int) : Int) == (4 : Int)) = true from rfl]; exact ⟨_, rfl, Below.refl _ _, optDef zβ rfl⟩)
  refine ⟨⟨true, .none rfl, fun h w => optUndef h, fun zβ za zw zc => ?_⟩, ?_⟩
  ·exact wp_pickT rfl ((evt za 74).trans (optVal (zc.dep 35 74 (by kernel_rfl)) rfl rfl)) ((evt za 77).trans (optVal (zc.dep 38 77 (by kernel_rfl)) rfl rfl)) ⟨_, rfl, Below.refl _ _, optDef zβ rfl⟩
  refine ⟨⟨true, .none rfl, fun h w => optUndef h, fun zβ za zw zc => ?_⟩, ?_⟩
  ·exact wp_move rfl ((evt za 78).trans (optVal (zc.dep 39 78 (by kernel_rfl)) rfl rfl)) ⟨_, rfl, Below.refl _ _, optDef zβ rfl⟩
  refine ⟨⟨_, .yes (d := true) rfl (fun v w h => h), fun h w => optUndef h, fun zβ za zw zc => ?_⟩, ?_⟩
  ·exact wp_move rfl (zc.kn.ev rfl) ⟨_, rfl, Below.refl _ _, optDef zβ rfl⟩
  refine ⟨⟨_, .yes (d := true) rfl (fun v w h => h), fun h w => optUndef h, fun zβ za zw zc => ?_⟩, ?_⟩
  ·exact ld_24 rfl (zc.kn.ev rfl) (bkeeps zc.below _ _ ((hB103.cell 0).trans rfl)) (bkeeps zc.below _ _ ((hB103.cell 1).trans rfl)) ⟨_, rfl, Below.refl _ _, optDef zβ rfl⟩
  refine ⟨⟨_, .yes (d := true) rfl (fun v w h => h), fun h w => optUndef h, fun zβ za zw zc => ?_⟩, ?_⟩
  ·exact wp_call (by kernel_rfl) rfl (hv3 ((evt za 80).trans (optVal (zc.dep 41 80 (by kernel_rfl)) rfl rfl)) ((evt za 81).trans (optVal (zc.dep 42 81 (by kernel_rfl)) rfl rfl)) (zc.kn.ev rfl)) (fadd_no g9 _ _ _ (.agg #[.int .i64 1, .slice none 0 0]) _ _ _ _ _ (by decide) (FpIs.below hf3_ zc.below)) (fun v w' h => ⟨v, rfl, h.2, optDef zβ h.1⟩)
  refine ⟨⟨_, .yes (d := true) rfl (fun v w h => h), fun h w => optUndef h, fun zβ za zw zc => ?_⟩, ?_⟩
  ·exact eql_29 rfl ((evt za 82).trans (optVal (zc.dep 43 82 (by kernel_rfl)) rfl rfl)) (zc.kn.ev rfl) (by rw [show ((2 : Int) == (2 : Int)) = true from rfl]; exact ⟨_, rfl, Below.refl _ _, optDef zβ rfl⟩)
  refine ⟨⟨true, .none rfl, fun h w => optUndef h, fun zβ za zw zc => ?_⟩, ?_⟩
  ·exact wp_pickT rfl ((evt za 79).trans (optVal (zc.dep 40 79 (by kernel_rfl)) rfl rfl)) ((evt za 83).trans (optVal (zc.dep 44 83 (by kernel_rfl)) rfl rfl)) ⟨_, rfl, Below.refl _ _, optDef zβ rfl⟩
  refine ⟨⟨true, .none rfl, fun h w => optUndef h, fun zβ za zw zc => ?_⟩, ?_⟩
  ·exact wp_assign rfl ((evt za 84).trans (optVal (zc.dep 45 84 (by kernel_rfl)) rfl rfl)) ⟨_, rfl, Below.refl _ _, optDef zβ rfl⟩
  exact trivial
 ·intro za w107 zh hb108 zu
  have zh := zh.cons (d := 0) (v := .bool true) (optVal (zu 46 0 (by kernel_rfl)) rfl rfl)
  clear zu
  refine WE.go zh ?_
  refine WE.next (WC.ret (WE.ret1 rfl rfl ?_))
  have hb109 : Below w.heap.size w w107 := (bstep hb102 hb108)
  exact ⟨_, rfl, rfl, hb109⟩
set_option maxRecDepth 100000 in
theorem nil_any (t : T) (id : Int) (v : Value) (w : World) (hv : IsT w t v) : Calls Try.prog 4 #[v, .int .i64 id] w (Ret fun v' w' => v' = .bool true ∧ Below w.heap.size w w') := by
 obtain ⟨_, a, c, rfl, _, _, _⟩ := hv.form
 refine Calls.walk (l := [.agg #[.int .i64 t.f, .slice a t.args.length c], .int .i64 id]) Try.func4 rfl (by kernel_rfl) ?_
 refine WC.sub (K' := [(0, .agg #[.int .i64 t.f, .slice a t.args.length c]), (1, .int .i64 id)]) ⟨rfl, rfl, trivial⟩ ?_
 refine WC.seq (WC.region ?_)
 refine WL.step (post := NewBlk w 24 #[.int .i64 t.f, .slice a t.args.length c]) rfl rfl rfl (fun za zC zh zk => box_24 rfl (zh.ev rfl) (zk _ _ (newBlk _ _ _))) ?_
 rintro _ w1 ⟨g2, rfl, hg3, hB4, hb5, hz6⟩
 have hl7 : w.heap.size ≤ g2 := by omega
 refine WL.asg rfl rfl rfl rfl rfl (WL.nil (WE.next (WC.seq (WC.region (WL.asg rfl rfl rfl rfl rfl (WL.nil (WE.next (WC.seq (WC.region (WL.mv rfl rfl rfl rfl rfl ?_))))))))))
 refine WL.val _ rfl rfl rfl (fun za zC zh zk => ld_24 rfl (zh.ev rfl) ((hB4.cell 0).trans rfl) ((hB4.cell 1).trans rfl) zk) ?_
 refine WL.mv rfl rfl rfl rfl rfl ?_
 refine WL.call rfl rfl rfl (fun za zh zC => wp_call (by kernel_rfl) rfl (hv3 (zh.ev rfl) (zh.ev rfl) (zh.ev rfl))) (addNil _ _ _ _ _ _) ?_
 rintro _ w9 ⟨rfl, hq8⟩
 refine WL.val (.bool true) rfl rfl rfl (fun za zC zh zk => eql_29 rfl (zh.ev rfl) (zh.ev rfl) (by rw [show ((1 : Int) == (1 : Int)) = true from rfl]; exact zk)) ?_
 refine WL.mv rfl rfl rfl rfl rfl ?_
 refine WL.want (d := 11) rfl rfl rfl ?_
 refine WL.mv rfl rfl rfl rfl rfl ?_
 refine WL.want (d := 11) rfl rfl rfl ?_
 have hB10 := hB4.below hq8
 refine WL.val _ rfl rfl rfl (fun za zC zh zk => ld_24 rfl (zh.ev rfl) ((hB10.cell 0).trans rfl) ((hB10.cell 1).trans rfl) zk) ?_
 refine WL.want (d := 11) rfl rfl rfl ?_
 refine WL.mv rfl rfl rfl rfl rfl ?_
 refine WL.want (d := 11) rfl rfl rfl ?_
 refine WL.call rfl rfl rfl (fun za zh zC => wp_call (by kernel_rfl) rfl (hv3 (zh.ev rfl) (zh.ev rfl) (zh.ev rfl))) (delNil _ _ _ _ _ _) ?_
 rintro _ w12 ⟨rfl, hq11⟩
 refine WL.want (d := 11) rfl rfl rfl ?_
 refine WL.val (.bool true) rfl rfl rfl (fun za zC zh zk => wp_not rfl (zh.ev rfl) zk) ?_
 refine WL.val (.bool true) rfl rfl rfl (fun za zC zh zk => wp_pickT rfl (zh.ev rfl) (zh.ev rfl) zk) ?_
 refine WL.mv rfl rfl rfl rfl rfl ?_
 refine WL.want (d := 18) rfl rfl rfl ?_
 refine WL.mv rfl rfl rfl rfl rfl ?_
 refine WL.want (d := 18) rfl rfl rfl ?_
 have hB13 := hB10.below hq11
 refine WL.val _ rfl rfl rfl (fun za zC zh zk => ld_24 rfl (zh.ev rfl) ((hB13.cell 0).trans rfl) ((hB13.cell 1).trans rfl) zk) ?_
 refine WL.want (d := 18) rfl rfl rfl ?_
 refine WL.call rfl rfl rfl (fun za zh zC => wp_call (by kernel_rfl) rfl (hv2 (zh.ev rfl) (zh.ev rfl))) (uniNil _ _ _ _ _) ?_
 rintro _ w15 ⟨rfl, hq14⟩
 refine WL.want (d := 18) rfl rfl rfl ?_
 refine WL.val (.int .i64 0) rfl rfl rfl (fun za zC zh zk => len_31 rfl (zh.ev rfl) zk) ?_
 refine WL.want (d := 18) rfl rfl rfl ?_
 refine WL.val (.bool true) rfl rfl rfl (fun za zC zh zk => eql_3 rfl (zh.ev rfl) (zh.ev rfl) (by rw [show ((0 : Int) == (0 : Int)) = true from rfl]; exact zk)) ?_
 refine WL.val (.bool true) rfl rfl rfl (fun za zC zh zk => wp_pickT rfl (zh.ev rfl) (zh.ev rfl) zk) ?_
 refine WL.mv rfl rfl rfl rfl rfl ?_
 refine WL.want (d := 25) rfl rfl rfl ?_
 refine WL.mv rfl rfl rfl rfl rfl ?_
 refine WL.want (d := 25) rfl rfl rfl ?_
 have hB16 := hB13.below hq14
 refine WL.val _ rfl rfl rfl (fun za zC zh zk => ld_24 rfl (zh.ev rfl) ((hB16.cell 0).trans rfl) ((hB16.cell 1).trans rfl) zk) ?_
 refine WL.want (d := 25) rfl rfl rfl ?_
 refine WL.call rfl rfl rfl (fun za zh zC => wp_call (by kernel_rfl) rfl (hv2 (zh.ev rfl) (zh.ev rfl))) (genNil _ _ _ _ _) ?_
 rintro _ w18 ⟨rfl, hq17⟩
 refine WL.want (d := 25) rfl rfl rfl ?_
 refine WL.val (.int .i64 0) rfl rfl rfl (fun za zC zh zk => len_31 rfl (zh.ev rfl) zk) ?_
 refine WL.want (d := 25) rfl rfl rfl ?_
 refine WL.val (.bool true) rfl rfl rfl (fun za zC zh zk => eql_3 rfl (zh.ev rfl) (zh.ev rfl) (by rw [show ((0 : Int) == (0 : Int)) = true from rfl]; exact zk)) ?_
 refine WL.val (.bool true) rfl rfl rfl (fun za zC zh zk => wp_pickT rfl (zh.ev rfl) (zh.ev rfl) zk) ?_
 refine WL.mv rfl rfl rfl rfl rfl ?_
 refine WL.want (d := 32) rfl rfl rfl ?_
 refine WL.mv rfl rfl rfl rfl rfl ?_
 refine WL.want (d := 32) rfl rfl rfl ?_
 have hB19 := hB16.below hq17
 refine WL.val _ rfl rfl rfl (fun za zC zh zk => ld_24 rfl (zh.ev rfl) ((hB19.cell 0).trans rfl) ((hB19.cell 1).trans rfl) zk) ?_
 refine WL.want (d := 32) rfl rfl rfl ?_
 refine WL.call rfl rfl rfl (fun za zh zC => wp_call (by kernel_rfl) rfl (hv2 (zh.ev rfl) (zh.ev rfl))) (insNil _ _ _ _ _) ?_
 rintro _ w21 ⟨rfl, hq20⟩
 refine WL.want (d := 32) rfl rfl rfl ?_
 refine WL.val (.int .i64 0) rfl rfl rfl (fun za zC zh zk => len_31 rfl (zh.ev rfl) zk) ?_
 refine WL.want (d := 32) rfl rfl rfl ?_
 refine WL.val (.bool true) rfl rfl rfl (fun za zC zh zk => eql_3 rfl (zh.ev rfl) (zh.ev rfl) (by rw [show ((0 : Int) == (0 : Int)) = true from rfl]; exact zk)) ?_
 refine WL.val (.bool true) rfl rfl rfl (fun za zC zh zk => wp_pickT rfl (zh.ev rfl) (zh.ev rfl) zk) ?_
 refine WL.mv rfl rfl rfl rfl rfl ?_
 refine WL.want (d := 39) rfl rfl rfl ?_
 refine WL.mv rfl rfl rfl rfl rfl ?_
 refine WL.want (d := 39) rfl rfl rfl ?_
 refine WL.call rfl rfl rfl (fun za zh zC => wp_call (by kernel_rfl) rfl (hv1 (zh.ev rfl))) (lenNil _) ?_
 rintro _ w23 ⟨rfl, hq22⟩
 refine WL.want (d := 39) rfl rfl rfl ?_
 refine WL.val (.bool true) rfl rfl rfl (fun za zC zh zk => eql_3 rfl (zh.ev rfl) (zh.ev rfl) (by rw [show ((0 : Int) == (0 : Int)) = true from rfl]; exact zk)) ?_
 refine WL.val (.bool true) rfl rfl rfl (fun za zC zh zk => wp_pickT rfl (zh.ev rfl) (zh.ev rfl) zk) ?_
 refine WL.mv rfl rfl rfl rfl rfl ?_
 refine WL.want (d := 44) rfl rfl rfl ?_
 refine WL.call rfl rfl rfl (fun za zh zC => wp_call (by kernel_rfl) rfl (hv0)) (wakes_any _) ?_
 rintro _ w25 ⟨rfl, hq24⟩
 refine WL.val (.bool true) rfl rfl rfl (fun za zC zh zk => wp_pickT rfl (zh.ev rfl) (zh.ev rfl) zk) ?_
 refine WL.asg rfl rfl rfl rfl rfl ?_
 refine WL.nil (WE.sub (K' := [(0, .agg #[.int .i64 t.f, .slice a t.args.length c]), (1, .int .i64 id), (2, .pointer (some ⟨g2, 0, none⟩)), (4, .bool true), (5, .pointer none)]) ⟨rfl, rfl, rfl, rfl, rfl, trivial⟩ ?_)
 refine WE.next (WC.ret (WE.ret1 rfl rfl ?_))
 have hb26 : Below w.heap.size w w25 := (bstep (bstep (bstep (bstep (bstep (bstep (bstep hb5 hq8) hq11) hq14) hq17) hq20) hq22) hq24)
 exact ⟨_, rfl, rfl, hb26⟩
end Go.Proofs.Ytibncmnmjhimeaa

/- Rows of things of several cells, how they lie in memory. -/
namespace Go.Proofs.Ytibncmnmjhimeaa
open Go.RowKit
section
variable {H : Type} {enc : TypeId × Value → H} {P : Program} {w : World} {base : Nat} {spare : Nat → Bool} {held : Bool}
end
end Go.Proofs.Ytibncmnmjhimeaa

/- What a law's statement asks behind its call, where the call answers true and leaves all that was there as it was. -/
namespace Go.Proofs.Ytibncmnmjhimeaa
open Go.ChangeShapes Go.WideShapes Go.ChangeAt Go.RowKit
section
variable {H : Type} {enc : TypeId × Value → H} {P : Program}
theorem trodAll_below (hl : laidOutB P = true) {W W' : World} (hb : Below W.heap.size W W') : ∀ {ts : List TypeId} {vs : List Value} {ds : List (DataW H)} {ps : List MemPlace},
    (∀ t ∈ ts, P.readableRec t = true ∧ t < P.types.size) → (∀ x ∈ ps, x.block < W.heap.size) → DataW.TrodAll enc P W 0 (fun _ => true) true ts vs ds ps →
    DataW.TrodAll enc P W' 0 (fun b => decide (b < W.heap.size)) true ts vs ds ps
  | [], [], [], _, _, _, h => h
  | t :: ts, v :: vs, d :: ds, ps, hr, hlt, ⟨p, q, h1, h2, e⟩ => by
    subst e
    exact ⟨p, q, Below.trod hl (hr t (by simp)).1 (hr t (by simp)).2 h1 hb (fun x hx => hlt x (by simp [hx])), trodAll_below hl hb (fun t ht => hr t (by simp [ht])) (fun x hx => hlt x (by simp [hx])) h2, rfl⟩
  | [], _ :: _, _, _, _, _, h => h.elim
  | [], [], _ :: _, _, _, _, h => h.elim
  | _ :: _, [], _, _, _, _, h => h.elim
  | _ :: _, _ :: _, [], _, _, _, h => h.elim
theorem law_post {f : Func} {s : ChangeSpec} {W W' : World} {args : Array Value} {ds gs : List (DataW H)} {before : List MemPlace} {tb : TypeId} (hl : laidOutB P = true) (hr : ∀ t ∈ f.params.toList, P.readableRec t = true ∧ t < P.types.size)
    (htb : P.underlying tb = some .bool) (hrt : f.resultTypes = #[tb]) (hv : s.vars = []) (hs : s.fn H ds = { results := [.lit (.bool true)], args := ds })
    (hW : DataW.Whole enc P f.params.toList s.vars false W args.toList ds gs before) (hb : Below W.heap.size W W') : s.post enc P f false true false false W args (.bool true) W' := by
  have hlt : ∀ p ∈ before, p.block < W.heap.size := fun p hp => hW.lt p hp
  have hW0 := hW
  obtain ⟨p, q, hA, hV, hpq, _, _⟩ := hW
  rw [hv] at hV
  obtain ⟨rfl, rfl⟩ := trodVars_none hV
  refine ⟨ds, [], before, [], p, [], hW0, ?_, ?_, ?_, hb.frame _, fun h => by cases h⟩
  · rw [List.append_nil, hs, hrt]
    exact trodAll_cons_mk (shut_bool htb _) trodAll_mk0
  · rw [List.append_nil, hs]
    refine trodAll_below hl hb hr (fun x hx => hlt x ?_) hA
    rw [hpq]; simp [hx]
  · rw [List.append_nil, hv]
    have : (s.fn H ds).vars = [] := by rw [hs]
    rw [this]
    rfl
end
end Go.Proofs.Ytibncmnmjhimeaa

namespace Go.Proofs.Ytibncmnmjhimeaa
open Go.ChangeShapes Go.WideShapes Go.ChangeAt Go.RowKit
theorem own : ownKnob Try.prog.godebug = none := by kernel_rfl
theorem readable_all {P : Program} {ts : List TypeId} (h : (ts.all fun t => P.readableRec t && Nat.blt t P.types.size) = true) : ∀ t ∈ ts, P.readableRec t = true ∧ t < P.types.size := by
  intro t ht
  have := List.all_eq_true.1 h t ht
  simp only [Bool.and_eq_true, Nat.blt_eq] at this
  exact this
theorem bulk_mem {H : Type} {l : List (DataW H)} (hk : Rows.uptoSmall H l = true) {d : DataW H} (h : d ∈ l) : Rows.uptoBulk d ≤ 1048576 :=
  Nat.le_trans (bulkAll_le h) (of_decide_eq_true hk)
section
variable {H : Type} {enc : TypeId × Value → H} {w : World} {base : Nat} {spare : Nat → Bool} {held : Bool}
set_option maxRecDepth 100000 in
theorem arg_T {r : Reach} {b : Nat} {v : Value} {d : DataW H} {p : List MemPlace} (h : Value.okWide Try.prog w r b 24 v) (ht : DataW.Trod enc Try.prog w base spare held 24 v d p) :
    ∃ t : T, IsT w t v ∧ t.size ≤ Rows.uptoBulk d := by
  obtain ⟨cs, rfl, _⟩ := okWide_struct Try.underlying24 h
  obtain ⟨fuel, hf⟩ := ht
  obtain ⟨t, u, v, e, h1, h2⟩ := open_T _ _ _ hf
  have e' : cs = #[u, v] := by
    apply Array.toList_inj.1
    exact e
  subst e'
  exact ⟨t, h1, h2⟩
set_option maxRecDepth 100000 in
theorem arg_int {r : Reach} {b : Nat} {v : Value} {d : DataW H} {p : List MemPlace} (h : Value.okWide Try.prog w r b 3 v) (ht : DataW.Trod enc Try.prog w base spare held 3 v d p) :
    ∃ n : Int, v = .int .i64 n ∧ I64 n := by
  obtain ⟨n, rfl⟩ := okWide_int Try.underlying3 h
  obtain ⟨fuel, hf⟩ := ht
  obtain ⟨m, e, _, wf⟩ := DataW.trod_int Try.underlying3 hf
  have e' : (.int .i64 n : Value) = .int .i64 m := by simpa [Value.cells] using e
  simp only [Value.int.injEq, true_and] at e'
  exact ⟨n, rfl, by rw [e']; exact i64_wf wf⟩
end
end Go.Proofs.Ytibncmnmjhimeaa
