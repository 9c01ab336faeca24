/- No index answers the answers of no index. -/
import Derived.Test.YtnblndmjjokepaaFvLaws
import Derived.Test.YtnblndmjjokepaaKOps2
namespace Go.Proofs.Ytnblndmjjokepaa
open Go.RowKit Go
set_option linter.unusedVariables false
set_option linter.unusedSimpArgs false

/-- Nothing is handed out. -/
theorem none_seq {w0 : World} {go B : Nat} (S : Nat → Prop) (hS : ∀ b, w0.heap.size ≤ b → ¬ S b) (hgS : ¬ S go) (hB0 : Blk w0 go 27 #[.slice none 0 0]) :
    SeqStopsK Fence.wide 0 Try.prog 59 #[.pointer (some ⟨go, 0, none⟩)] (fun x : Int => (#[.int .i64 x] : Array Value)) (Kpt S B) (fun xs => xs = []) (fun pre => False) 0 w0 := by
  refine seq_walk (lb := [.pointer (some ⟨go, 0, none⟩)]) Try.func59 rfl (by kernel_rfl) ?_
  intro ly J Jx w hw0 hY hJ hJx
  have hB := hB0.below hw0
  refine WC.sub (K' := [(0, .func (.yield ly) #[] #[]), (1, .pointer (some ⟨go, 0, none⟩))]) ⟨rfl, rfl, trivial⟩ ?_
  refine WC.seq ?_
  refine WC.region ?_
  refine WL.val (.slice none 0 0) rfl rfl rfl (fun za zC zh zk => ld_27 rfl (zh.ev rfl) ((hB.cell 0).trans rfl) zk) ?_
  refine WL.val (.int .i64 0) rfl rfl rfl (fun za zC zh zk => len_27 rfl (zh.ev rfl) zk) ?_
  refine WL.val (.int .i64 0) rfl rfl rfl (fun za zC zh zk => wp_move rfl (zh.ev rfl) zk) ?_
  refine WL.nil (WE.sub (K' := [(0, .func (.yield ly) #[] #[]), (1, .pointer (some ⟨go, 0, none⟩)), (5, .slice none 0 0), (6, .int .i64 0), (7, .int .i64 0)]) ⟨rfl, rfl, rfl, rfl, rfl, trivial⟩ ?_)
  refine WE.next ?_
  refine WC.block ?_
  refine WC.loop (X := Unit) (fun x => 0) (fun x => [(0, .func (.yield ly) #[] #[]), (1, .pointer (some ⟨go, 0, none⟩)), (5, .slice none 0 0), (6, .int .i64 0), (7, .int .i64 0)]) (fun x w1 => 0 = 0 ∧ Below w.heap.size w w1 ∧ Blk w1 go 27 #[.slice none 0 0]) (()) ⟨rfl, rfl, rfl, rfl, rfl, trivial⟩ ?_ ?_
  · exact ⟨rfl, (Below.refl _ _), hB⟩
  · rintro x w1 ⟨_, hb2, hB3⟩
    refine WC.seq ?_
    refine WC.region ?_
    refine WL.val (.bool false) rfl rfl rfl (fun za zC zh zk => lss_3 rfl (zh.ev rfl) (zh.ev rfl) zk) ?_
    refine WL.nil (WE.sub (K' := [(0, .func (.yield ly) #[] #[]), (1, .pointer (some ⟨go, 0, none⟩)), (5, .slice none 0 0), (6, .int .i64 0), (7, .int .i64 0), (8, .bool false)]) ⟨rfl, rfl, rfl, rfl, rfl, rfl, trivial⟩ ?_)
    refine WE.next ?_
    refine WC.seq ?_
    refine WC.condF rfl rfl ?_
    refine WC.exit ?_
    refine WE.thenExit ?_
    refine WE.thenExit ?_
    refine WE.blockIs rfl ?_
    refine WE.end0 rfl ?_
    exact ⟨⟨_, rfl⟩, .inl ⟨_, rfl, abide_below hJ.abide hJ.now hb2⟩⟩

set_option maxRecDepth 100000 in
theorem ok_nil (w : World) : Calls Try.prog 34 #[.pointer none] w (Ret fun v' w' => v' = .bool false ∧ Below w.heap.size w w') := by
  refine Calls.walk (l := [.pointer none]) Try.func34 rfl (by kernel_rfl) ?_
  refine WC.sub (K' := [(0, .pointer none)]) ⟨rfl, trivial⟩ ?_
  refine WC.seq ?_
  refine WC.region ?_
  refine WL.val (.bool false) rfl rfl rfl (fun za zC zh zk => wp_assign rfl (zh.ev rfl) zk) ?_
  refine WL.nil (WE.sub (K' := [(0, .pointer none), (2, .bool false)]) ⟨rfl, rfl, trivial⟩ ?_)
  refine WE.next ?_
  refine WC.seq ?_
  refine WC.region ?_
  refine WL.val (.pointer none) rfl rfl rfl (fun za zC zh zk => wp_move rfl (zh.ev rfl) zk) ?_
  refine WL.val (.bool false) rfl rfl rfl (fun za zC zh zk => neqn_39 rfl (zh.ev rfl) (zh.ev rfl) zk) ?_
  refine WL.val (.bool false) rfl rfl rfl (fun za zC zh zk => wp_move rfl (zh.ev rfl) zk) ?_
  refine WL.skip (d := 5) rfl rfl rfl rfl rfl ?_
  refine WL.skip (d := 5) rfl rfl rfl rfl rfl ?_
  refine WL.skip (d := 5) rfl rfl rfl rfl rfl ?_
  refine WL.skip (d := 5) rfl rfl rfl rfl rfl ?_
  refine WL.skip (d := 5) rfl rfl rfl rfl rfl ?_
  refine WL.val (.bool false) rfl rfl rfl (fun za zC zh zk => wp_pickF rfl (zh.ev rfl) (zh.ev rfl) zk) ?_
  refine WL.val (.bool false) rfl rfl rfl (fun za zC zh zk => wp_assign rfl (zh.ev rfl) zk) ?_
  refine WL.nil (WE.sub (K' := [(0, .pointer none), (2, .bool false)]) ⟨rfl, rfl, trivial⟩ ?_)
  refine WE.next ?_
  refine WC.ret ?_
  refine WE.ret1 rfl rfl ?_
  exact ⟨_, rfl, rfl, (Below.refl _ _)⟩

set_option maxRecDepth 100000 in
theorem ilen_nil (w : World) : Calls Try.prog 26 #[.pointer none] w (Ret fun v' w' => v' = .int .i64 0 ∧ Below w.heap.size w w') := by
  refine Calls.walk (l := [.pointer none]) Try.func26 rfl (by kernel_rfl) ?_
  refine WC.sub (K' := [(0, .pointer none)]) ⟨rfl, trivial⟩ ?_
  refine WC.seq ?_
  refine WC.region ?_
  refine WL.val (.int .i64 0) rfl rfl rfl (fun za zC zh zk => wp_assign rfl (zh.ev rfl) zk) ?_
  refine WL.nil (WE.sub (K' := [(0, .pointer none), (2, .int .i64 0)]) ⟨rfl, rfl, trivial⟩ ?_)
  refine WE.next ?_
  refine WC.seq ?_
  refine WC.seq ?_
  refine WC.region ?_
  refine WL.val (.pointer none) rfl rfl rfl (fun za zC zh zk => wp_move rfl (zh.ev rfl) zk) ?_
  refine WL.call rfl rfl rfl (fun za zh zC => wp_call (by kernel_rfl) rfl (hv1 (zh.ev rfl))) (ok_nil _) ?_
  rintro _ w2 ⟨rfl, hq1⟩
  refine WL.val (.bool true) rfl rfl rfl (fun za zC zh zk => wp_not rfl (zh.ev rfl) zk) ?_
  refine WL.nil (WE.sub (K' := [(0, .pointer none), (2, .int .i64 0), (5, .bool true)]) ⟨rfl, rfl, rfl, trivial⟩ ?_)
  refine WE.next ?_
  refine WC.condT rfl rfl ?_
  refine WC.seq ?_
  refine WC.region ?_
  refine WL.val (.int .i64 0) rfl rfl rfl (fun za zC zh zk => wp_assign rfl (zh.ev rfl) zk) ?_
  refine WL.nil (WE.sub (K' := [(0, .pointer none), (2, .int .i64 0), (5, .bool true)]) ⟨rfl, rfl, rfl, trivial⟩ ?_)
  refine WE.next ?_
  refine WC.ret ?_
  refine WE.thenRet ?_
  refine WE.ret1 rfl rfl ?_
  exact ⟨_, rfl, rfl, hq1⟩

set_option maxRecDepth 100000 in
theorem iadd_nil (a : Option Addr) (k c : Nat) (n : Int) (w : World) : Calls Try.prog 18 #[.pointer none, .slice a k c, .int .i64 n] w (Ret fun v' w' => v' = .int .i64 1 ∧ Below w.heap.size w w') := by
  refine Calls.walk (l := [.pointer none, .slice a k c, .int .i64 n]) Try.func18 rfl (by kernel_rfl) ?_
  refine WC.sub (K' := [(0, .pointer none), (1, .slice a k c), (2, .int .i64 n)]) ⟨rfl, rfl, rfl, trivial⟩ ?_
  refine WC.seq ?_
  refine WC.region ?_
  refine WL.val (.int .i64 0) rfl rfl rfl (fun za zC zh zk => wp_assign rfl (zh.ev rfl) zk) ?_
  refine WL.nil (WE.sub (K' := [(0, .pointer none), (1, .slice a k c), (2, .int .i64 n), (6, .int .i64 0)]) ⟨rfl, rfl, rfl, rfl, trivial⟩ ?_)
  refine WE.next ?_
  refine WC.seq ?_
  refine WC.block ?_
  refine WC.seq ?_
  refine WC.region ?_
  refine WL.val (.pointer none) rfl rfl rfl (fun za zC zh zk => wp_move rfl (zh.ev rfl) zk) ?_
  refine WL.call rfl rfl rfl (fun za zh zC => wp_call (by kernel_rfl) rfl (hv1 (zh.ev rfl))) (ok_nil _) ?_
  rintro _ w2 ⟨rfl, hq1⟩
  refine WL.val (.bool true) rfl rfl rfl (fun za zC zh zk => wp_not rfl (zh.ev rfl) zk) ?_
  refine WL.val (.bool true) rfl rfl rfl (fun za zC zh zk => wp_assign rfl (zh.ev rfl) zk) ?_
  refine WL.nil (WE.sub (K' := [(0, .pointer none), (1, .slice a k c), (2, .int .i64 n), (6, .int .i64 0), (14, .bool true)]) ⟨rfl, rfl, rfl, rfl, rfl, trivial⟩ ?_)
  refine WE.next ?_
  refine WC.condT rfl rfl ?_
  refine WC.seq ?_
  refine WC.region ?_
  refine WL.val (.int .i64 1) rfl rfl rfl (fun za zC zh zk => wp_assign rfl (zh.ev rfl) zk) ?_
  refine WL.nil (WE.sub (K' := [(0, .pointer none), (1, .slice a k c), (2, .int .i64 n), (6, .int .i64 1), (14, .bool true)]) ⟨rfl, rfl, rfl, rfl, rfl, trivial⟩ ?_)
  refine WE.next ?_
  refine WC.ret ?_
  refine WE.blockRet ?_
  refine WE.thenRet ?_
  refine WE.ret1 rfl rfl ?_
  exact ⟨_, rfl, rfl, hq1⟩

set_option maxRecDepth 100000 in
theorem idel_nil (a : Option Addr) (k c : Nat) (n : Int) (w : World) : Calls Try.prog 24 #[.pointer none, .slice a k c, .int .i64 n] w (Ret fun v' w' => v' = .bool false ∧ Below w.heap.size w w') := by
  refine Calls.walk (l := [.pointer none, .slice a k c, .int .i64 n]) Try.func24 rfl (by kernel_rfl) ?_
  refine WC.sub (K' := [(0, .pointer none), (1, .slice a k c), (2, .int .i64 n)]) ⟨rfl, rfl, rfl, trivial⟩ ?_
  refine WC.seq ?_
  refine WC.region ?_
  refine WL.step (post := NewBlk w 23 #[.slice a k c]) rfl rfl rfl (fun za zC zh zk => box_23 rfl (zh.ev rfl) (zk _ _ (newBlk _ _ _))) ?_
  rintro _ w1 ⟨g2, rfl, hg3, hB4, hb5, hz6⟩
  have hl7 : w.heap.size ≤ g2 := by omega
  refine WL.step (post := NewBlk w1 3 #[.int .i64 n]) rfl rfl rfl (fun za zC zh zk => box_3 rfl (zh.ev rfl) (zk _ _ (newBlk _ _ _))) ?_
  rintro _ w8 ⟨g9, rfl, hg10, hB11, hb12, hz13⟩
  have hl14 : g2 < g9 := by have z1 := hB4.lt; omega
  have hl15 : w.heap.size ≤ g9 := by have z2 := (hb5).size; omega
  refine WL.val (.bool false) rfl rfl rfl (fun za zC zh zk => wp_assign rfl (zh.ev rfl) zk) ?_
  refine WL.nil (WE.sub (K' := [(0, .pointer none), (1, .slice a k c), (2, .int .i64 n), (4, .pointer (some ⟨g2, 0, none⟩)), (5, .pointer (some ⟨g9, 0, none⟩)), (6, .bool false)]) ⟨rfl, rfl, rfl, rfl, rfl, rfl, trivial⟩ ?_)
  refine WE.next ?_
  refine WC.seq ?_
  refine WC.seq ?_
  refine WC.region ?_
  refine WL.val (.pointer none) rfl rfl rfl (fun za zC zh zk => wp_move rfl (zh.ev rfl) zk) ?_
  refine WL.call rfl rfl rfl (fun za zh zC => wp_call (by kernel_rfl) rfl (hv1 (zh.ev rfl))) (ok_nil _) ?_
  rintro _ w17 ⟨rfl, hq16⟩
  refine WL.val (.bool true) rfl rfl rfl (fun za zC zh zk => wp_not rfl (zh.ev rfl) zk) ?_
  refine WL.nil (WE.sub (K' := [(0, .pointer none), (1, .slice a k c), (2, .int .i64 n), (4, .pointer (some ⟨g2, 0, none⟩)), (5, .pointer (some ⟨g9, 0, none⟩)), (6, .bool false), (18, .bool true)]) ⟨rfl, rfl, rfl, rfl, rfl, rfl, rfl, trivial⟩ ?_)
  refine WE.next ?_
  refine WC.condT rfl rfl ?_
  refine WC.seq ?_
  refine WC.region ?_
  refine WL.val (.bool false) rfl rfl rfl (fun za zC zh zk => wp_assign rfl (zh.ev rfl) zk) ?_
  refine WL.nil (WE.sub (K' := [(0, .pointer none), (1, .slice a k c), (2, .int .i64 n), (4, .pointer (some ⟨g2, 0, none⟩)), (5, .pointer (some ⟨g9, 0, none⟩)), (6, .bool false), (18, .bool true)]) ⟨rfl, rfl, rfl, rfl, rfl, rfl, rfl, trivial⟩ ?_)
  refine WE.next ?_
  refine WC.ret ?_
  refine WE.thenRet ?_
  refine WE.ret1 rfl rfl ?_
  have hb18 : Below w.heap.size w w17 := (bstep (bstep hb5 hb12) hq16)
  exact ⟨_, rfl, rfl, hb18⟩

set_option maxRecDepth 100000 in
theorem ask_nil (a : Option Addr) (k c : Nat) (f : FuncId) (w : World) : Calls Try.prog 47 #[.pointer none, .slice a k c, .func (.func f) #[] #[]] w (Ret fun v' w' => (∃ go, v' = .func (.func 59) #[] #[.pointer (some ⟨go, 0, none⟩)] ∧ w.heap.size ≤ go ∧ Blk w' go 27 #[.slice none 0 0]) ∧ Below w.heap.size w w') := by
  refine Calls.walk (l := [.pointer none, .slice a k c, .func (.func f) #[] #[]]) Try.func47 rfl (by kernel_rfl) ?_
  refine WC.sub (K' := [(0, .pointer none), (1, .slice a k c), (2, .func (.func f) #[] #[])]) ⟨rfl, rfl, rfl, trivial⟩ ?_
  refine WC.seq ?_
  refine WC.region ?_
  refine WL.step (post := NewBlk w 95 #[.func (.func f) #[] #[]]) rfl rfl rfl (fun za zC zh zk => box_95 rfl (zh.ev rfl) (zk _ _ (newBlk _ _ _))) ?_
  rintro _ w1 ⟨g2, rfl, hg3, hB4, hb5, hz6⟩
  have hl7 : w.heap.size ≤ g2 := by omega
  refine WL.val (.nilFunc) rfl rfl rfl (fun za zC zh zk => wp_assign rfl (zh.ev rfl) zk) ?_
  refine WL.nil (WE.sub (K' := [(0, .pointer none), (1, .slice a k c), (2, .func (.func f) #[] #[]), (5, .pointer (some ⟨g2, 0, none⟩)), (6, .nilFunc)]) ⟨rfl, rfl, rfl, rfl, rfl, trivial⟩ ?_)
  refine WE.next ?_
  refine WC.seq ?_
  refine WC.region ?_
  refine WL.step (post := NewBlk w1 27 #[.slice none 0 0]) rfl rfl rfl (fun za zC zh zk => alloc_27 rfl (zk _ _ (newBlk _ _ _))) ?_
  rintro _ w8 ⟨g9, rfl, hg10, hB11, hb12, hz13⟩
  have hl14 : g2 < g9 := by have z1 := hB4.lt; omega
  have hl15 : w.heap.size ≤ g9 := by have z2 := (hb5).size; omega
  refine WL.nil (WE.sub (K' := [(0, .pointer none), (1, .slice a k c), (2, .func (.func f) #[] #[]), (5, .pointer (some ⟨g2, 0, none⟩)), (6, .nilFunc), (7, .pointer (some ⟨g9, 0, none⟩))]) ⟨rfl, rfl, rfl, rfl, rfl, rfl, trivial⟩ ?_)
  refine WE.next ?_
  refine WC.seq ?_
  refine WC.seq ?_
  refine WC.region ?_
  refine WL.val (.pointer none) rfl rfl rfl (fun za zC zh zk => wp_move rfl (zh.ev rfl) zk) ?_
  refine WL.call rfl rfl rfl (fun za zh zC => wp_call (by kernel_rfl) rfl (hv1 (zh.ev rfl))) (ok_nil _) ?_
  rintro _ w17 ⟨rfl, hq16⟩
  refine WL.nil (WE.sub (K' := [(0, .pointer none), (1, .slice a k c), (2, .func (.func f) #[] #[]), (5, .pointer (some ⟨g2, 0, none⟩)), (6, .nilFunc), (7, .pointer (some ⟨g9, 0, none⟩)), (11, .bool false)]) ⟨rfl, rfl, rfl, rfl, rfl, rfl, rfl, trivial⟩ ?_)
  refine WE.next ?_
  refine WC.condF rfl rfl ?_
  refine WC.skip ?_
  refine WE.next ?_
  refine WC.seq ?_
  refine WC.region ?_
  refine WL.val (.func (Fn.func 59) #[] #[.pointer (some ⟨g9, 0, none⟩)]) rfl rfl rfl (fun za zC zh zk => mkfn rfl (hv0) (hv1 (zh.ev rfl)) zk) ?_
  refine WL.val (.func (Fn.func 59) #[] #[.pointer (some ⟨g9, 0, none⟩)]) rfl rfl rfl (fun za zC zh zk => wp_assign rfl (zh.ev rfl) zk) ?_
  refine WL.nil (WE.sub (K' := [(0, .pointer none), (1, .slice a k c), (2, .func (.func f) #[] #[]), (5, .pointer (some ⟨g2, 0, none⟩)), (6, .func (Fn.func 59) #[] #[.pointer (some ⟨g9, 0, none⟩)]), (7, .pointer (some ⟨g9, 0, none⟩)), (11, .bool false)]) ⟨rfl, rfl, rfl, rfl, rfl, rfl, rfl, trivial⟩ ?_)
  refine WE.next ?_
  refine WC.ret ?_
  refine WE.ret1 rfl rfl ?_
  have hB18 := hB11.below hq16
  have hb19 : Below w.heap.size w w17 := (bstep (bstep hb5 hb12) hq16)
  exact ⟨_, rfl, ⟨g9, rfl, by omega, hB18⟩, hb19⟩

set_option maxRecDepth 100000 in
theorem above_nil (a : Option Addr) (k c : Nat) (w : World) : Calls Try.prog 36 #[.pointer none, .slice a k c] w (Ret fun v' w' => (∃ go, v' = .func (.func 59) #[] #[.pointer (some ⟨go, 0, none⟩)] ∧ w.heap.size ≤ go ∧ Blk w' go 27 #[.slice none 0 0]) ∧ Below w.heap.size w w') := by
  refine Calls.walk (l := [.pointer none, .slice a k c]) Try.func36 rfl (by kernel_rfl) ?_
  refine WC.sub (K' := [(0, .pointer none), (1, .slice a k c)]) ⟨rfl, rfl, trivial⟩ ?_
  refine WC.seq ?_
  refine WC.region ?_
  refine WL.val (.nilFunc) rfl rfl rfl (fun za zC zh zk => wp_assign rfl (zh.ev rfl) zk) ?_
  refine WL.nil (WE.sub (K' := [(0, .pointer none), (1, .slice a k c), (4, .nilFunc)]) ⟨rfl, rfl, rfl, trivial⟩ ?_)
  refine WE.next ?_
  refine WC.seq ?_
  refine WC.region ?_
  refine WL.val (.pointer none) rfl rfl rfl (fun za zC zh zk => wp_move rfl (zh.ev rfl) zk) ?_
  refine WL.val (.slice a k c) rfl rfl rfl (fun za zC zh zk => wp_move rfl (zh.ev rfl) zk) ?_
  refine WL.call rfl rfl rfl (fun za zh zC => wp_call (by kernel_rfl) rfl (hv3 (zh.ev rfl) (zh.ev rfl) (zh.ev rfl))) (ask_nil a k c 48 _) ?_
  rintro _ w5 ⟨⟨go1, rfl, hg4, hB2⟩, hb3⟩
  refine WL.val (.func (.func 59) #[] #[.pointer (some ⟨go1, 0, none⟩)]) rfl rfl rfl (fun za zC zh zk => wp_assign rfl (zh.ev rfl) zk) ?_
  refine WL.nil (WE.sub (K' := [(0, .pointer none), (1, .slice a k c), (4, .func (.func 59) #[] #[.pointer (some ⟨go1, 0, none⟩)])]) ⟨rfl, rfl, rfl, trivial⟩ ?_)
  refine WE.next ?_
  refine WC.ret ?_
  refine WE.ret1 rfl rfl ?_
  exact ⟨_, rfl, ⟨go1, rfl, by have z := hg4; have z2 := (hb3).size; omega, hB2⟩, hb3⟩

set_option maxRecDepth 100000 in
theorem under_nil (a : Option Addr) (k c : Nat) (w : World) : Calls Try.prog 37 #[.pointer none, .slice a k c] w (Ret fun v' w' => (∃ go, v' = .func (.func 59) #[] #[.pointer (some ⟨go, 0, none⟩)] ∧ w.heap.size ≤ go ∧ Blk w' go 27 #[.slice none 0 0]) ∧ Below w.heap.size w w') := by
  refine Calls.walk (l := [.pointer none, .slice a k c]) Try.func37 rfl (by kernel_rfl) ?_
  refine WC.sub (K' := [(0, .pointer none), (1, .slice a k c)]) ⟨rfl, rfl, trivial⟩ ?_
  refine WC.seq ?_
  refine WC.region ?_
  refine WL.val (.nilFunc) rfl rfl rfl (fun za zC zh zk => wp_assign rfl (zh.ev rfl) zk) ?_
  refine WL.nil (WE.sub (K' := [(0, .pointer none), (1, .slice a k c), (4, .nilFunc)]) ⟨rfl, rfl, rfl, trivial⟩ ?_)
  refine WE.next ?_
  refine WC.seq ?_
  refine WC.region ?_
  refine WL.val (.pointer none) rfl rfl rfl (fun za zC zh zk => wp_move rfl (zh.ev rfl) zk) ?_
  refine WL.val (.slice a k c) rfl rfl rfl (fun za zC zh zk => wp_move rfl (zh.ev rfl) zk) ?_
  refine WL.call rfl rfl rfl (fun za zh zC => wp_call (by kernel_rfl) rfl (hv3 (zh.ev rfl) (zh.ev rfl) (zh.ev rfl))) (ask_nil a k c 49 _) ?_
  rintro _ w5 ⟨⟨go1, rfl, hg4, hB2⟩, hb3⟩
  refine WL.val (.func (.func 59) #[] #[.pointer (some ⟨go1, 0, none⟩)]) rfl rfl rfl (fun za zC zh zk => wp_assign rfl (zh.ev rfl) zk) ?_
  refine WL.nil (WE.sub (K' := [(0, .pointer none), (1, .slice a k c), (4, .func (.func 59) #[] #[.pointer (some ⟨go1, 0, none⟩)])]) ⟨rfl, rfl, rfl, trivial⟩ ?_)
  refine WE.next ?_
  refine WC.ret ?_
  refine WE.ret1 rfl rfl ?_
  exact ⟨_, rfl, ⟨go1, rfl, by have z := hg4; have z2 := (hb3).size; omega, hB2⟩, hb3⟩

set_option maxRecDepth 100000 in
theorem ids_nil (a : Option Addr) (k c : Nat) (up : Bool) (n : Int) (w : World) : Calls Try.prog 19 #[.pointer none, .slice a k c, .bool up, .int .i64 n] w (Ret fun v' w' => v' = .slice none 0 0 ∧ Below w.heap.size w w') := by
  refine Calls.walk (l := [.pointer none, .slice a k c, .bool up, .int .i64 n]) Try.func19 rfl (by kernel_rfl) ?_
  refine WC.sub (K' := [(0, .pointer none), (1, .slice a k c), (2, .bool up), (3, .int .i64 n)]) ⟨rfl, rfl, rfl, rfl, trivial⟩ ?_
  refine WC.seq ?_
  refine WC.region ?_
  refine WL.step (post := NewBlk w 3 #[.int .i64 n]) rfl rfl rfl (fun za zC zh zk => box_3 rfl (zh.ev rfl) (zk _ _ (newBlk _ _ _))) ?_
  rintro _ w1 ⟨g2, rfl, hg3, hB4, hb5, hz6⟩
  have hl7 : w.heap.size ≤ g2 := by omega
  refine WL.val (.slice none 0 0) rfl rfl rfl (fun za zC zh zk => wp_assign rfl (zh.ev rfl) zk) ?_
  refine WL.nil (WE.sub (K' := [(0, .pointer none), (1, .slice a k c), (2, .bool up), (3, .int .i64 n), (7, .pointer (some ⟨g2, 0, none⟩)), (8, .slice none 0 0)]) ⟨rfl, rfl, rfl, rfl, rfl, rfl, trivial⟩ ?_)
  refine WE.next ?_
  refine WC.seq ?_
  refine WC.region ?_
  refine WL.step (post := NewBlk w1 27 #[.slice none 0 0]) rfl rfl rfl (fun za zC zh zk => alloc_27 rfl (zk _ _ (newBlk _ _ _))) ?_
  rintro _ w8 ⟨g9, rfl, hg10, hB11, hb12, hz13⟩
  have hl14 : g2 < g9 := by have z1 := hB4.lt; omega
  have hl15 : w.heap.size ≤ g9 := by have z2 := (hb5).size; omega
  refine WL.nil (WE.sub (K' := [(0, .pointer none), (1, .slice a k c), (2, .bool up), (3, .int .i64 n), (7, .pointer (some ⟨g2, 0, none⟩)), (8, .slice none 0 0), (9, .pointer (some ⟨g9, 0, none⟩))]) ⟨rfl, rfl, rfl, rfl, rfl, rfl, rfl, trivial⟩ ?_)
  refine WE.next ?_
  refine WC.seq ?_
  refine WC.seq ?_
  refine WC.region ?_
  refine WL.val (.bool up) rfl rfl rfl (fun za zC zh zk => wp_move rfl (zh.ev rfl) zk) ?_
  refine WL.nil (WE.sub (K' := [(0, .pointer none), (1, .slice a k c), (2, .bool up), (3, .int .i64 n), (7, .pointer (some ⟨g2, 0, none⟩)), (8, .slice none 0 0), (9, .pointer (some ⟨g9, 0, none⟩)), (14, .bool up)]) ⟨rfl, rfl, rfl, rfl, rfl, rfl, rfl, rfl, trivial⟩ ?_)
  refine WE.next ?_
  refine WC.cond rfl (fun h16 => ?_) (fun h16 => ?_)
  · skip
    refine WC.seq ?_
    refine WC.region ?_
    refine WL.val (.pointer none) rfl rfl rfl (fun za zC zh zk => wp_move rfl (zh.ev rfl) zk) ?_
    refine WL.val (.slice a k c) rfl rfl rfl (fun za zC zh zk => wp_move rfl (zh.ev rfl) zk) ?_
    have hB21 := hB4.below hb12
    have hl22 := hB21.lt
    have hl23 := hB11.lt
    refine WL.call rfl rfl rfl (fun za zh zC => wp_call (by kernel_rfl) rfl (hv2 (zh.ev rfl) (zh.ev rfl))) (above_nil a k c _) ?_
    rintro _ w24 ⟨⟨go17, rfl, hg20, hB18⟩, hb19⟩
    have hg9 : w8.heap.size ≤ go17 := hg20
    have hB25 := hB21.below hb19
    have hB26 := hB11.below hb19
    refine WL.val (.func (.func 59) #[] #[.pointer (some ⟨go17, 0, none⟩)]) rfl rfl rfl (fun za zC zh zk => wp_assign rfl (zh.ev rfl) zk) ?_
    refine WL.nil (WE.sub (K' := [(0, .pointer none), (1, .slice a k c), (2, .bool up), (3, .int .i64 n), (7, .pointer (some ⟨g2, 0, none⟩)), (8, .slice none 0 0), (9, .pointer (some ⟨g9, 0, none⟩)), (10, .func (.func 59) #[] #[.pointer (some ⟨go17, 0, none⟩)]), (14, .bool up)]) ⟨rfl, rfl, rfl, rfl, rfl, rfl, rfl, rfl, rfl, trivial⟩ ?_)
    refine WE.next ?_
    refine WC.seq ?_
    refine WC.seq ?_
    refine WC.region ?_
    refine WL.val (.func (.func 59) #[] #[.pointer (some ⟨go17, 0, none⟩)]) rfl rfl rfl (fun za zC zh zk => wp_move rfl (zh.ev rfl) zk) ?_
    refine WL.val (.bool false) rfl rfl rfl (fun za zC zh zk => eqlfn_81 rfl (zh.ev rfl) (zh.ev rfl) zk) ?_
    refine WL.nil (WE.sub (K' := [(0, .pointer none), (1, .slice a k c), (2, .bool up), (3, .int .i64 n), (7, .pointer (some ⟨g2, 0, none⟩)), (8, .slice none 0 0), (9, .pointer (some ⟨g9, 0, none⟩)), (10, .func (.func 59) #[] #[.pointer (some ⟨go17, 0, none⟩)]), (14, .bool up), (19, .bool false)]) ⟨rfl, rfl, rfl, rfl, rfl, rfl, rfl, rfl, rfl, rfl, trivial⟩ ?_)
    refine WE.next ?_
    refine WC.condF rfl rfl ?_
    refine WC.skip ?_
    refine WE.next ?_
    refine WC.seq ?_
    refine WC.seq ?_
    refine WC.region ?_
    refine WL.val (.func (.func 59) #[] #[.pointer (some ⟨go17, 0, none⟩)]) rfl rfl rfl (fun za zC zh zk => wp_move rfl (zh.ev rfl) zk) ?_
    refine WL.nil (WE.sub (K' := [(0, .pointer none), (1, .slice a k c), (2, .bool up), (3, .int .i64 n), (7, .pointer (some ⟨g2, 0, none⟩)), (8, .slice none 0 0), (9, .pointer (some ⟨g9, 0, none⟩)), (10, .func (.func 59) #[] #[.pointer (some ⟨go17, 0, none⟩)]), (14, .bool up), (19, .bool false), (20, .func (.func 59) #[] #[.pointer (some ⟨go17, 0, none⟩)])]) ⟨rfl, rfl, rfl, rfl, rfl, rfl, rfl, rfl, rfl, rfl, rfl, trivial⟩ ?_)
    refine WE.next ?_
    refine WC.block ?_
    have hz9 : w.heap.size ≤ w24.heap.size := (Nat.le_trans (Nat.le_trans hb5.size hb12.size) hb19.size)
    refine WC.rangeK (γ := Unit) (encs := fun zx => [.int .i64 zx]) ((fun b => b = g9)) rfl (by kernel_rfl) (by kernel_rfl) (none_seq (w0 := w24) (fun b => b = g9) (fun b q e => by have e2 : b = g9 := e; have z := hB26.lt; omega) (by (try dsimp only); omega) hB18)  ((Below.refl _ _)) (fun _ => rfl) (fun x zy => [(0, .pointer none), (1, .slice a k c), (2, .bool up), (3, .int .i64 n), (7, .pointer (some ⟨g2, 0, none⟩)), (8, .slice none 0 0), (9, .pointer (some ⟨g9, 0, none⟩)), (10, .func (.func 59) #[] #[.pointer (some ⟨go17, 0, none⟩)]), (11, .int .i64 x), (14, .bool up), (19, .bool false), (20, .func (.func 59) #[] #[.pointer (some ⟨go17, 0, none⟩)])]) (fun x zy w27 => True) (fun pre w27 => 0 = 0 ∧ w24.heap.size ≤ (w27).heap.size ∧ Below w.heap.size w w27 ∧ Blk w27 g2 3 #[.int .i64 n] ∧ Blk w27 g9 27 #[.slice none 0 0] ∧ Blk w27 go17 27 #[.slice none 0 0]) (fun zc pre w27 => False) (fun pre w1 w2 t h => (by obtain ⟨z0, z1, z2, z3, z4, z5⟩ := h; exact ⟨z0, Nat.le_trans z1 t.size, below_turn z2 t (Nat.le_trans (Nat.le_trans hb5.size hb12.size) hb19.size), blk_turn z3 t, blk_turn z4 t, blk_turn z5 t⟩)) (fun zc pre w1 w2 t h => h.elim) (fun x zy w1 w2 t h => h) ?_ ?_ ?_ ?_ ?_
    · have hb28 : Below w.heap.size w w24 := (bstep (bstep hb5 hb12) hb19)
      exact ⟨rfl, (Nat.le_refl _), hb28, hB25, hB26, hB18⟩
    · rintro zl29 pre x w30 ⟨_, hzs, hb31, _, _, _⟩
      refine WC.sub (K' := [(0, .pointer none), (1, .slice a k c), (2, .bool up), (3, .int .i64 n), (7, .pointer (some ⟨g2, 0, none⟩)), (8, .slice none 0 0), (9, .pointer (some ⟨g9, 0, none⟩)), (10, .func (.func 59) #[] #[.pointer (some ⟨go17, 0, none⟩)]), (14, .bool up), (19, .bool false), (20, .func (.func 59) #[] #[.pointer (some ⟨go17, 0, none⟩)]), (21, .int .i64 x)]) ⟨rfl, rfl, rfl, rfl, rfl, rfl, rfl, rfl, rfl, rfl, rfl, rfl, trivial⟩ ?_
      refine WC.region ?_
      refine WL.val (.int .i64 x) rfl rfl rfl (fun za zC zh zk => wp_assign rfl (zh.ev rfl) zk) ?_
      refine WL.nil (WE.sub (K' := [(0, .pointer none), (1, .slice a k c), (2, .bool up), (3, .int .i64 n), (7, .pointer (some ⟨g2, 0, none⟩)), (8, .slice none 0 0), (9, .pointer (some ⟨g9, 0, none⟩)), (10, .func (.func 59) #[] #[.pointer (some ⟨go17, 0, none⟩)]), (11, .int .i64 x), (14, .bool up), (19, .bool false), (20, .func (.func 59) #[] #[.pointer (some ⟨go17, 0, none⟩)]), (21, .int .i64 x)]) ⟨rfl, rfl, rfl, rfl, rfl, rfl, rfl, rfl, rfl, rfl, rfl, rfl, rfl, trivial⟩ ?_)
      exact fun _ zk => ⟨(Below.refl _ _), (), zk.sub ⟨rfl, rfl, rfl, rfl, rfl, rfl, rfl, rfl, rfl, rfl, rfl, rfl, trivial⟩, trivial⟩
    · rintro zl32 pre x zy w33 ⟨_, hz39, hb35, hB36, hB37, hB38⟩ _ hl34
      exact absurd hl34 (Nat.not_lt_zero _)
    · rintro D40 xs41 w42 hD43 hS44 ⟨_, hz50, hb46, hB47, hB48, hB49⟩ hw45
      refine WE.blockNormal ?_
      refine WE.next ?_
      refine WC.seq ?_
      refine WC.region ?_
      refine WL.val (.slice none 0 0) rfl rfl rfl (fun za zC zh zk => ld_27 rfl (zh.ev rfl) ((hB48.cell 0).trans rfl) zk) ?_
      refine WL.val (.slice none 0 0) rfl rfl rfl (fun za zC zh zk => wp_assign rfl (zh.ev rfl) zk) ?_
      refine WL.nil (WE.sub (K' := [(0, .pointer none), (1, .slice a k c), (2, .bool up), (3, .int .i64 n), (7, .pointer (some ⟨g2, 0, none⟩)), (8, .slice none 0 0), (9, .pointer (some ⟨g9, 0, none⟩)), (10, .func (.func 59) #[] #[.pointer (some ⟨go17, 0, none⟩)]), (14, .bool up), (19, .bool false), (20, .func (.func 59) #[] #[.pointer (some ⟨go17, 0, none⟩)])]) ⟨rfl, rfl, rfl, rfl, rfl, rfl, rfl, rfl, rfl, rfl, rfl, trivial⟩ ?_)
      refine WE.next ?_
      refine WC.ret ?_
      refine WE.thenRet ?_
      obtain ⟨w51, hs52, hc53, hk54⟩ := shut_all [D40] w42 (by intro D hD; simp only [List.mem_cons, List.not_mem_nil, or_false] at hD; rcases hD with rfl <;> assumption) (by simp <;> omega)
      have hB55 : Blk w51 g2 3 #[.int .i64 n] := hk54 _ _ hB47 rfl
      have hB56 : Blk w51 g9 27 #[.slice none 0 0] := hk54 _ _ hB48 rfl
      have hB57 : Blk w51 go17 27 #[.slice none 0 0] := hk54 _ _ hB49 rfl
      have hb58 := chg_below hb46 hc53 (fun b hb => by simp only [List.mem_cons, List.not_mem_nil, or_false]; omega)
      refine WE.retS1 rfl rfl hs52 ?_
      exact ⟨_, rfl, rfl, hb58⟩
    · rintro D59 zc60 pre61 w62 hD63 hS64 hI65 hw66
      exact hI65.elim
  · skip
    refine WC.skip ?_
    refine WE.next ?_
    refine WC.seq ?_
    refine WC.region ?_
    refine WL.val (.pointer none) rfl rfl rfl (fun za zC zh zk => wp_move rfl (zh.ev rfl) zk) ?_
    refine WL.val (.slice a k c) rfl rfl rfl (fun za zC zh zk => wp_move rfl (zh.ev rfl) zk) ?_
    have hB71 := hB4.below hb12
    have hl72 := hB71.lt
    have hl73 := hB11.lt
    refine WL.call rfl rfl rfl (fun za zh zC => wp_call (by kernel_rfl) rfl (hv2 (zh.ev rfl) (zh.ev rfl))) (under_nil a k c _) ?_
    rintro _ w74 ⟨⟨go67, rfl, hg70, hB68⟩, hb69⟩
    have hg9 : w8.heap.size ≤ go67 := hg70
    have hB75 := hB71.below hb69
    have hB76 := hB11.below hb69
    refine WL.val (.func (.func 59) #[] #[.pointer (some ⟨go67, 0, none⟩)]) rfl rfl rfl (fun za zC zh zk => wp_assign rfl (zh.ev rfl) zk) ?_
    refine WL.nil (WE.sub (K' := [(0, .pointer none), (1, .slice a k c), (2, .bool up), (3, .int .i64 n), (7, .pointer (some ⟨g2, 0, none⟩)), (8, .slice none 0 0), (9, .pointer (some ⟨g9, 0, none⟩)), (12, .func (.func 59) #[] #[.pointer (some ⟨go67, 0, none⟩)]), (14, .bool up)]) ⟨rfl, rfl, rfl, rfl, rfl, rfl, rfl, rfl, rfl, trivial⟩ ?_)
    refine WE.next ?_
    refine WC.seq ?_
    refine WC.seq ?_
    refine WC.region ?_
    refine WL.val (.func (.func 59) #[] #[.pointer (some ⟨go67, 0, none⟩)]) rfl rfl rfl (fun za zC zh zk => wp_move rfl (zh.ev rfl) zk) ?_
    refine WL.val (.bool false) rfl rfl rfl (fun za zC zh zk => eqlfn_81 rfl (zh.ev rfl) (zh.ev rfl) zk) ?_
    refine WL.nil (WE.sub (K' := [(0, .pointer none), (1, .slice a k c), (2, .bool up), (3, .int .i64 n), (7, .pointer (some ⟨g2, 0, none⟩)), (8, .slice none 0 0), (9, .pointer (some ⟨g9, 0, none⟩)), (12, .func (.func 59) #[] #[.pointer (some ⟨go67, 0, none⟩)]), (14, .bool up), (35, .bool false)]) ⟨rfl, rfl, rfl, rfl, rfl, rfl, rfl, rfl, rfl, rfl, trivial⟩ ?_)
    refine WE.next ?_
    refine WC.condF rfl rfl ?_
    refine WC.skip ?_
    refine WE.next ?_
    refine WC.seq ?_
    refine WC.seq ?_
    refine WC.region ?_
    refine WL.val (.func (.func 59) #[] #[.pointer (some ⟨go67, 0, none⟩)]) rfl rfl rfl (fun za zC zh zk => wp_move rfl (zh.ev rfl) zk) ?_
    refine WL.nil (WE.sub (K' := [(0, .pointer none), (1, .slice a k c), (2, .bool up), (3, .int .i64 n), (7, .pointer (some ⟨g2, 0, none⟩)), (8, .slice none 0 0), (9, .pointer (some ⟨g9, 0, none⟩)), (12, .func (.func 59) #[] #[.pointer (some ⟨go67, 0, none⟩)]), (14, .bool up), (35, .bool false), (36, .func (.func 59) #[] #[.pointer (some ⟨go67, 0, none⟩)])]) ⟨rfl, rfl, rfl, rfl, rfl, rfl, rfl, rfl, rfl, rfl, rfl, trivial⟩ ?_)
    refine WE.next ?_
    refine WC.block ?_
    have hz9 : w.heap.size ≤ w74.heap.size := (Nat.le_trans (Nat.le_trans hb5.size hb12.size) hb69.size)
    refine WC.rangeK (γ := Unit) (encs := fun zx => [.int .i64 zx]) ((fun b => b = g9)) rfl (by kernel_rfl) (by kernel_rfl) (none_seq (w0 := w74) (fun b => b = g9) (fun b q e => by have e2 : b = g9 := e; have z := hB76.lt; omega) (by (try dsimp only); omega) hB68)  ((Below.refl _ _)) (fun _ => rfl) (fun x zy => [(0, .pointer none), (1, .slice a k c), (2, .bool up), (3, .int .i64 n), (7, .pointer (some ⟨g2, 0, none⟩)), (8, .slice none 0 0), (9, .pointer (some ⟨g9, 0, none⟩)), (12, .func (.func 59) #[] #[.pointer (some ⟨go67, 0, none⟩)]), (13, .int .i64 x), (14, .bool up), (35, .bool false), (36, .func (.func 59) #[] #[.pointer (some ⟨go67, 0, none⟩)])]) (fun x zy w77 => True) (fun pre w77 => 0 = 0 ∧ w74.heap.size ≤ (w77).heap.size ∧ Below w.heap.size w w77 ∧ Blk w77 g2 3 #[.int .i64 n] ∧ Blk w77 g9 27 #[.slice none 0 0] ∧ Blk w77 go67 27 #[.slice none 0 0]) (fun zc pre w77 => False) (fun pre w1 w2 t h => (by obtain ⟨z0, z1, z2, z3, z4, z5⟩ := h; exact ⟨z0, Nat.le_trans z1 t.size, below_turn z2 t (Nat.le_trans (Nat.le_trans hb5.size hb12.size) hb69.size), blk_turn z3 t, blk_turn z4 t, blk_turn z5 t⟩)) (fun zc pre w1 w2 t h => h.elim) (fun x zy w1 w2 t h => h) ?_ ?_ ?_ ?_ ?_
    · have hb78 : Below w.heap.size w w74 := (bstep (bstep hb5 hb12) hb69)
      exact ⟨rfl, (Nat.le_refl _), hb78, hB75, hB76, hB68⟩
    · rintro zl79 pre x w80 ⟨_, hzs, hb81, _, _, _⟩
      refine WC.sub (K' := [(0, .pointer none), (1, .slice a k c), (2, .bool up), (3, .int .i64 n), (7, .pointer (some ⟨g2, 0, none⟩)), (8, .slice none 0 0), (9, .pointer (some ⟨g9, 0, none⟩)), (12, .func (.func 59) #[] #[.pointer (some ⟨go67, 0, none⟩)]), (14, .bool up), (35, .bool false), (36, .func (.func 59) #[] #[.pointer (some ⟨go67, 0, none⟩)]), (37, .int .i64 x)]) ⟨rfl, rfl, rfl, rfl, rfl, rfl, rfl, rfl, rfl, rfl, rfl, rfl, trivial⟩ ?_
      refine WC.region ?_
      refine WL.val (.int .i64 x) rfl rfl rfl (fun za zC zh zk => wp_assign rfl (zh.ev rfl) zk) ?_
      refine WL.nil (WE.sub (K' := [(0, .pointer none), (1, .slice a k c), (2, .bool up), (3, .int .i64 n), (7, .pointer (some ⟨g2, 0, none⟩)), (8, .slice none 0 0), (9, .pointer (some ⟨g9, 0, none⟩)), (12, .func (.func 59) #[] #[.pointer (some ⟨go67, 0, none⟩)]), (13, .int .i64 x), (14, .bool up), (35, .bool false), (36, .func (.func 59) #[] #[.pointer (some ⟨go67, 0, none⟩)]), (37, .int .i64 x)]) ⟨rfl, rfl, rfl, rfl, rfl, rfl, rfl, rfl, rfl, rfl, rfl, rfl, rfl, trivial⟩ ?_)
      exact fun _ zk => ⟨(Below.refl _ _), (), zk.sub ⟨rfl, rfl, rfl, rfl, rfl, rfl, rfl, rfl, rfl, rfl, rfl, rfl, trivial⟩, trivial⟩
    · rintro zl82 pre x zy w83 ⟨_, hz89, hb85, hB86, hB87, hB88⟩ _ hl84
      exact absurd hl84 (Nat.not_lt_zero _)
    · rintro D90 xs91 w92 hD93 hS94 ⟨_, hz100, hb96, hB97, hB98, hB99⟩ hw95
      refine WE.blockNormal ?_
      refine WE.next ?_
      refine WC.seq ?_
      refine WC.region ?_
      refine WL.val (.slice none 0 0) rfl rfl rfl (fun za zC zh zk => ld_27 rfl (zh.ev rfl) ((hB98.cell 0).trans rfl) zk) ?_
      refine WL.val (.slice none 0 0) rfl rfl rfl (fun za zC zh zk => wp_assign rfl (zh.ev rfl) zk) ?_
      refine WL.nil (WE.sub (K' := [(0, .pointer none), (1, .slice a k c), (2, .bool up), (3, .int .i64 n), (7, .pointer (some ⟨g2, 0, none⟩)), (8, .slice none 0 0), (9, .pointer (some ⟨g9, 0, none⟩)), (12, .func (.func 59) #[] #[.pointer (some ⟨go67, 0, none⟩)]), (14, .bool up), (35, .bool false), (36, .func (.func 59) #[] #[.pointer (some ⟨go67, 0, none⟩)])]) ⟨rfl, rfl, rfl, rfl, rfl, rfl, rfl, rfl, rfl, rfl, rfl, trivial⟩ ?_)
      refine WE.next ?_
      refine WC.ret ?_
      obtain ⟨w101, hs102, hc103, hk104⟩ := shut_all [D90] w92 (by intro D hD; simp only [List.mem_cons, List.not_mem_nil, or_false] at hD; rcases hD with rfl <;> assumption) (by simp <;> omega)
      have hB105 : Blk w101 g2 3 #[.int .i64 n] := hk104 _ _ hB97 rfl
      have hB106 : Blk w101 g9 27 #[.slice none 0 0] := hk104 _ _ hB98 rfl
      have hB107 : Blk w101 go67 27 #[.slice none 0 0] := hk104 _ _ hB99 rfl
      have hb108 := chg_below hb96 hc103 (fun b hb => by simp only [List.mem_cons, List.not_mem_nil, or_false]; omega)
      refine WE.retS1 rfl rfl hs102 ?_
      exact ⟨_, rfl, rfl, hb108⟩
    · rintro D109 zc110 pre111 w112 hD113 hS114 hI115 hw116
      exact hI115.elim

set_option maxRecDepth 100000 in
theorem fnil_any (a : Option Addr) (k c : Nat) (n : Int) (w : World) : Calls Try.prog 7 #[.slice a k c, .int .i64 n] w (Ret fun v' w' => v' = .bool true ∧ Below w.heap.size w w') := by
  refine Calls.walk (l := [.slice a k c, .int .i64 n]) Try.func7 rfl (by kernel_rfl) ?_
  refine WC.sub (K' := [(0, .slice a k c), (1, .int .i64 n)]) ⟨rfl, rfl, trivial⟩ ?_
  refine WC.seq ?_
  refine WC.region ?_
  refine WL.val (.bool false) rfl rfl rfl (fun za zC zh zk => wp_assign rfl (zh.ev rfl) zk) ?_
  refine WL.nil (WE.sub (K' := [(0, .slice a k c), (1, .int .i64 n), (4, .bool false)]) ⟨rfl, rfl, rfl, trivial⟩ ?_)
  refine WE.next ?_
  refine WC.seq ?_
  refine WC.region ?_
  refine WL.val (.pointer none) rfl rfl rfl (fun za zC zh zk => wp_assign rfl (zh.ev rfl) zk) ?_
  refine WL.nil (WE.sub (K' := [(0, .slice a k c), (1, .int .i64 n), (4, .bool false), (5, .pointer none)]) ⟨rfl, rfl, rfl, rfl, trivial⟩ ?_)
  refine WE.next ?_
  refine WC.seq ?_
  refine WC.region ?_
  refine WL.val (.pointer none) rfl rfl rfl (fun za zC zh zk => wp_move rfl (zh.ev rfl) zk) ?_
  refine WL.val (.slice a k c) rfl rfl rfl (fun za zC zh zk => wp_move rfl (zh.ev rfl) zk) ?_
  refine WL.val (.int .i64 n) rfl rfl rfl (fun za zC zh zk => wp_move rfl (zh.ev rfl) zk) ?_
  refine WL.call rfl rfl rfl (fun za zh zC => wp_call (by kernel_rfl) rfl (hv3 (zh.ev rfl) (zh.ev rfl) (zh.ev rfl))) (iadd_nil a k c n _) ?_
  rintro _ w2 ⟨rfl, hq1⟩
  refine WL.val (.bool true) rfl rfl rfl (fun za zC zh zk => eql_40 rfl (zh.ev rfl) (zh.ev rfl) zk) ?_
  refine WL.val (.bool true) rfl rfl rfl (fun za zC zh zk => wp_move rfl (zh.ev rfl) zk) ?_
  refine WL.want (d := 11) rfl rfl rfl ?_
  refine WL.val (.pointer none) rfl rfl rfl (fun za zC zh zk => wp_move rfl (zh.ev rfl) zk) ?_
  refine WL.want (d := 11) rfl rfl rfl ?_
  refine WL.val (.slice a k c) rfl rfl rfl (fun za zC zh zk => wp_move rfl (zh.ev rfl) zk) ?_
  refine WL.want (d := 11) rfl rfl rfl ?_
  refine WL.val (.int .i64 n) rfl rfl rfl (fun za zC zh zk => wp_move rfl (zh.ev rfl) zk) ?_
  refine WL.want (d := 11) rfl rfl rfl ?_
  refine WL.call rfl rfl rfl (fun za zh zC => wp_call (by kernel_rfl) rfl (hv3 (zh.ev rfl) (zh.ev rfl) (zh.ev rfl))) (idel_nil a k c n _) ?_
  rintro _ w4 ⟨rfl, hq3⟩
  refine WL.want (d := 11) rfl rfl rfl ?_
  refine WL.val (.bool true) rfl rfl rfl (fun za zC zh zk => wp_not rfl (zh.ev rfl) zk) ?_
  refine WL.val (.bool true) rfl rfl rfl (fun za zC zh zk => wp_pickT rfl (zh.ev rfl) (zh.ev rfl) zk) ?_
  refine WL.val (.bool true) rfl rfl rfl (fun za zC zh zk => wp_move rfl (zh.ev rfl) zk) ?_
  refine WL.want (d := 18) rfl rfl rfl ?_
  refine WL.val (.pointer none) rfl rfl rfl (fun za zC zh zk => wp_move rfl (zh.ev rfl) zk) ?_
  refine WL.want (d := 18) rfl rfl rfl ?_
  refine WL.val (.slice a k c) rfl rfl rfl (fun za zC zh zk => wp_move rfl (zh.ev rfl) zk) ?_
  refine WL.want (d := 18) rfl rfl rfl ?_
  refine WL.call rfl rfl rfl (fun za zh zC => wp_call (by kernel_rfl) rfl (hv4 (zh.ev rfl) (zh.ev rfl) (zh.ev rfl) (zh.ev rfl))) (ids_nil a k c true (-1) _) ?_
  rintro _ w6 ⟨rfl, hq5⟩
  refine WL.want (d := 18) rfl rfl rfl ?_
  refine WL.val (.int .i64 0) rfl rfl rfl (fun za zC zh zk => len_27 rfl (zh.ev rfl) zk) ?_
  refine WL.want (d := 18) rfl rfl rfl ?_
  refine WL.val (.bool true) rfl rfl rfl (fun za zC zh zk => eql_3 rfl (zh.ev rfl) (zh.ev rfl) zk) ?_
  refine WL.val (.bool true) rfl rfl rfl (fun za zC zh zk => wp_pickT rfl (zh.ev rfl) (zh.ev rfl) zk) ?_
  refine WL.val (.bool true) rfl rfl rfl (fun za zC zh zk => wp_move rfl (zh.ev rfl) zk) ?_
  refine WL.want (d := 25) rfl rfl rfl ?_
  refine WL.val (.pointer none) rfl rfl rfl (fun za zC zh zk => wp_move rfl (zh.ev rfl) zk) ?_
  refine WL.want (d := 25) rfl rfl rfl ?_
  refine WL.val (.slice a k c) rfl rfl rfl (fun za zC zh zk => wp_move rfl (zh.ev rfl) zk) ?_
  refine WL.want (d := 25) rfl rfl rfl ?_
  refine WL.call rfl rfl rfl (fun za zh zC => wp_call (by kernel_rfl) rfl (hv4 (zh.ev rfl) (zh.ev rfl) (zh.ev rfl) (zh.ev rfl))) (ids_nil a k c false (-1) _) ?_
  rintro _ w8 ⟨rfl, hq7⟩
  refine WL.want (d := 25) rfl rfl rfl ?_
  refine WL.val (.int .i64 0) rfl rfl rfl (fun za zC zh zk => len_27 rfl (zh.ev rfl) zk) ?_
  refine WL.want (d := 25) rfl rfl rfl ?_
  refine WL.val (.bool true) rfl rfl rfl (fun za zC zh zk => eql_3 rfl (zh.ev rfl) (zh.ev rfl) zk) ?_
  refine WL.val (.bool true) rfl rfl rfl (fun za zC zh zk => wp_pickT rfl (zh.ev rfl) (zh.ev rfl) zk) ?_
  refine WL.val (.bool true) rfl rfl rfl (fun za zC zh zk => wp_move rfl (zh.ev rfl) zk) ?_
  refine WL.want (d := 32) rfl rfl rfl ?_
  refine WL.val (.pointer none) rfl rfl rfl (fun za zC zh zk => wp_move rfl (zh.ev rfl) zk) ?_
  refine WL.want (d := 32) rfl rfl rfl ?_
  refine WL.call rfl rfl rfl (fun za zh zC => wp_call (by kernel_rfl) rfl (hv1 (zh.ev rfl))) (ilen_nil _) ?_
  rintro _ w10 ⟨rfl, hq9⟩
  refine WL.want (d := 32) rfl rfl rfl ?_
  refine WL.val (.bool true) rfl rfl rfl (fun za zC zh zk => eql_3 rfl (zh.ev rfl) (zh.ev rfl) zk) ?_
  refine WL.val (.bool true) rfl rfl rfl (fun za zC zh zk => wp_pickT rfl (zh.ev rfl) (zh.ev rfl) zk) ?_
  refine WL.val (.bool true) rfl rfl rfl (fun za zC zh zk => wp_move rfl (zh.ev rfl) zk) ?_
  refine WL.want (d := 37) rfl rfl rfl ?_
  refine WL.call rfl rfl rfl (fun za zh zC => wp_call (by kernel_rfl) rfl (hv0)) (wakes_any _) ?_
  rintro _ w12 ⟨rfl, hq11⟩
  refine WL.val (.bool true) rfl rfl rfl (fun za zC zh zk => wp_pickT rfl (zh.ev rfl) (zh.ev rfl) zk) ?_
  refine WL.val (.bool true) rfl rfl rfl (fun za zC zh zk => wp_assign rfl (zh.ev rfl) zk) ?_
  refine WL.nil (WE.sub (K' := [(0, .slice a k c), (1, .int .i64 n), (4, .bool true), (5, .pointer none)]) ⟨rfl, rfl, rfl, rfl, trivial⟩ ?_)
  refine WE.next ?_
  refine WC.ret ?_
  refine WE.ret1 rfl rfl ?_
  have hb13 : Below w.heap.size w w12 := (bstep (bstep (bstep (bstep (bstep hq1 hq3) hq5) hq7) hq9) hq11)
  exact ⟨_, rfl, rfl, hb13⟩

end Go.Proofs.Ytnblndmjjokepaa
