/- Two rooms, whatever is done in them: the walk through the law HeurRoom. -/
import Derived.Test.YtjhkoiggeepajaaBothR
namespace Go.Proofs.Ytjhkoiggeepajaa
open Go.RowKit Go
set_option linter.unusedVariables false
set_option linter.unusedSimpArgs false

theorem new_bad {q : List Qu} (hq : qsOk q = false) (w : World) (a : Option Addr) (c : Nat) (h : IsQs w q a) (hc : q.length ≤ c) : Calls Try.prog 11 #[.slice a q.length c] w (Ret fun v' w' => v' = .tuple #[.pointer none, .int .i64 2] ∧ Below w.heap.size w w') :=
  (new_any q w a c h hc).mono fun e w' ⟨v, e1, h1⟩ => ⟨v, e1, by
    rcases h1 with ⟨_, h1⟩ | ⟨h1, _⟩
    · exact h1
    · rw [hq] at h1; cases h1⟩
theorem rnew_bad {q : List Qu} (hq : qsOk q = false) (w : World) (a : Option Addr) (c : Nat) (h : IsQs w q a) (hz : q.length ≤ 1048576) : Calls Try.prog 14 #[.slice a q.length c] w (Ret fun v' w' => v' = .tuple #[.pointer none, .int .i64 2] ∧ Below w.heap.size w w') :=
  (rnew_any q w a c h hz).mono fun e w' ⟨v, e1, h1⟩ => ⟨v, e1, by
    rcases h1 with ⟨_, h1⟩ | ⟨h1, _⟩
    · exact h1
    · rw [hq] at h1; cases h1⟩
theorem rnew_ok {q : List Qu} (hq : qsOk q = true) (w : World) (a : Option Addr) (c : Nat) (h : IsQs w q a) (hz : q.length ≤ 1048576) : Calls Try.prog 14 #[.slice a q.length c] w (Ret fun v' w' => (∃ z, v' = .tuple #[.pointer (some ⟨z, 0, none⟩), .int .i64 0] ∧ RefIs w' z (fun b => w.heap.size ≤ b) q a c [] 0 0) ∧ Below w.heap.size w w') :=
  (rnew_any q w a c h hz).mono fun e w' ⟨v, e1, h1⟩ => ⟨v, e1, by
    rcases h1 with ⟨h1, _⟩ | ⟨_, h1, h2⟩
    · rw [hq] at h1; cases h1
    · exact ⟨h1, h2⟩⟩
/-- Both rooms, where a walk stands. -/
structure RmS where
  k : Nat
  Z : Nat → Prop
  Y : Nat → Prop
  ws : List Wt
  L : List RI
  tm : Nat
  at_ : Nat
  dn : Nat
def BG (A B C : World → Prop) : List Value → World → Prop
  | [], w => A w
  | [_], w => B w
  | _, w => C w
theorem BG.below {A B C : World → Prop} (hA : ∀ w w', Below w.heap.size w w' → A w → A w') (hB : ∀ w w', Below w.heap.size w w' → B w → B w') (hC : ∀ w w', Below w.heap.size w w' → C w → C w') (vals : List Value) (w w' : World) (hb : Below w.heap.size w w') (h : BG A B C vals w) : BG A B C vals w' := by
  match vals, h with
  | [], h => exact hA _ _ hb h
  | [_], h => exact hB _ _ hb h
  | _ :: _ :: _, h => exact hC _ _ hb h
set_option maxRecDepth 100000 in
theorem room_bad (q : List Qu) (w : World) (qa : Option Addr) (qc : Nat) (hq : IsQs w q qa) (hqc : q.length ≤ qc) (hqz : q.length ≤ 1048576) (k : Nat) (a : Option Addr) (c : Nat) (hqs : qsOk q = false) : Calls Try.prog 5 #[.slice qa q.length qc, .slice a k c] w (Ret fun v' w' => v' = .bool true ∧ Below w.heap.size w w') := by
  refine Calls.walk (l := [.slice qa q.length qc, .slice a k c]) Try.func5 rfl (by kernel_rfl) ?_
  refine WC.sub (K' := [(0, .slice qa q.length qc), (1, .slice a k c)]) ⟨rfl, rfl, trivial⟩ ?_
  refine WC.seq ?_
  refine WC.region ?_
  refine WL.val (.bool false) rfl rfl rfl (fun za zC zh zk => wp_assign rfl (zh.ev rfl) zk) ?_
  refine WL.nil (WE.sub (K' := [(0, .slice qa q.length qc), (1, .slice a k c), (4, .bool false)]) ⟨rfl, rfl, rfl, trivial⟩ ?_)
  refine WE.next ?_
  refine WC.seq ?_
  refine WC.region ?_
  refine WL.val (.slice qa q.length qc) rfl rfl rfl (fun za zC zh zk => wp_move rfl (zh.ev rfl) zk) ?_
  refine WL.call rfl rfl rfl (fun za zh zC => wp_call (by kernel_rfl) rfl (hv1 (zh.ev rfl))) (new_bad hqs _ _ _ (hq.below (Below.refl _ _)) hqc) ?_
  rintro _ w2 ⟨rfl, hq1⟩
  refine WL.val (.tuple #[.pointer none, .int .i64 2]) rfl rfl rfl (fun za zC zh zk => wp_move rfl (zh.ev rfl) zk) ?_
  refine WL.val (.pointer none) rfl rfl rfl (fun za zC zh zk => ext2_0 rfl (zh.ev rfl) zk) ?_
  refine WL.val (.int .i64 2) rfl rfl rfl (fun za zC zh zk => ext2_1 rfl (zh.ev rfl) zk) ?_
  refine WL.val (.pointer none) rfl rfl rfl (fun za zC zh zk => wp_assign rfl (zh.ev rfl) zk) ?_
  refine WL.val (.int .i64 2) rfl rfl rfl (fun za zC zh zk => wp_assign rfl (zh.ev rfl) zk) ?_
  refine WL.nil (WE.sub (K' := [(0, .slice qa q.length qc), (1, .slice a k c), (4, .bool false), (5, .pointer none), (6, .int .i64 2)]) ⟨rfl, rfl, rfl, rfl, rfl, trivial⟩ ?_)
  refine WE.next ?_
  refine WC.seq ?_
  refine WC.region ?_
  refine WL.val (.slice qa q.length qc) rfl rfl rfl (fun za zC zh zk => wp_move rfl (zh.ev rfl) zk) ?_
  refine WL.call rfl rfl rfl (fun za zh zC => wp_call (by kernel_rfl) rfl (hv1 (zh.ev rfl))) (rnew_bad hqs _ _ _ (hq.below hq1) hqz) ?_
  rintro _ w4 ⟨rfl, hq3⟩
  refine WL.val (.tuple #[.pointer none, .int .i64 2]) rfl rfl rfl (fun za zC zh zk => wp_move rfl (zh.ev rfl) zk) ?_
  refine WL.val (.pointer none) rfl rfl rfl (fun za zC zh zk => ext2_0 rfl (zh.ev rfl) zk) ?_
  refine WL.val (.int .i64 2) rfl rfl rfl (fun za zC zh zk => ext2_1 rfl (zh.ev rfl) zk) ?_
  refine WL.val (.pointer none) rfl rfl rfl (fun za zC zh zk => wp_assign rfl (zh.ev rfl) zk) ?_
  refine WL.val (.int .i64 2) rfl rfl rfl (fun za zC zh zk => wp_assign rfl (zh.ev rfl) zk) ?_
  refine WL.nil (WE.sub (K' := [(0, .slice qa q.length qc), (1, .slice a k c), (4, .bool false), (5, .pointer none), (6, .int .i64 2), (7, .pointer none), (8, .int .i64 2)]) ⟨rfl, rfl, rfl, rfl, rfl, rfl, rfl, trivial⟩ ?_)
  refine WE.next ?_
  refine WC.seq ?_
  refine WC.seq ?_
  refine WC.region ?_
  refine WL.val (.int .i64 2) rfl rfl rfl (fun za zC zh zk => wp_move rfl (zh.ev rfl) zk) ?_
  refine WL.val (.int .i64 2) rfl rfl rfl (fun za zC zh zk => wp_move rfl (zh.ev rfl) zk) ?_
  refine WL.val (.bool false) rfl rfl rfl (fun za zC zh zk => neq_34 rfl (zh.ev rfl) (zh.ev rfl) zk) ?_
  refine WL.val (.bool false) rfl rfl rfl (fun za zC zh zk => wp_move rfl (zh.ev rfl) zk) ?_
  refine WL.want (d := 28) rfl rfl rfl ?_
  refine WL.val (.pointer none) rfl rfl rfl (fun za zC zh zk => wp_move rfl (zh.ev rfl) zk) ?_
  refine WL.want (d := 28) rfl rfl rfl ?_
  refine WL.val (.bool true) rfl rfl rfl (fun za zC zh zk => eqln_33 rfl (zh.ev rfl) (zh.ev rfl) zk) ?_
  refine WL.want (d := 28) rfl rfl rfl ?_
  refine WL.val (.int .i64 2) rfl rfl rfl (fun za zC zh zk => wp_move rfl (zh.ev rfl) zk) ?_
  refine WL.want (d := 28) rfl rfl rfl ?_
  refine WL.val (.bool true) rfl rfl rfl (fun za zC zh zk => neq_34 rfl (zh.ev rfl) (zh.ev rfl) zk) ?_
  refine WL.want (d := 28) rfl rfl rfl ?_
  refine WL.val (.bool ((true != true))) rfl rfl rfl (fun za zC zh zk => neq_4 rfl (zh.ev rfl) (zh.ev rfl) zk) ?_
  refine WL.val (.bool ((true != true))) rfl rfl rfl (fun za zC zh zk => wp_pickF rfl (zh.ev rfl) (zh.ev rfl) zk) ?_
  refine WL.nil (WE.sub (K' := [(0, .slice qa q.length qc), (1, .slice a k c), (4, .bool false), (5, .pointer none), (6, .int .i64 2), (7, .pointer none), (8, .int .i64 2), (34, .bool ((true != true)))]) ⟨rfl, rfl, rfl, rfl, rfl, rfl, rfl, rfl, trivial⟩ ?_)
  refine WE.next ?_
  refine WC.condF rfl (rfl) ?_
  refine WC.skip ?_
  refine WE.next ?_
  refine WC.seq ?_
  refine WC.seq ?_
  refine WC.region ?_
  refine WL.val (.int .i64 2) rfl rfl rfl (fun za zC zh zk => wp_move rfl (zh.ev rfl) zk) ?_
  refine WL.val (.bool true) rfl rfl rfl (fun za zC zh zk => neq_34 rfl (zh.ev rfl) (zh.ev rfl) zk) ?_
  refine WL.nil (WE.sub (K' := [(0, .slice qa q.length qc), (1, .slice a k c), (4, .bool false), (5, .pointer none), (6, .int .i64 2), (7, .pointer none), (8, .int .i64 2), (34, .bool ((true != true))), (36, .bool true)]) ⟨rfl, rfl, rfl, rfl, rfl, rfl, rfl, rfl, rfl, trivial⟩ ?_)
  refine WE.next ?_
  refine WC.condT rfl rfl ?_
  refine WC.seq ?_
  refine WC.region ?_
  refine WL.call rfl rfl rfl (fun za zh zC => wp_call (by kernel_rfl) rfl (hv0)) (wakes_any _) ?_
  rintro _ w6 ⟨rfl, hq5⟩
  refine WL.val (.bool true) rfl rfl rfl (fun za zC zh zk => wp_assign rfl (zh.ev rfl) zk) ?_
  refine WL.nil (WE.sub (K' := [(0, .slice qa q.length qc), (1, .slice a k c), (4, .bool true), (5, .pointer none), (6, .int .i64 2), (7, .pointer none), (8, .int .i64 2), (34, .bool ((true != true))), (36, .bool true)]) ⟨rfl, rfl, rfl, rfl, rfl, rfl, rfl, rfl, rfl, trivial⟩ ?_)
  refine WE.next ?_
  refine WC.ret ?_
  refine WE.thenRet ?_
  refine WE.ret1 rfl rfl ?_
  have hb7 : Below w.heap.size w w6 := (bstep (bstep hq1 hq3) hq5)
  exact ⟨_, rfl, rfl, hb7⟩

set_option maxRecDepth 100000 in
theorem room_good (q : List Qu) (w : World) (qa : Option Addr) (qc : Nat) (hq : IsQs w q qa) (hqc : q.length ≤ qc) (hqz : q.length ≤ 1048576) (l : List Ac) (a : Option Addr) (c : Nat) (hl : IsAcs w l a) (hlz : l.length ≤ 1048576) (hqs : qsOk q = true) : Calls Try.prog 5 #[.slice qa q.length qc, .slice a l.length c] w (Ret fun v' w' => v' = .bool true ∧ Below w.heap.size w w') := by
  obtain ⟨ab, ao, A, C, haa, hac⟩ := hl
  refine Calls.walk (l := [.slice qa q.length qc, .slice a l.length c]) Try.func5 rfl (by kernel_rfl) ?_
  refine WC.sub (K' := [(0, .slice qa q.length qc), (1, .slice a l.length c)]) ⟨rfl, rfl, trivial⟩ ?_
  refine WC.seq ?_
  refine WC.region ?_
  refine WL.val (.bool false) rfl rfl rfl (fun za zC zh zk => wp_assign rfl (zh.ev rfl) zk) ?_
  refine WL.nil (WE.sub (K' := [(0, .slice qa q.length qc), (1, .slice a l.length c), (4, .bool false)]) ⟨rfl, rfl, rfl, trivial⟩ ?_)
  refine WE.next ?_
  refine WC.seq ?_
  refine WC.region ?_
  refine WL.val (.slice qa q.length qc) rfl rfl rfl (fun za zC zh zk => wp_move rfl (zh.ev rfl) zk) ?_
  have hn0 : w.heap.size ≤ w.heap.size := (Nat.le_refl _)
  refine WL.call rfl rfl rfl (fun za zh zC => wp_call (by kernel_rfl) rfl (hv1 (zh.ev rfl))) (new_ok hqs _ _ _ (hq.below (Below.refl _ _)) hqc) ?_
  rintro _ w1 ⟨⟨r, rfl, hR⟩, hbn⟩
  refine WL.val (.tuple #[.pointer (some ⟨r, 0, none⟩), .int .i64 0]) rfl rfl rfl (fun za zC zh zk => wp_move rfl (zh.ev rfl) zk) ?_
  refine WL.val (.pointer (some ⟨r, 0, none⟩)) rfl rfl rfl (fun za zC zh zk => ext2_0 rfl (zh.ev rfl) zk) ?_
  refine WL.val (.int .i64 0) rfl rfl rfl (fun za zC zh zk => ext2_1 rfl (zh.ev rfl) zk) ?_
  refine WL.val (.pointer (some ⟨r, 0, none⟩)) rfl rfl rfl (fun za zC zh zk => wp_assign rfl (zh.ev rfl) zk) ?_
  refine WL.val (.int .i64 0) rfl rfl rfl (fun za zC zh zk => wp_assign rfl (zh.ev rfl) zk) ?_
  refine WL.nil (WE.sub (K' := [(0, .slice qa q.length qc), (1, .slice a l.length c), (4, .bool false), (5, .pointer (some ⟨r, 0, none⟩)), (6, .int .i64 0)]) ⟨rfl, rfl, rfl, rfl, rfl, trivial⟩ ?_)
  refine WE.next ?_
  refine WC.seq ?_
  refine WC.region ?_
  refine WL.val (.slice qa q.length qc) rfl rfl rfl (fun za zC zh zk => wp_move rfl (zh.ev rfl) zk) ?_
  have hR2 := hR.below (Below.refl _ _)
  have hn1 : w.heap.size ≤ w1.heap.size := hbn.size
  refine WL.call rfl rfl rfl (fun za zh zC => wp_call (by kernel_rfl) rfl (hv1 (zh.ev rfl))) (rnew_ok hqs _ _ _ (hq.below hbn) hqz) ?_
  rintro _ w3 ⟨⟨z, rfl, hF⟩, hbr⟩
  have hBX0 : BothX w w3 r z q qa qc (fun b => w.heap.size ≤ b ∧ b < w1.heap.size) (fun b => w1.heap.size ≤ b ∧ b < w3.heap.size) [] 0 0 0 [] 0 0 := ⟨(hR2.mono (fun b u v => ⟨by omega, v⟩)).below hbr, hF.mono (fun b u v => ⟨u, v⟩), fun b u => by have z9 := hbr.size; omega, fun b u => by omega, fun b u v => by omega, fun k hk => by simp at hk, by have z9 := hbr.size; omega⟩
  refine WL.val (.tuple #[.pointer (some ⟨z, 0, none⟩), .int .i64 0]) rfl rfl rfl (fun za zC zh zk => wp_move rfl (zh.ev rfl) zk) ?_
  refine WL.val (.pointer (some ⟨z, 0, none⟩)) rfl rfl rfl (fun za zC zh zk => ext2_0 rfl (zh.ev rfl) zk) ?_
  refine WL.val (.int .i64 0) rfl rfl rfl (fun za zC zh zk => ext2_1 rfl (zh.ev rfl) zk) ?_
  refine WL.val (.pointer (some ⟨z, 0, none⟩)) rfl rfl rfl (fun za zC zh zk => wp_assign rfl (zh.ev rfl) zk) ?_
  refine WL.val (.int .i64 0) rfl rfl rfl (fun za zC zh zk => wp_assign rfl (zh.ev rfl) zk) ?_
  refine WL.nil (WE.sub (K' := [(0, .slice qa q.length qc), (1, .slice a l.length c), (4, .bool false), (5, .pointer (some ⟨r, 0, none⟩)), (6, .int .i64 0), (7, .pointer (some ⟨z, 0, none⟩)), (8, .int .i64 0)]) ⟨rfl, rfl, rfl, rfl, rfl, rfl, rfl, trivial⟩ ?_)
  refine WE.next ?_
  refine WC.seq ?_
  refine WC.seq ?_
  refine WC.region ?_
  refine WL.val (.int .i64 0) rfl rfl rfl (fun za zC zh zk => wp_move rfl (zh.ev rfl) zk) ?_
  refine WL.val (.int .i64 0) rfl rfl rfl (fun za zC zh zk => wp_move rfl (zh.ev rfl) zk) ?_
  refine WL.val (.bool false) rfl rfl rfl (fun za zC zh zk => neq_34 rfl (zh.ev rfl) (zh.ev rfl) zk) ?_
  refine WL.val (.bool false) rfl rfl rfl (fun za zC zh zk => wp_move rfl (zh.ev rfl) zk) ?_
  refine WL.want (d := 28) rfl rfl rfl ?_
  refine WL.val (.pointer (some ⟨r, 0, none⟩)) rfl rfl rfl (fun za zC zh zk => wp_move rfl (zh.ev rfl) zk) ?_
  refine WL.want (d := 28) rfl rfl rfl ?_
  refine WL.val (.bool false) rfl rfl rfl (fun za zC zh zk => eqlp_33 rfl (zh.ev rfl) (zh.ev rfl) zk) ?_
  refine WL.want (d := 28) rfl rfl rfl ?_
  refine WL.val (.int .i64 0) rfl rfl rfl (fun za zC zh zk => wp_move rfl (zh.ev rfl) zk) ?_
  refine WL.want (d := 28) rfl rfl rfl ?_
  refine WL.val (.bool false) rfl rfl rfl (fun za zC zh zk => neq_34 rfl (zh.ev rfl) (zh.ev rfl) zk) ?_
  refine WL.want (d := 28) rfl rfl rfl ?_
  refine WL.val (.bool ((false != false))) rfl rfl rfl (fun za zC zh zk => neq_4 rfl (zh.ev rfl) (zh.ev rfl) zk) ?_
  refine WL.val (.bool ((false != false))) rfl rfl rfl (fun za zC zh zk => wp_pickF rfl (zh.ev rfl) (zh.ev rfl) zk) ?_
  refine WL.nil (WE.sub (K' := [(0, .slice qa q.length qc), (1, .slice a l.length c), (4, .bool false), (5, .pointer (some ⟨r, 0, none⟩)), (6, .int .i64 0), (7, .pointer (some ⟨z, 0, none⟩)), (8, .int .i64 0), (34, .bool ((false != false)))]) ⟨rfl, rfl, rfl, rfl, rfl, rfl, rfl, rfl, trivial⟩ ?_)
  refine WE.next ?_
  refine WC.condF rfl (rfl) ?_
  refine WC.skip ?_
  refine WE.next ?_
  refine WC.seq ?_
  refine WC.seq ?_
  refine WC.region ?_
  refine WL.val (.int .i64 0) rfl rfl rfl (fun za zC zh zk => wp_move rfl (zh.ev rfl) zk) ?_
  refine WL.val (.bool false) rfl rfl rfl (fun za zC zh zk => neq_34 rfl (zh.ev rfl) (zh.ev rfl) zk) ?_
  refine WL.nil (WE.sub (K' := [(0, .slice qa q.length qc), (1, .slice a l.length c), (4, .bool false), (5, .pointer (some ⟨r, 0, none⟩)), (6, .int .i64 0), (7, .pointer (some ⟨z, 0, none⟩)), (8, .int .i64 0), (34, .bool ((false != false))), (36, .bool false)]) ⟨rfl, rfl, rfl, rfl, rfl, rfl, rfl, rfl, rfl, trivial⟩ ?_)
  refine WE.next ?_
  refine WC.condF rfl rfl ?_
  refine WC.skip ?_
  refine WE.next ?_
  refine WC.seq ?_
  refine WC.seq ?_
  refine WC.region ?_
  refine WL.val (.slice a l.length c) rfl rfl rfl (fun za zC zh zk => wp_move rfl (zh.ev rfl) zk) ?_
  refine WL.val (.int .i64 (((l.length : Nat) : Int))) rfl rfl rfl (fun za zC zh zk => len_43 rfl (zh.ev rfl) zk) ?_
  refine WL.val (.int .i64 0) rfl rfl rfl (fun za zC zh zk => wp_move rfl (zh.ev rfl) zk) ?_
  refine WL.nil (WE.sub (K' := [(0, .slice qa q.length qc), (1, .slice a l.length c), (4, .bool false), (5, .pointer (some ⟨r, 0, none⟩)), (6, .int .i64 0), (7, .pointer (some ⟨z, 0, none⟩)), (8, .int .i64 0), (34, .bool ((false != false))), (36, .bool false), (38, .slice a l.length c), (39, .int .i64 (((l.length : Nat) : Int))), (40, .int .i64 0)]) ⟨rfl, rfl, rfl, rfl, rfl, rfl, rfl, rfl, rfl, rfl, rfl, rfl, trivial⟩ ?_)
  refine WE.next ?_
  refine WC.block ?_
  refine WC.loop (X := RmS) (fun y => l.length - y.k) (fun y => [(0, .slice qa q.length qc), (1, .slice a l.length c), (5, .pointer (some ⟨r, 0, none⟩)), (6, .int .i64 0), (7, .pointer (some ⟨z, 0, none⟩)), (8, .int .i64 0), (34, .bool ((false != false))), (36, .bool false), (38, .slice a l.length c), (39, .int .i64 (((l.length : Nat) : Int))), (40, .int .i64 (((y.k : Nat) : Int)))]) (fun y w4 => y.k ≤ l.length ∧ y.tm ≤ y.k ∧ y.k ≤ 80 ∧ y.L.length ≤ y.k ∧ BothX w (w4) r z q qa qc y.Z y.Y y.ws y.tm y.at_ y.dn y.L y.at_ y.dn ∧ Alike y.ws y.L ∧ Below w.heap.size w w4) (⟨0, (fun b => w.heap.size ≤ b ∧ b < w1.heap.size), (fun b => w1.heap.size ≤ b ∧ b < w3.heap.size), [], [], 0, 0, 0⟩) ⟨rfl, rfl, rfl, rfl, rfl, rfl, rfl, rfl, rfl, rfl, rfl, trivial⟩ ?_ ?_
  · have hb5 : Below w.heap.size w w3 := (bstep hbn hbr)
    exact ⟨Nat.zero_le _, Nat.le_refl _, Nat.zero_le _, Nat.zero_le _, hBX0.below (Below.refl _ _), Alike.nil, hb5⟩
  · rintro y w4 ⟨hk, htm, h80, hLk, hBX, hAl, hb6⟩
    refine WC.seq ?_
    refine WC.region ?_
    refine WL.val (.bool ((decide ((((y.k : Nat) : Int) : Int) < (((l.length : Nat) : Int) : Int))))) rfl rfl rfl (fun za zC zh zk => lss_3 rfl (zh.ev rfl) (zh.ev rfl) zk) ?_
    refine WL.nil (WE.sub (K' := [(0, .slice qa q.length qc), (1, .slice a l.length c), (5, .pointer (some ⟨r, 0, none⟩)), (6, .int .i64 0), (7, .pointer (some ⟨z, 0, none⟩)), (8, .int .i64 0), (34, .bool ((false != false))), (36, .bool false), (38, .slice a l.length c), (39, .int .i64 (((l.length : Nat) : Int))), (40, .int .i64 (((y.k : Nat) : Int))), (41, .bool ((decide ((((y.k : Nat) : Int) : Int) < (((l.length : Nat) : Int) : Int)))))]) ⟨rfl, rfl, rfl, rfl, rfl, rfl, rfl, rfl, rfl, rfl, rfl, rfl, trivial⟩ ?_)
    refine WE.next ?_
    refine WC.seq ?_
    refine WC.cond rfl (fun h7 => ?_) (fun h7 => ?_)
    · have h7 : (((y.k : Nat) : Int) : Int) < (((l.length : Nat) : Int) : Int) := by simpa using h7
      refine WC.skip ?_
      refine WE.next ?_
      refine WC.seq ?_
      refine WC.block ?_
      refine WC.seq ?_
      refine WC.region ?_
      refine WL.val (.int .i64 (((y.k : Nat) : Int))) rfl rfl rfl (fun za zC zh zk => wp_move rfl (zh.ev rfl) zk) ?_
      refine WL.val (.pointer (some ⟨ab, ao + y.k * 4, none⟩)) rfl rfl rfl (fun za zC zh zk => ix_43 (k := y.k) rfl (zh.ev rfl) (haa y.k (by first | omega | (simp; omega))) (zh.ev rfl) (by first | omega | (simp; omega)) zk) ?_
      refine WL.val (.agg #[.int .i64 ((acget l y.k).kind), .int .i64 ((acget l y.k).id), .slice ((A y.k)) ((acget l y.k).l.length) ((C y.k)), .bool ((acget l y.k).goal)]) rfl rfl rfl (fun za zC zh zk => ld_48 rfl (zh.ev rfl) (bkeeps hb6 _ _ (hac y.k (by first | omega | (simp; omega))).1) (bkeeps hb6 _ _ (hac y.k (by first | omega | (simp; omega))).2.1) (bkeeps hb6 _ _ (hac y.k (by first | omega | (simp; omega))).2.2.1) (bkeeps hb6 _ _ (hac y.k (by first | omega | (simp; omega))).2.2.2.1) zk) ?_
      refine WL.step (post := NewBlk w4 48 #[.int .i64 0, .int .i64 0, .slice none 0 0, .bool false]) rfl rfl rfl (fun za zC zh zk => alloc_48 rfl (zk _ _ (newBlk _ _ _))) ?_
      rintro _ w8 ⟨g9, rfl, hg10, hB11, hb12, hz13⟩
      have hl14 : w.heap.size ≤ g9 := by have z2 := (hb6).size; omega
      have hl15 : w4.heap.size ≤ g9 := by omega
      refine WL.val (.int .i64 (((y.k : Nat) : Int))) rfl rfl rfl (fun za zC zh zk => wp_assign rfl (zh.ev rfl) zk) ?_
      refine WL.step (post := fun _ w' => Upd g9 w8 w' ∧ Blk w' g9 48 #[.int .i64 ((acget l y.k).kind), .int .i64 ((acget l y.k).id), .slice ((A y.k)) ((acget l y.k).l.length) ((C y.k)), .bool ((acget l y.k).goal)]) rfl rfl rfl (fun za zC zh zk => st_48 rfl (zh.ev rfl) (zh.ev rfl) rfl rfl rfl rfl hB11 (by first | decide | simp) (fun v => zk v _ ⟨(((Upd.at_ _ _ _ _).trans (Upd.at_ _ _ _ _)).trans (Upd.at_ _ _ _ _)).trans (Upd.at_ _ _ _ _), (((hB11.set_ 0 _).set_ 1 _).set_ 2 _).set_ 3 _⟩)) ?_
      rintro v19 w16 ⟨hu17, hB18⟩
      have hb20 : Below w.heap.size w w8 := (bstep hb6 hb12)
      have hb21 := upd_below hb20 hu17 (by omega)
      have hb22 := upd_below hb12 hu17 (by omega)
      refine WL.nil (WE.sub (K' := [(0, .slice qa q.length qc), (1, .slice a l.length c), (5, .pointer (some ⟨r, 0, none⟩)), (6, .int .i64 0), (7, .pointer (some ⟨z, 0, none⟩)), (8, .int .i64 0), (9, .int .i64 (((y.k : Nat) : Int))), (10, .pointer (some ⟨g9, 0, none⟩)), (34, .bool ((false != false))), (36, .bool false), (38, .slice a l.length c), (39, .int .i64 (((l.length : Nat) : Int))), (40, .int .i64 (((y.k : Nat) : Int))), (41, .bool ((decide ((((y.k : Nat) : Int) : Int) < (((l.length : Nat) : Int) : Int)))))]) ⟨rfl, rfl, rfl, rfl, rfl, rfl, rfl, rfl, rfl, rfl, rfl, rfl, rfl, rfl, trivial⟩ ?_)
      refine WE.next ?_
      refine WC.seq ?_
      refine WC.seq ?_
      refine WC.region ?_
      refine WL.val (.int .i64 (((y.k : Nat) : Int))) rfl rfl rfl (fun za zC zh zk => wp_move rfl (zh.ev rfl) zk) ?_
      refine WL.val (.bool ((decide ((80 : Int) ≤ (((y.k : Nat) : Int) : Int))))) rfl rfl rfl (fun za zC zh zk => geq_3 rfl (zh.ev rfl) (zh.ev rfl) zk) ?_
      refine WL.nil (WE.sub (K' := [(0, .slice qa q.length qc), (1, .slice a l.length c), (5, .pointer (some ⟨r, 0, none⟩)), (6, .int .i64 0), (7, .pointer (some ⟨z, 0, none⟩)), (8, .int .i64 0), (9, .int .i64 (((y.k : Nat) : Int))), (10, .pointer (some ⟨g9, 0, none⟩)), (34, .bool ((false != false))), (36, .bool false), (38, .slice a l.length c), (39, .int .i64 (((l.length : Nat) : Int))), (40, .int .i64 (((y.k : Nat) : Int))), (41, .bool ((decide ((((y.k : Nat) : Int) : Int) < (((l.length : Nat) : Int) : Int))))), (46, .bool ((decide ((80 : Int) ≤ (((y.k : Nat) : Int) : Int)))))]) ⟨rfl, rfl, rfl, rfl, rfl, rfl, rfl, rfl, rfl, rfl, rfl, rfl, rfl, rfl, rfl, trivial⟩ ?_)
      refine WE.next ?_
      refine WC.cond rfl (fun h23 => ?_) (fun h23 => ?_)
      · have h23 : (80 : Int) ≤ (((y.k : Nat) : Int) : Int) := by simpa using h23
        refine WC.exit ?_
        refine WE.thenExit ?_
        refine WE.blockNot rfl ?_
        refine WE.thenExit ?_
        refine WE.thenExit ?_
        refine WE.blockIs rfl ?_
        refine WE.next ?_
        refine WC.seq ?_
        refine WC.region ?_
        refine WL.call rfl rfl rfl (fun za zh zC => wp_call (by kernel_rfl) rfl (hv0)) (wakes_any _) ?_
        rintro _ w25 ⟨rfl, hq24⟩
        refine WL.val (.bool true) rfl rfl rfl (fun za zC zh zk => wp_assign rfl (zh.ev rfl) zk) ?_
        refine WL.nil (WE.sub (K' := [(0, .slice qa q.length qc), (1, .slice a l.length c), (4, .bool true), (5, .pointer (some ⟨r, 0, none⟩)), (6, .int .i64 0), (7, .pointer (some ⟨z, 0, none⟩)), (8, .int .i64 0), (9, .int .i64 (((y.k : Nat) : Int))), (10, .pointer (some ⟨g9, 0, none⟩)), (34, .bool ((false != false))), (36, .bool false), (38, .slice a l.length c), (39, .int .i64 (((l.length : Nat) : Int))), (40, .int .i64 (((y.k : Nat) : Int))), (41, .bool ((decide ((((y.k : Nat) : Int) : Int) < (((l.length : Nat) : Int) : Int))))), (46, .bool ((decide ((80 : Int) ≤ (((y.k : Nat) : Int) : Int)))))]) ⟨rfl, rfl, rfl, rfl, rfl, rfl, rfl, rfl, rfl, rfl, rfl, rfl, rfl, rfl, rfl, rfl, trivial⟩ ?_)
        refine WE.next ?_
        refine WC.ret ?_
        refine WE.ret1 rfl rfl ?_
        have hb26 : Below w.heap.size w w25 := (bstep hb21 hq24)
        exact ⟨_, rfl, rfl, hb26⟩
      · have h23 : ¬ ((80 : Int) ≤ (((y.k : Nat) : Int) : Int)) := by simpa using h23
        refine WC.skip ?_
        refine WE.next ?_
        refine WC.seq ?_
        refine WC.seq ?_
        refine WC.region ?_
        refine WL.val (.pointer (some ⟨g9, 2, none⟩)) rfl rfl rfl (fun za zC zh zk => fld_48_2 rfl (zh.ev rfl) zk) ?_
        refine WL.val (.slice ((A y.k)) ((acget l y.k).l.length) ((C y.k))) rfl rfl rfl (fun za zC zh zk => ld_24 rfl (zh.ev rfl) ((hB18.cell 2).trans rfl) zk) ?_
        refine WL.call rfl rfl rfl (fun za zh zC => wp_call (by kernel_rfl) rfl (hv1 (zh.ev rfl))) (large_any (acget l y.k).l _ _ _ ((hac y.k (by omega)).2.2.2.2.1.below hb21) (hac y.k (by omega)).2.2.2.2.2) ?_
        rintro _ w28 ⟨rfl, hq27⟩
        refine WL.nil (WE.sub (K' := [(0, .slice qa q.length qc), (1, .slice a l.length c), (5, .pointer (some ⟨r, 0, none⟩)), (6, .int .i64 0), (7, .pointer (some ⟨z, 0, none⟩)), (8, .int .i64 0), (9, .int .i64 (((y.k : Nat) : Int))), (10, .pointer (some ⟨g9, 0, none⟩)), (34, .bool ((false != false))), (36, .bool false), (38, .slice a l.length c), (39, .int .i64 (((l.length : Nat) : Int))), (40, .int .i64 (((y.k : Nat) : Int))), (41, .bool ((decide ((((y.k : Nat) : Int) : Int) < (((l.length : Nat) : Int) : Int))))), (46, .bool ((decide ((80 : Int) ≤ (((y.k : Nat) : Int) : Int))))), (49, .bool ((decide ((40 : Int) < ((acget l y.k).l.length : Int)) || decide ((1000 : Int) < (clSize (acget l y.k).l : Int)))))]) ⟨rfl, rfl, rfl, rfl, rfl, rfl, rfl, rfl, rfl, rfl, rfl, rfl, rfl, rfl, rfl, rfl, trivial⟩ ?_)
        refine WE.next ?_
        refine WC.cond rfl (fun h29 => ?_) (fun h29 => ?_)
        · skip
          refine WC.exit ?_
          refine WE.thenExit ?_
          refine WE.blockIs rfl ?_
          refine WE.next ?_
          refine WC.region ?_
          refine WL.val (.int .i64 ((((y.k + 1) : Nat) : Int))) rfl rfl rfl (fun za zC zh zk => addb_3 rfl (zh.ev rfl) (zh.ev rfl) (wrap_eq (by omega) (by omega) (by omega)) zk) ?_
          refine WL.val (.int .i64 ((((y.k + 1) : Nat) : Int))) rfl rfl rfl (fun za zC zh zk => wp_move rfl (zh.ev rfl) zk) ?_
          refine WL.nil (WE.sub (K' := [(0, .slice qa q.length qc), (1, .slice a l.length c), (5, .pointer (some ⟨r, 0, none⟩)), (6, .int .i64 0), (7, .pointer (some ⟨z, 0, none⟩)), (8, .int .i64 0), (9, .int .i64 (((y.k : Nat) : Int))), (10, .pointer (some ⟨g9, 0, none⟩)), (34, .bool ((false != false))), (36, .bool false), (38, .slice a l.length c), (39, .int .i64 (((l.length : Nat) : Int))), (40, .int .i64 ((((y.k + 1) : Nat) : Int))), (41, .bool ((decide ((((y.k : Nat) : Int) : Int) < (((l.length : Nat) : Int) : Int))))), (46, .bool ((decide ((80 : Int) ≤ (((y.k : Nat) : Int) : Int))))), (49, .bool ((decide ((40 : Int) < ((acget l y.k).l.length : Int)) || decide ((1000 : Int) < (clSize (acget l y.k).l : Int)))))]) ⟨rfl, rfl, rfl, rfl, rfl, rfl, rfl, rfl, rfl, rfl, rfl, rfl, rfl, rfl, rfl, rfl, trivial⟩ ?_)
          have hb31 : Below w4.heap.size w4 w28 := (bstep hb22 hq27)
          have ho30 := hBX.below hb31
          refine WE.round (⟨y.k + 1, y.Z, y.Y, y.ws, y.L, y.tm, y.at_, y.dn⟩) ⟨rfl, rfl, rfl, rfl, rfl, rfl, rfl, rfl, rfl, rfl, rfl, trivial⟩ ?_ ?_
          · have hb32 : Below w.heap.size w w28 := (bstep hb6 hb31)
            exact ⟨by (try dsimp only); omega, by (try dsimp only); omega, by (try dsimp only); omega, by (try dsimp only); omega, ho30, hAl, hb32⟩
          · (try dsimp only); omega
        · skip
          refine WC.skip ?_
          refine WE.next ?_
          refine WC.seq ?_
          refine WC.seq ?_
          refine WC.region ?_
          refine WL.val (.pointer (some ⟨g9, 0, none⟩)) rfl rfl rfl (fun za zC zh zk => fld_48_0 rfl (zh.ev rfl) zk) ?_
          have hB33 := hB18.below hq27
          refine WL.val (.int .i64 ((acget l y.k).kind)) rfl rfl rfl (fun za zC zh zk => ld_3 rfl (zh.ev rfl) ((hB33.cell 0).trans rfl) zk) ?_
          refine WL.nil (WE.sub (K' := [(0, .slice qa q.length qc), (1, .slice a l.length c), (5, .pointer (some ⟨r, 0, none⟩)), (6, .int .i64 0), (7, .pointer (some ⟨z, 0, none⟩)), (8, .int .i64 0), (9, .int .i64 (((y.k : Nat) : Int))), (10, .pointer (some ⟨g9, 0, none⟩)), (34, .bool ((false != false))), (36, .bool false), (38, .slice a l.length c), (39, .int .i64 (((l.length : Nat) : Int))), (40, .int .i64 (((y.k : Nat) : Int))), (41, .bool ((decide ((((y.k : Nat) : Int) : Int) < (((l.length : Nat) : Int) : Int))))), (46, .bool ((decide ((80 : Int) ≤ (((y.k : Nat) : Int) : Int))))), (49, .bool ((decide ((40 : Int) < ((acget l y.k).l.length : Int)) || decide ((1000 : Int) < (clSize (acget l y.k).l : Int))))), (51, .int .i64 ((acget l y.k).kind))]) ⟨rfl, rfl, rfl, rfl, rfl, rfl, rfl, rfl, rfl, rfl, rfl, rfl, rfl, rfl, rfl, rfl, rfl, trivial⟩ ?_)
          refine WE.next ?_
          refine WC.block ?_
          refine WC.seq ?_
          refine WC.region ?_
          refine WL.val (.bool ((((acget l y.k).kind : Int) == (0 : Int)))) rfl rfl rfl (fun za zC zh zk => eql_3 rfl (zh.ev rfl) (zh.ev rfl) zk) ?_
          refine WL.val (.bool ((((acget l y.k).kind : Int) == (0 : Int)))) rfl rfl rfl (fun za zC zh zk => wp_assign rfl (zh.ev rfl) zk) ?_
          refine WL.nil (WE.sub (K' := [(0, .slice qa q.length qc), (1, .slice a l.length c), (5, .pointer (some ⟨r, 0, none⟩)), (6, .int .i64 0), (7, .pointer (some ⟨z, 0, none⟩)), (8, .int .i64 0), (9, .int .i64 (((y.k : Nat) : Int))), (10, .pointer (some ⟨g9, 0, none⟩)), (34, .bool ((false != false))), (36, .bool false), (38, .slice a l.length c), (39, .int .i64 (((l.length : Nat) : Int))), (40, .int .i64 (((y.k : Nat) : Int))), (41, .bool ((decide ((((y.k : Nat) : Int) : Int) < (((l.length : Nat) : Int) : Int))))), (46, .bool ((decide ((80 : Int) ≤ (((y.k : Nat) : Int) : Int))))), (49, .bool ((decide ((40 : Int) < ((acget l y.k).l.length : Int)) || decide ((1000 : Int) < (clSize (acget l y.k).l : Int))))), (51, .int .i64 ((acget l y.k).kind)), (70, .bool ((((acget l y.k).kind : Int) == (0 : Int))))]) ⟨rfl, rfl, rfl, rfl, rfl, rfl, rfl, rfl, rfl, rfl, rfl, rfl, rfl, rfl, rfl, rfl, rfl, rfl, trivial⟩ ?_)
          refine WE.next ?_
          refine WC.cond rfl (fun h34 => ?_) (fun h34 => ?_)
          · have h34 : ((acget l y.k).kind : Int) = (0 : Int) := by simpa using h34
            refine WC.seq ?_
            have hb36 : Below w4.heap.size w4 w28 := (bstep hb22 hq27)
            have ho35 := hBX.below hb36
            have hb37 : Below w.heap.size w w28 := (bstep hb6 hb36)
            have hBl := hb37
            have hlb := hB33.lt
            have hok := hBX.room.ok
            have hzh : w4.heap.size ≤ g9 := by omega
            refine WC.seqV (S := ((fun b => y.Z b ∨ y.Y b))) [(true, .val (.pointer (some ⟨r, 0, none⟩))), (true, .val (.pointer (some ⟨g9, 1, none⟩))), (true, .val (.int .i64 ((acget l y.k).id))), (true, .val (.pointer (some ⟨g9, 2, none⟩))), (true, .val (.slice ((A y.k)) ((acget l y.k).l.length) ((C y.k)))), (true, .val (.pointer (some ⟨g9, 3, none⟩))), (true, .val (.bool ((acget l y.k).goal))), (true, .val undef), (true, .val (.pointer (some ⟨z, 0, none⟩))), (true, .val (.pointer (some ⟨g9, 1, none⟩))), (true, .val (.int .i64 ((acget l y.k).id))), (true, .val (.pointer (some ⟨g9, 2, none⟩))), (true, .val (.slice ((A y.k)) ((acget l y.k).l.length) ((C y.k)))), (true, .val (.pointer (some ⟨g9, 3, none⟩))), (true, .val (.bool ((acget l y.k).goal))), (true, .val undef), (true, .val (.bool ((((addE y.ws (acget l y.k).id) : Int) != ((addE y.ws (acget l y.k).id) : Int)))))] [(0, .slice qa q.length qc), (1, .slice a l.length c), (5, .pointer (some ⟨r, 0, none⟩)), (6, .int .i64 0), (7, .pointer (some ⟨z, 0, none⟩)), (8, .int .i64 0), (9, .int .i64 (((y.k : Nat) : Int))), (10, .pointer (some ⟨g9, 0, none⟩)), (34, .bool ((false != false))), (36, .bool false), (38, .slice a l.length c), (39, .int .i64 (((l.length : Nat) : Int))), (40, .int .i64 (((y.k : Nat) : Int))), (41, .bool ((decide ((((y.k : Nat) : Int) : Int) < (((l.length : Nat) : Int) : Int))))), (46, .bool ((decide ((80 : Int) ≤ (((y.k : Nat) : Int) : Int))))), (49, .bool ((decide ((40 : Int) < ((acget l y.k).l.length : Int)) || decide ((1000 : Int) < (clSize (acget l y.k).l : Int))))), (51, .int .i64 ((acget l y.k).kind)), (70, .bool ((((acget l y.k).kind : Int) == (0 : Int))))] [7, 15] [some (true, .int .i64 ((addE y.ws (acget l y.k).id))), some (true, .int .i64 ((addE y.ws (acget l y.k).id)))] (BG (fun w1 => BothX w w1 r z q qa qc y.Z y.Y y.ws y.tm y.at_ y.dn y.L y.at_ y.dn) (fun w1 => ∃ Z', BothX w w1 r z q qa qc Z' y.Y (addW y.ws (acget l y.k).id y.tm (acget l y.k).l (acget l y.k).goal) (addT y.ws (acget l y.k).id y.tm) y.at_ y.dn y.L y.at_ y.dn) (fun w1 => ∃ Z' Y', BothX w w1 r z q qa qc Z' Y' (addW y.ws (acget l y.k).id y.tm (acget l y.k).l (acget l y.k).goal) (addT y.ws (acget l y.k).id y.tm) y.at_ y.dn (addR y.ws y.L (acget l y.k).id (acget l y.k).l (A y.k) (C y.k) (acget l y.k).goal) y.at_ y.dn)) ((BG.below (fun _ _ hb h => h.below hb) (fun _ _ hb ⟨Z, h⟩ => ⟨Z, h.below hb⟩) (fun _ _ hb ⟨Z, Y, h⟩ => ⟨Z, Y, h.below hb⟩))) (by decide) ⟨rfl, rfl, rfl, rfl, rfl, rfl, rfl, rfl, rfl, rfl, rfl, rfl, rfl, rfl, rfl, rfl, rfl, rfl, trivial⟩ (by kernel_rfl) (by kernel_rfl) (by kernel_rfl) (by kernel_rfl) ho35 ?_ ?_
            · refine ⟨.inl ⟨rfl, true, .none rfl, (fun gg b h => by cases h), fun h w => optUndef h, fun zβ za zw zc => ?_⟩, ?_⟩
              · exact wp_move rfl (zc.kn.ev rfl) ⟨_, rfl, Below.refl _ _, optDef zβ rfl⟩
              refine ⟨.inl ⟨rfl, true, .none rfl, (fun gg b h => by cases h), fun h w => optUndef h, fun zβ za zw zc => ?_⟩, ?_⟩
              · exact fld_48_1 rfl (zc.kn.ev rfl) ⟨_, rfl, Below.refl _ _, optDef zβ rfl⟩
              refine ⟨.inl ⟨rfl, true, .none rfl, (fun gg b h => by cases h), fun h w => optUndef h, fun zβ za zw zc => ?_⟩, ?_⟩
              · exact ld_3 rfl ((show za.eval (.tmp 73) = za.tmps.getD 73 undef from rfl).trans (optSVal (zc.dep 1 73 (by kernel_rfl) (by decide)) rfl rfl)) (chg_cell zc.chg (by intro u; rcases u with u | u <;> first | (have z9 := (hBX.z0 _ u).2; omega) | (have z9 := (hBX.y0 _ u).2; omega)) ((hB33.cell 1).trans rfl)) ⟨_, rfl, Below.refl _ _, optDef zβ rfl⟩
              refine ⟨.inl ⟨rfl, true, .none rfl, (fun gg b h => by cases h), fun h w => optUndef h, fun zβ za zw zc => ?_⟩, ?_⟩
              · exact fld_48_2 rfl (zc.kn.ev rfl) ⟨_, rfl, Below.refl _ _, optDef zβ rfl⟩
              refine ⟨.inl ⟨rfl, true, .none rfl, (fun gg b h => by cases h), fun h w => optUndef h, fun zβ za zw zc => ?_⟩, ?_⟩
              · exact ld_24 rfl ((show za.eval (.tmp 75) = za.tmps.getD 75 undef from rfl).trans (optSVal (zc.dep 3 75 (by kernel_rfl) (by decide)) rfl rfl)) (chg_cell zc.chg (by intro u; rcases u with u | u <;> first | (have z9 := (hBX.z0 _ u).2; omega) | (have z9 := (hBX.y0 _ u).2; omega)) ((hB33.cell 2).trans rfl)) ⟨_, rfl, Below.refl _ _, optDef zβ rfl⟩
              refine ⟨.inl ⟨rfl, true, .none rfl, (fun gg b h => by cases h), fun h w => optUndef h, fun zβ za zw zc => ?_⟩, ?_⟩
              · exact fld_48_3 rfl (zc.kn.ev rfl) ⟨_, rfl, Below.refl _ _, optDef zβ rfl⟩
              refine ⟨.inl ⟨rfl, true, .none rfl, (fun gg b h => by cases h), fun h w => optUndef h, fun zβ za zw zc => ?_⟩, ?_⟩
              · exact ld_4 rfl ((show za.eval (.tmp 77) = za.tmps.getD 77 undef from rfl).trans (optSVal (zc.dep 5 77 (by kernel_rfl) (by decide)) rfl rfl)) (chg_cell zc.chg (by intro u; rcases u with u | u <;> first | (have z9 := (hBX.z0 _ u).2; omega) | (have z9 := (hBX.y0 _ u).2; omega)) ((hB33.cell 3).trans rfl)) ⟨_, rfl, Below.refl _ _, optDef zβ rfl⟩
              refine ⟨.inr ⟨0, rfl, by kernel_rfl, true, .none rfl, (fun gg b h => by cases h), (fun h => (nomatch h)), fun zβ za zw zvals zc => ?_⟩, ?_⟩
              · obtain rfl := vlen0 zc.len
                have zn := zc.now
                have zn2 : BothX w zw r z q qa qc y.Z y.Y y.ws y.tm y.at_ y.dn y.L y.at_ y.dn := zn
                exact wp_call (by kernel_rfl) rfl (hv4 ((show za.eval (.tmp 72) = za.tmps.getD 72 undef from rfl).trans (optSVal (zc.dep 0 72 (by kernel_rfl) (by decide)) rfl rfl)) ((show za.eval (.tmp 74) = za.tmps.getD 74 undef from rfl).trans (optSVal (zc.dep 2 74 (by kernel_rfl) (by decide)) rfl rfl)) ((show za.eval (.tmp 76) = za.tmps.getD 76 undef from rfl).trans (optSVal (zc.dep 4 76 (by kernel_rfl) (by decide)) rfl rfl)) ((show za.eval (.tmp 78) = za.tmps.getD 78 undef from rfl).trans (optSVal (zc.dep 6 78 (by kernel_rfl) (by decide)) rfl rfl))) (both_addA zw zn2 (acget l y.k).id (acget l y.k).l (acget l y.k).goal _ _ (chg_below hBl zc.chg (fun b hb => (by intro u; rcases u with u | u <;> first | (have z9 := (hBX.z0 _ u).1; omega) | (have z9 := (hBX.y0 _ u).1; omega)))) (hac y.k (by omega)).2.2.2.2.1 (hac y.k (by omega)).2.2.2.2.2 (by omega)) (fun v w2 h => ⟨v, rfl, h.2.2.mono (fun _ u => .inl u), h.2.1, cvIs h.1⟩)
              refine ⟨.inl ⟨rfl, true, .none rfl, (fun gg b h => by cases h), fun h w => optUndef h, fun zβ za zw zc => ?_⟩, ?_⟩
              · exact wp_move rfl (zc.kn.ev rfl) ⟨_, rfl, Below.refl _ _, optDef zβ rfl⟩
              refine ⟨.inl ⟨rfl, true, .none rfl, (fun gg b h => by cases h), fun h w => optUndef h, fun zβ za zw zc => ?_⟩, ?_⟩
              · exact fld_48_1 rfl (zc.kn.ev rfl) ⟨_, rfl, Below.refl _ _, optDef zβ rfl⟩
              refine ⟨.inl ⟨rfl, true, .none rfl, (fun gg b h => by cases h), fun h w => optUndef h, fun zβ za zw zc => ?_⟩, ?_⟩
              · exact ld_3 rfl ((show za.eval (.tmp 81) = za.tmps.getD 81 undef from rfl).trans (optSVal (zc.dep 9 81 (by kernel_rfl) (by decide)) rfl rfl)) (chg_cell zc.chg (by intro u; rcases u with u | u <;> first | (have z9 := (hBX.z0 _ u).2; omega) | (have z9 := (hBX.y0 _ u).2; omega)) ((hB33.cell 1).trans rfl)) ⟨_, rfl, Below.refl _ _, optDef zβ rfl⟩
              refine ⟨.inl ⟨rfl, true, .none rfl, (fun gg b h => by cases h), fun h w => optUndef h, fun zβ za zw zc => ?_⟩, ?_⟩
              · exact fld_48_2 rfl (zc.kn.ev rfl) ⟨_, rfl, Below.refl _ _, optDef zβ rfl⟩
              refine ⟨.inl ⟨rfl, true, .none rfl, (fun gg b h => by cases h), fun h w => optUndef h, fun zβ za zw zc => ?_⟩, ?_⟩
              · exact ld_24 rfl ((show za.eval (.tmp 83) = za.tmps.getD 83 undef from rfl).trans (optSVal (zc.dep 11 83 (by kernel_rfl) (by decide)) rfl rfl)) (chg_cell zc.chg (by intro u; rcases u with u | u <;> first | (have z9 := (hBX.z0 _ u).2; omega) | (have z9 := (hBX.y0 _ u).2; omega)) ((hB33.cell 2).trans rfl)) ⟨_, rfl, Below.refl _ _, optDef zβ rfl⟩
              refine ⟨.inl ⟨rfl, true, .none rfl, (fun gg b h => by cases h), fun h w => optUndef h, fun zβ za zw zc => ?_⟩, ?_⟩
              · exact fld_48_3 rfl (zc.kn.ev rfl) ⟨_, rfl, Below.refl _ _, optDef zβ rfl⟩
              refine ⟨.inl ⟨rfl, true, .none rfl, (fun gg b h => by cases h), fun h w => optUndef h, fun zβ za zw zc => ?_⟩, ?_⟩
              · exact ld_4 rfl ((show za.eval (.tmp 85) = za.tmps.getD 85 undef from rfl).trans (optSVal (zc.dep 13 85 (by kernel_rfl) (by decide)) rfl rfl)) (chg_cell zc.chg (by intro u; rcases u with u | u <;> first | (have z9 := (hBX.z0 _ u).2; omega) | (have z9 := (hBX.y0 _ u).2; omega)) ((hB33.cell 3).trans rfl)) ⟨_, rfl, Below.refl _ _, optDef zβ rfl⟩
              refine ⟨.inr ⟨1, rfl, by kernel_rfl, true, .none rfl, (fun gg b h => by cases h), (fun h => (nomatch h)), fun zβ za zw zvals zc => ?_⟩, ?_⟩
              · obtain ⟨z0, rfl⟩ := vlen1 zc.len
                have zn := zc.now
                obtain ⟨Z2, zn2⟩ : ∃ Z', BothX w zw r z q qa qc Z' y.Y (addW y.ws (acget l y.k).id y.tm (acget l y.k).l (acget l y.k).goal) (addT y.ws (acget l y.k).id y.tm) y.at_ y.dn y.L y.at_ y.dn := zn
                exact wp_call (by kernel_rfl) rfl (hv4 ((show za.eval (.tmp 80) = za.tmps.getD 80 undef from rfl).trans (optSVal (zc.dep 8 80 (by kernel_rfl) (by decide)) rfl rfl)) ((show za.eval (.tmp 82) = za.tmps.getD 82 undef from rfl).trans (optSVal (zc.dep 10 82 (by kernel_rfl) (by decide)) rfl rfl)) ((show za.eval (.tmp 84) = za.tmps.getD 84 undef from rfl).trans (optSVal (zc.dep 12 84 (by kernel_rfl) (by decide)) rfl rfl)) ((show za.eval (.tmp 86) = za.tmps.getD 86 undef from rfl).trans (optSVal (zc.dep 14 86 (by kernel_rfl) (by decide)) rfl rfl))) (both_addB zw zn2 hAl hok (acget l y.k).id (acget l y.k).l (acget l y.k).goal _ _ (hac y.k (by omega)).2.2.2.2.1 (hac y.k (by omega)).2.2.2.2.2 (by omega)) (fun v w2 h => ⟨v, rfl, h.2.2.mono (fun _ u => .inr u), ⟨Z2, h.2.1⟩, cvIs h.1⟩)
              refine ⟨.inl ⟨rfl, true, .none rfl, (fun gg b h => by cases h), fun h w => optUndef h, fun zβ za zw zc => ?_⟩, ?_⟩
              · exact neq_34 rfl ((show za.eval (.tmp 79) = za.tmps.getD 79 undef from rfl).trans (zc.link 0 7 79 _ _ rfl (by kernel_rfl) rfl rfl)) ((show za.eval (.tmp 87) = za.tmps.getD 87 undef from rfl).trans (zc.link 1 15 87 _ _ rfl (by kernel_rfl) rfl rfl)) ⟨_, rfl, Below.refl _ _, optDef zβ rfl⟩
              exact trivial
            · intro za w38 zvals zh zl hG39 hc40 zu zw zk
              obtain ⟨z0, z1, rfl⟩ := vlen2 zl
              have zh := zh.cons (d := 88) (v := .bool ((((addE y.ws (acget l y.k).id) : Int) != ((addE y.ws (acget l y.k).id) : Int)))) (optSVal (zu 16 88 (by kernel_rfl) (by decide)) rfl rfl)
              have hb41 := chg_below hb37 hc40 (fun b hb => (by intro u; rcases u with u | u <;> first | (have z9 := (hBX.z0 _ u).1; omega) | (have z9 := (hBX.y0 _ u).1; omega)))
              obtain ⟨Z43, Y44, hBX42⟩ := hG39
              clear zu zw zk
              refine (show WE _ [(0, .slice qa q.length qc), (1, .slice a l.length c), (5, .pointer (some ⟨r, 0, none⟩)), (6, .int .i64 0), (7, .pointer (some ⟨z, 0, none⟩)), (8, .int .i64 0), (9, .int .i64 (((y.k : Nat) : Int))), (10, .pointer (some ⟨g9, 0, none⟩)), (34, .bool ((false != false))), (36, .bool false), (38, .slice a l.length c), (39, .int .i64 (((l.length : Nat) : Int))), (40, .int .i64 (((y.k : Nat) : Int))), (41, .bool ((decide ((((y.k : Nat) : Int) : Int) < (((l.length : Nat) : Int) : Int))))), (46, .bool ((decide ((80 : Int) ≤ (((y.k : Nat) : Int) : Int))))), (49, .bool ((decide ((40 : Int) < ((acget l y.k).l.length : Int)) || decide ((1000 : Int) < (clSize (acget l y.k).l : Int))))), (51, .int .i64 ((acget l y.k).kind)), (70, .bool ((((acget l y.k).kind : Int) == (0 : Int)))), (88, .bool ((((addE y.ws (acget l y.k).id) : Int) != ((addE y.ws (acget l y.k).id) : Int))))] w38 _ .normal from ?_) za (zh.sub ⟨rfl, rfl, rfl, rfl, rfl, rfl, rfl, rfl, rfl, rfl, rfl, rfl, rfl, rfl, rfl, rfl, rfl, rfl, rfl, trivial⟩)
              refine WE.next ?_
              refine WC.condF rfl (by simp) ?_
              refine WC.skip ?_
              refine WE.blockNormal ?_
              refine WE.next ?_
              refine WC.seq ?_
              have hBX45 := hBX42.below (Below.refl _ _)
              obtain ⟨la46, lc47, hB48, _⟩ := hBX45.ref.ex
              refine WC.opt [(true, .val (.pointer (some ⟨r, 0, none⟩))), (true, .val (.int .i64 ((((addW y.ws (acget l y.k).id y.tm (acget l y.k).l (acget l y.k).goal).length : Nat) : Int)))), (true, .val (.pointer (some ⟨z, 0, none⟩))), (true, .val (.pointer (some ⟨z, 0, none⟩))), (true, .val (.pointer (some ⟨z, 1, none⟩))), (true, .val (.slice la46 ((addR y.ws y.L (acget l y.k).id (acget l y.k).l (A y.k) (C y.k) (acget l y.k).goal).length) lc47)), (true, .val (.int .i64 ((((addR y.ws y.L (acget l y.k).id (acget l y.k).l (A y.k) (C y.k) (acget l y.k).goal).length : Nat) : Int)))), (true, .val (.bool ((((((addW y.ws (acget l y.k).id y.tm (acget l y.k).l (acget l y.k).goal).length : Nat) : Int) : Int) != ((((addR y.ws y.L (acget l y.k).id (acget l y.k).l (A y.k) (C y.k) (acget l y.k).goal).length : Nat) : Int) : Int)))))] [(0, .slice qa q.length qc), (1, .slice a l.length c), (5, .pointer (some ⟨r, 0, none⟩)), (6, .int .i64 0), (7, .pointer (some ⟨z, 0, none⟩)), (8, .int .i64 0), (9, .int .i64 (((y.k : Nat) : Int))), (10, .pointer (some ⟨g9, 0, none⟩)), (34, .bool ((false != false))), (36, .bool false), (38, .slice a l.length c), (39, .int .i64 (((l.length : Nat) : Int))), (40, .int .i64 (((y.k : Nat) : Int))), (41, .bool ((decide ((((y.k : Nat) : Int) : Int) < (((l.length : Nat) : Int) : Int))))), (46, .bool ((decide ((80 : Int) ≤ (((y.k : Nat) : Int) : Int))))), (49, .bool ((decide ((40 : Int) < ((acget l y.k).l.length : Int)) || decide ((1000 : Int) < (clSize (acget l y.k).l : Int))))), (51, .int .i64 ((acget l y.k).kind)), (70, .bool ((((acget l y.k).kind : Int) == (0 : Int)))), (88, .bool ((((addE y.ws (acget l y.k).id) : Int) != ((addE y.ws (acget l y.k).id) : Int))))] ⟨rfl, rfl, rfl, rfl, rfl, rfl, rfl, rfl, rfl, rfl, rfl, rfl, rfl, rfl, rfl, rfl, rfl, rfl, rfl, trivial⟩ (by kernel_rfl) (by kernel_rfl) (by kernel_rfl) ?_ ?_
              · refine ⟨⟨true, .none rfl, fun h w => optUndef h, fun zβ za zw zc => ?_⟩, ?_⟩
                · exact wp_move rfl (zc.kn.ev rfl) ⟨_, rfl, Below.refl _ _, optDef zβ rfl⟩
                refine ⟨⟨true, .none rfl, fun h w => optUndef h, fun zβ za zw zc => ?_⟩, ?_⟩
                · exact wp_call (by kernel_rfl) rfl (hv1 ((show za.eval (.tmp 100) = za.tmps.getD 100 undef from rfl).trans (optVal (zc.dep 0 100 (by kernel_rfl)) rfl rfl))) (len_any r _ q (addW y.ws (acget l y.k).id y.tm (acget l y.k).l (acget l y.k).goal) _ _ _ _ (BothX.room hBX45 |>.below zc.below)) (fun v w' h => ⟨v, rfl, h.2, optDef zβ h.1⟩)
                refine ⟨⟨true, .none rfl, fun h w => optUndef h, fun zβ za zw zc => ?_⟩, ?_⟩
                · exact wp_move rfl (zc.kn.ev rfl) ⟨_, rfl, Below.refl _ _, optDef zβ rfl⟩
                refine ⟨⟨true, .none rfl, fun h w => optUndef h, fun zβ za zw zc => ?_⟩, ?_⟩
                · exact nilCheck_ rfl ((show za.eval (.tmp 102) = za.tmps.getD 102 undef from rfl).trans (optVal (zc.dep 2 102 (by kernel_rfl)) rfl rfl)) ⟨_, rfl, Below.refl _ _, optDef zβ rfl⟩
                refine ⟨⟨true, .none rfl, fun h w => optUndef h, fun zβ za zw zc => ?_⟩, ?_⟩
                · exact fld_53_1 rfl ((show za.eval (.tmp 103) = za.tmps.getD 103 undef from rfl).trans (optVal (zc.dep 3 103 (by kernel_rfl)) rfl rfl)) ⟨_, rfl, Below.refl _ _, optDef zβ rfl⟩
                refine ⟨⟨true, .none rfl, fun h w => optUndef h, fun zβ za zw zc => ?_⟩, ?_⟩
                · exact ld_51 rfl ((show za.eval (.tmp 104) = za.tmps.getD 104 undef from rfl).trans (optVal (zc.dep 4 104 (by kernel_rfl)) rfl rfl)) (bkeeps zc.below _ _ ((hB48.cell 1).trans rfl)) ⟨_, rfl, Below.refl _ _, optDef zβ rfl⟩
                refine ⟨⟨true, .none rfl, fun h w => optUndef h, fun zβ za zw zc => ?_⟩, ?_⟩
                · exact len_51 rfl ((show za.eval (.tmp 105) = za.tmps.getD 105 undef from rfl).trans (optVal (zc.dep 5 105 (by kernel_rfl)) rfl rfl)) ⟨_, rfl, Below.refl _ _, optDef zβ rfl⟩
                refine ⟨⟨true, .none rfl, fun h w => optUndef h, fun zβ za zw zc => ?_⟩, ?_⟩
                · exact neq_3 rfl ((show za.eval (.tmp 101) = za.tmps.getD 101 undef from rfl).trans (optVal (zc.dep 1 101 (by kernel_rfl)) rfl rfl)) ((show za.eval (.tmp 106) = za.tmps.getD 106 undef from rfl).trans (optVal (zc.dep 6 106 (by kernel_rfl)) rfl rfl)) ⟨_, rfl, Below.refl _ _, optDef zβ rfl⟩
                exact trivial
              · intro za w49 zh hb50 zu
                have zh := zh.cons (d := 107) (v := .bool ((((((addW y.ws (acget l y.k).id y.tm (acget l y.k).l (acget l y.k).goal).length : Nat) : Int) : Int) != ((((addR y.ws y.L (acget l y.k).id (acget l y.k).l (A y.k) (C y.k) (acget l y.k).goal).length : Nat) : Int) : Int)))) (optVal (zu 7 107 (by kernel_rfl)) rfl rfl)
                clear zu
                refine (show WE _ [(0, .slice qa q.length qc), (1, .slice a l.length c), (5, .pointer (some ⟨r, 0, none⟩)), (6, .int .i64 0), (7, .pointer (some ⟨z, 0, none⟩)), (8, .int .i64 0), (9, .int .i64 (((y.k : Nat) : Int))), (10, .pointer (some ⟨g9, 0, none⟩)), (34, .bool ((false != false))), (36, .bool false), (38, .slice a l.length c), (39, .int .i64 (((l.length : Nat) : Int))), (40, .int .i64 (((y.k : Nat) : Int))), (41, .bool ((decide ((((y.k : Nat) : Int) : Int) < (((l.length : Nat) : Int) : Int))))), (46, .bool ((decide ((80 : Int) ≤ (((y.k : Nat) : Int) : Int))))), (49, .bool ((decide ((40 : Int) < ((acget l y.k).l.length : Int)) || decide ((1000 : Int) < (clSize (acget l y.k).l : Int))))), (51, .int .i64 ((acget l y.k).kind)), (70, .bool ((((acget l y.k).kind : Int) == (0 : Int)))), (88, .bool ((((addE y.ws (acget l y.k).id) : Int) != ((addE y.ws (acget l y.k).id) : Int)))), (107, .bool ((((((addW y.ws (acget l y.k).id y.tm (acget l y.k).l (acget l y.k).goal).length : Nat) : Int) : Int) != ((((addR y.ws y.L (acget l y.k).id (acget l y.k).l (A y.k) (C y.k) (acget l y.k).goal).length : Nat) : Int) : Int))))] w49 _ .normal from ?_) za (zh.sub ⟨rfl, rfl, rfl, rfl, rfl, rfl, rfl, rfl, rfl, rfl, rfl, rfl, rfl, rfl, rfl, rfl, rfl, rfl, rfl, rfl, trivial⟩)
                refine WE.next ?_
                refine WC.condF rfl (by have z9 : (addR y.ws y.L (acget l y.k).id (acget l y.k).l (A y.k) (C y.k) (acget l y.k).goal).length = (addW y.ws (acget l y.k).id y.tm (acget l y.k).l (acget l y.k).goal).length := Alike.len (hAl.added _ _ _ _ _ _); rw [z9]; simp) ?_
                refine WC.skip ?_
                refine WE.blockNormal ?_
                refine WE.next ?_
                refine WC.region ?_
                refine WL.val (.int .i64 ((((y.k + 1) : Nat) : Int))) rfl rfl rfl (fun za zC zh zk => addb_3 rfl (zh.ev rfl) (zh.ev rfl) (wrap_eq (by omega) (by omega) (by omega)) zk) ?_
                refine WL.val (.int .i64 ((((y.k + 1) : Nat) : Int))) rfl rfl rfl (fun za zC zh zk => wp_move rfl (zh.ev rfl) zk) ?_
                refine WL.nil (WE.sub (K' := [(0, .slice qa q.length qc), (1, .slice a l.length c), (5, .pointer (some ⟨r, 0, none⟩)), (6, .int .i64 0), (7, .pointer (some ⟨z, 0, none⟩)), (8, .int .i64 0), (9, .int .i64 (((y.k : Nat) : Int))), (10, .pointer (some ⟨g9, 0, none⟩)), (34, .bool ((false != false))), (36, .bool false), (38, .slice a l.length c), (39, .int .i64 (((l.length : Nat) : Int))), (40, .int .i64 ((((y.k + 1) : Nat) : Int))), (41, .bool ((decide ((((y.k : Nat) : Int) : Int) < (((l.length : Nat) : Int) : Int))))), (46, .bool ((decide ((80 : Int) ≤ (((y.k : Nat) : Int) : Int))))), (49, .bool ((decide ((40 : Int) < ((acget l y.k).l.length : Int)) || decide ((1000 : Int) < (clSize (acget l y.k).l : Int))))), (51, .int .i64 ((acget l y.k).kind)), (70, .bool ((((acget l y.k).kind : Int) == (0 : Int)))), (88, .bool ((((addE y.ws (acget l y.k).id) : Int) != ((addE y.ws (acget l y.k).id) : Int)))), (107, .bool ((((((addW y.ws (acget l y.k).id y.tm (acget l y.k).l (acget l y.k).goal).length : Nat) : Int) : Int) != ((((addR y.ws y.L (acget l y.k).id (acget l y.k).l (A y.k) (C y.k) (acget l y.k).goal).length : Nat) : Int) : Int))))]) ⟨rfl, rfl, rfl, rfl, rfl, rfl, rfl, rfl, rfl, rfl, rfl, rfl, rfl, rfl, rfl, rfl, rfl, rfl, rfl, rfl, trivial⟩ ?_)
                refine WE.round (⟨y.k + 1, Z43, Y44, addW y.ws (acget l y.k).id y.tm (acget l y.k).l (acget l y.k).goal, addR y.ws y.L (acget l y.k).id (acget l y.k).l (A y.k) (C y.k) (acget l y.k).goal, addT y.ws (acget l y.k).id y.tm, y.at_, y.dn⟩) ⟨rfl, rfl, rfl, rfl, rfl, rfl, rfl, rfl, rfl, rfl, rfl, trivial⟩ ?_ ?_
                · have hb51 : Below w.heap.size w w49 := (bstep hb41 hb50)
                  exact ⟨by (try dsimp only); omega, by (try dsimp only); have z9 := addT_le y.ws (acget l y.k).id y.tm; omega, by (try dsimp only); omega, by (try dsimp only); have z9 := addR_le y.ws y.L (acget l y.k).id (acget l y.k).l (A y.k) (C y.k) (acget l y.k).goal; omega, hBX45.below hb50, hAl.added _ _ _ _ _ _, hb51⟩
                · (try dsimp only); omega
          · have h34 : ¬ (((acget l y.k).kind : Int) = (0 : Int)) := by simpa using h34
            refine WC.seq ?_
            refine WC.region ?_
            refine WL.val (.bool ((((acget l y.k).kind : Int) == (1 : Int)))) rfl rfl rfl (fun za zC zh zk => eql_3 rfl (zh.ev rfl) (zh.ev rfl) zk) ?_
            refine WL.val (.bool ((((acget l y.k).kind : Int) == (1 : Int)))) rfl rfl rfl (fun za zC zh zk => wp_assign rfl (zh.ev rfl) zk) ?_
            refine WL.nil (WE.sub (K' := [(0, .slice qa q.length qc), (1, .slice a l.length c), (5, .pointer (some ⟨r, 0, none⟩)), (6, .int .i64 0), (7, .pointer (some ⟨z, 0, none⟩)), (8, .int .i64 0), (9, .int .i64 (((y.k : Nat) : Int))), (10, .pointer (some ⟨g9, 0, none⟩)), (34, .bool ((false != false))), (36, .bool false), (38, .slice a l.length c), (39, .int .i64 (((l.length : Nat) : Int))), (40, .int .i64 (((y.k : Nat) : Int))), (41, .bool ((decide ((((y.k : Nat) : Int) : Int) < (((l.length : Nat) : Int) : Int))))), (46, .bool ((decide ((80 : Int) ≤ (((y.k : Nat) : Int) : Int))))), (49, .bool ((decide ((40 : Int) < ((acget l y.k).l.length : Int)) || decide ((1000 : Int) < (clSize (acget l y.k).l : Int))))), (51, .int .i64 ((acget l y.k).kind)), (70, .bool ((((acget l y.k).kind : Int) == (0 : Int)))), (89, .bool ((((acget l y.k).kind : Int) == (1 : Int))))]) ⟨rfl, rfl, rfl, rfl, rfl, rfl, rfl, rfl, rfl, rfl, rfl, rfl, rfl, rfl, rfl, rfl, rfl, rfl, rfl, trivial⟩ ?_)
            refine WE.next ?_
            refine WC.cond rfl (fun h52 => ?_) (fun h52 => ?_)
            · have h52 : ((acget l y.k).kind : Int) = (1 : Int) := by simpa using h52
              refine WC.seq ?_
              have hb54 : Below w4.heap.size w4 w28 := (bstep hb22 hq27)
              have ho53 := hBX.below hb54
              have hb55 : Below w.heap.size w w28 := (bstep hb6 hb54)
              have hBl := hb55
              have hlb := hB33.lt
              have hok := hBX.room.ok
              have hzh : w4.heap.size ≤ g9 := by omega
              refine WC.seqV (S := ((fun b => y.Z b ∨ y.Y b))) [(true, .val (.pointer (some ⟨r, 0, none⟩))), (true, .val (.pointer (some ⟨g9, 1, none⟩))), (true, .val (.int .i64 ((acget l y.k).id))), (true, .val undef), (true, .val (.pointer (some ⟨z, 0, none⟩))), (true, .val (.pointer (some ⟨g9, 1, none⟩))), (true, .val (.int .i64 ((acget l y.k).id))), (true, .val undef), (true, .val (.bool (((decide (tmOf y.ws (acget l y.k).id ≠ 0)) != (decide (tmOf y.ws (acget l y.k).id ≠ 0))))))] [(0, .slice qa q.length qc), (1, .slice a l.length c), (5, .pointer (some ⟨r, 0, none⟩)), (6, .int .i64 0), (7, .pointer (some ⟨z, 0, none⟩)), (8, .int .i64 0), (9, .int .i64 (((y.k : Nat) : Int))), (10, .pointer (some ⟨g9, 0, none⟩)), (34, .bool ((false != false))), (36, .bool false), (38, .slice a l.length c), (39, .int .i64 (((l.length : Nat) : Int))), (40, .int .i64 (((y.k : Nat) : Int))), (41, .bool ((decide ((((y.k : Nat) : Int) : Int) < (((l.length : Nat) : Int) : Int))))), (46, .bool ((decide ((80 : Int) ≤ (((y.k : Nat) : Int) : Int))))), (49, .bool ((decide ((40 : Int) < ((acget l y.k).l.length : Int)) || decide ((1000 : Int) < (clSize (acget l y.k).l : Int))))), (51, .int .i64 ((acget l y.k).kind)), (70, .bool ((((acget l y.k).kind : Int) == (0 : Int)))), (89, .bool ((((acget l y.k).kind : Int) == (1 : Int))))] [3, 7] [some (true, .bool ((decide (tmOf y.ws (acget l y.k).id ≠ 0)))), some (true, .bool ((decide (tmOf y.ws (acget l y.k).id ≠ 0))))] (BG (fun w1 => BothX w w1 r z q qa qc y.Z y.Y y.ws y.tm y.at_ y.dn y.L y.at_ y.dn) (fun w1 => ∃ Z', BothX w w1 r z q qa qc Z' y.Y (dropW y.ws (acget l y.k).id) y.tm y.at_ y.dn y.L y.at_ y.dn) (fun w1 => ∃ Z' Y', BothX w w1 r z q qa qc Z' Y' (dropW y.ws (acget l y.k).id) y.tm y.at_ y.dn (dropR y.L (acget l y.k).id) y.at_ y.dn)) ((BG.below (fun _ _ hb h => h.below hb) (fun _ _ hb ⟨Z, h⟩ => ⟨Z, h.below hb⟩) (fun _ _ hb ⟨Z, Y, h⟩ => ⟨Z, Y, h.below hb⟩))) (by decide) ⟨rfl, rfl, rfl, rfl, rfl, rfl, rfl, rfl, rfl, rfl, rfl, rfl, rfl, rfl, rfl, rfl, rfl, rfl, rfl, trivial⟩ (by kernel_rfl) (by kernel_rfl) (by kernel_rfl) (by kernel_rfl) ho53 ?_ ?_
              · refine ⟨.inl ⟨rfl, true, .none rfl, (fun gg b h => by cases h), fun h w => optUndef h, fun zβ za zw zc => ?_⟩, ?_⟩
                · exact wp_move rfl (zc.kn.ev rfl) ⟨_, rfl, Below.refl _ _, optDef zβ rfl⟩
                refine ⟨.inl ⟨rfl, true, .none rfl, (fun gg b h => by cases h), fun h w => optUndef h, fun zβ za zw zc => ?_⟩, ?_⟩
                · exact fld_48_1 rfl (zc.kn.ev rfl) ⟨_, rfl, Below.refl _ _, optDef zβ rfl⟩
                refine ⟨.inl ⟨rfl, true, .none rfl, (fun gg b h => by cases h), fun h w => optUndef h, fun zβ za zw zc => ?_⟩, ?_⟩
                · exact ld_3 rfl ((show za.eval (.tmp 92) = za.tmps.getD 92 undef from rfl).trans (optSVal (zc.dep 1 92 (by kernel_rfl) (by decide)) rfl rfl)) (chg_cell zc.chg (by intro u; rcases u with u | u <;> first | (have z9 := (hBX.z0 _ u).2; omega) | (have z9 := (hBX.y0 _ u).2; omega)) ((hB33.cell 1).trans rfl)) ⟨_, rfl, Below.refl _ _, optDef zβ rfl⟩
                refine ⟨.inr ⟨0, rfl, by kernel_rfl, true, .none rfl, (fun gg b h => by cases h), (fun h => (nomatch h)), fun zβ za zw zvals zc => ?_⟩, ?_⟩
                · obtain rfl := vlen0 zc.len
                  have zn := zc.now
                  have zn2 : BothX w zw r z q qa qc y.Z y.Y y.ws y.tm y.at_ y.dn y.L y.at_ y.dn := zn
                  exact wp_call (by kernel_rfl) rfl (hv2 ((show za.eval (.tmp 91) = za.tmps.getD 91 undef from rfl).trans (optSVal (zc.dep 0 91 (by kernel_rfl) (by decide)) rfl rfl)) ((show za.eval (.tmp 93) = za.tmps.getD 93 undef from rfl).trans (optSVal (zc.dep 2 93 (by kernel_rfl) (by decide)) rfl rfl))) (both_dropA zw zn2 (acget l y.k).id) (fun v w2 h => ⟨v, rfl, h.2.2.mono (fun _ u => .inl u), h.2.1, cvIs h.1⟩)
                refine ⟨.inl ⟨rfl, true, .none rfl, (fun gg b h => by cases h), fun h w => optUndef h, fun zβ za zw zc => ?_⟩, ?_⟩
                · exact wp_move rfl (zc.kn.ev rfl) ⟨_, rfl, Below.refl _ _, optDef zβ rfl⟩
                refine ⟨.inl ⟨rfl, true, .none rfl, (fun gg b h => by cases h), fun h w => optUndef h, fun zβ za zw zc => ?_⟩, ?_⟩
                · exact fld_48_1 rfl (zc.kn.ev rfl) ⟨_, rfl, Below.refl _ _, optDef zβ rfl⟩
                refine ⟨.inl ⟨rfl, true, .none rfl, (fun gg b h => by cases h), fun h w => optUndef h, fun zβ za zw zc => ?_⟩, ?_⟩
                · exact ld_3 rfl ((show za.eval (.tmp 96) = za.tmps.getD 96 undef from rfl).trans (optSVal (zc.dep 5 96 (by kernel_rfl) (by decide)) rfl rfl)) (chg_cell zc.chg (by intro u; rcases u with u | u <;> first | (have z9 := (hBX.z0 _ u).2; omega) | (have z9 := (hBX.y0 _ u).2; omega)) ((hB33.cell 1).trans rfl)) ⟨_, rfl, Below.refl _ _, optDef zβ rfl⟩
                refine ⟨.inr ⟨1, rfl, by kernel_rfl, true, .none rfl, (fun gg b h => by cases h), (fun h => (nomatch h)), fun zβ za zw zvals zc => ?_⟩, ?_⟩
                · obtain ⟨z0, rfl⟩ := vlen1 zc.len
                  have zn := zc.now
                  obtain ⟨Z2, zn2⟩ : ∃ Z', BothX w zw r z q qa qc Z' y.Y (dropW y.ws (acget l y.k).id) y.tm y.at_ y.dn y.L y.at_ y.dn := zn
                  exact wp_call (by kernel_rfl) rfl (hv2 ((show za.eval (.tmp 95) = za.tmps.getD 95 undef from rfl).trans (optSVal (zc.dep 4 95 (by kernel_rfl) (by decide)) rfl rfl)) ((show za.eval (.tmp 97) = za.tmps.getD 97 undef from rfl).trans (optSVal (zc.dep 6 97 (by kernel_rfl) (by decide)) rfl rfl))) (both_dropB zw zn2 hAl hok (acget l y.k).id (by omega)) (fun v w2 h => ⟨v, rfl, h.2.2.mono (fun _ u => .inr u), ⟨Z2, h.2.1⟩, cvIs h.1⟩)
                refine ⟨.inl ⟨rfl, true, .none rfl, (fun gg b h => by cases h), fun h w => optUndef h, fun zβ za zw zc => ?_⟩, ?_⟩
                · exact neq_4 rfl ((show za.eval (.tmp 94) = za.tmps.getD 94 undef from rfl).trans (zc.link 0 3 94 _ _ rfl (by kernel_rfl) rfl rfl)) ((show za.eval (.tmp 98) = za.tmps.getD 98 undef from rfl).trans (zc.link 1 7 98 _ _ rfl (by kernel_rfl) rfl rfl)) ⟨_, rfl, Below.refl _ _, optDef zβ rfl⟩
                exact trivial
              · intro za w56 zvals zh zl hG57 hc58 zu zw zk
                obtain ⟨z0, z1, rfl⟩ := vlen2 zl
                have zh := zh.cons (d := 99) (v := .bool (((decide (tmOf y.ws (acget l y.k).id ≠ 0)) != (decide (tmOf y.ws (acget l y.k).id ≠ 0))))) (optSVal (zu 8 99 (by kernel_rfl) (by decide)) rfl rfl)
                have hb59 := chg_below hb55 hc58 (fun b hb => (by intro u; rcases u with u | u <;> first | (have z9 := (hBX.z0 _ u).1; omega) | (have z9 := (hBX.y0 _ u).1; omega)))
                obtain ⟨Z61, Y62, hBX60⟩ := hG57
                clear zu zw zk
                refine (show WE _ [(0, .slice qa q.length qc), (1, .slice a l.length c), (5, .pointer (some ⟨r, 0, none⟩)), (6, .int .i64 0), (7, .pointer (some ⟨z, 0, none⟩)), (8, .int .i64 0), (9, .int .i64 (((y.k : Nat) : Int))), (10, .pointer (some ⟨g9, 0, none⟩)), (34, .bool ((false != false))), (36, .bool false), (38, .slice a l.length c), (39, .int .i64 (((l.length : Nat) : Int))), (40, .int .i64 (((y.k : Nat) : Int))), (41, .bool ((decide ((((y.k : Nat) : Int) : Int) < (((l.length : Nat) : Int) : Int))))), (46, .bool ((decide ((80 : Int) ≤ (((y.k : Nat) : Int) : Int))))), (49, .bool ((decide ((40 : Int) < ((acget l y.k).l.length : Int)) || decide ((1000 : Int) < (clSize (acget l y.k).l : Int))))), (51, .int .i64 ((acget l y.k).kind)), (70, .bool ((((acget l y.k).kind : Int) == (0 : Int)))), (89, .bool ((((acget l y.k).kind : Int) == (1 : Int)))), (99, .bool (((decide (tmOf y.ws (acget l y.k).id ≠ 0)) != (decide (tmOf y.ws (acget l y.k).id ≠ 0)))))] w56 _ .normal from ?_) za (zh.sub ⟨rfl, rfl, rfl, rfl, rfl, rfl, rfl, rfl, rfl, rfl, rfl, rfl, rfl, rfl, rfl, rfl, rfl, rfl, rfl, rfl, trivial⟩)
                refine WE.next ?_
                refine WC.condF rfl (by simp) ?_
                refine WC.skip ?_
                refine WE.blockNormal ?_
                refine WE.next ?_
                refine WC.seq ?_
                have hBX63 := hBX60.below (Below.refl _ _)
                obtain ⟨la64, lc65, hB66, _⟩ := hBX63.ref.ex
                refine WC.opt [(true, .val (.pointer (some ⟨r, 0, none⟩))), (true, .val (.int .i64 ((((dropW y.ws (acget l y.k).id).length : Nat) : Int)))), (true, .val (.pointer (some ⟨z, 0, none⟩))), (true, .val (.pointer (some ⟨z, 0, none⟩))), (true, .val (.pointer (some ⟨z, 1, none⟩))), (true, .val (.slice la64 ((dropR y.L (acget l y.k).id).length) lc65)), (true, .val (.int .i64 ((((dropR y.L (acget l y.k).id).length : Nat) : Int)))), (true, .val (.bool ((((((dropW y.ws (acget l y.k).id).length : Nat) : Int) : Int) != ((((dropR y.L (acget l y.k).id).length : Nat) : Int) : Int)))))] [(0, .slice qa q.length qc), (1, .slice a l.length c), (5, .pointer (some ⟨r, 0, none⟩)), (6, .int .i64 0), (7, .pointer (some ⟨z, 0, none⟩)), (8, .int .i64 0), (9, .int .i64 (((y.k : Nat) : Int))), (10, .pointer (some ⟨g9, 0, none⟩)), (34, .bool ((false != false))), (36, .bool false), (38, .slice a l.length c), (39, .int .i64 (((l.length : Nat) : Int))), (40, .int .i64 (((y.k : Nat) : Int))), (41, .bool ((decide ((((y.k : Nat) : Int) : Int) < (((l.length : Nat) : Int) : Int))))), (46, .bool ((decide ((80 : Int) ≤ (((y.k : Nat) : Int) : Int))))), (49, .bool ((decide ((40 : Int) < ((acget l y.k).l.length : Int)) || decide ((1000 : Int) < (clSize (acget l y.k).l : Int))))), (51, .int .i64 ((acget l y.k).kind)), (70, .bool ((((acget l y.k).kind : Int) == (0 : Int)))), (89, .bool ((((acget l y.k).kind : Int) == (1 : Int)))), (99, .bool (((decide (tmOf y.ws (acget l y.k).id ≠ 0)) != (decide (tmOf y.ws (acget l y.k).id ≠ 0)))))] ⟨rfl, rfl, rfl, rfl, rfl, rfl, rfl, rfl, rfl, rfl, rfl, rfl, rfl, rfl, rfl, rfl, rfl, rfl, rfl, rfl, trivial⟩ (by kernel_rfl) (by kernel_rfl) (by kernel_rfl) ?_ ?_
                · refine ⟨⟨true, .none rfl, fun h w => optUndef h, fun zβ za zw zc => ?_⟩, ?_⟩
                  · exact wp_move rfl (zc.kn.ev rfl) ⟨_, rfl, Below.refl _ _, optDef zβ rfl⟩
                  refine ⟨⟨true, .none rfl, fun h w => optUndef h, fun zβ za zw zc => ?_⟩, ?_⟩
                  · exact wp_call (by kernel_rfl) rfl (hv1 ((show za.eval (.tmp 100) = za.tmps.getD 100 undef from rfl).trans (optVal (zc.dep 0 100 (by kernel_rfl)) rfl rfl))) (len_any r _ q (dropW y.ws (acget l y.k).id) _ _ _ _ (BothX.room hBX63 |>.below zc.below)) (fun v w' h => ⟨v, rfl, h.2, optDef zβ h.1⟩)
                  refine ⟨⟨true, .none rfl, fun h w => optUndef h, fun zβ za zw zc => ?_⟩, ?_⟩
                  · exact wp_move rfl (zc.kn.ev rfl) ⟨_, rfl, Below.refl _ _, optDef zβ rfl⟩
                  refine ⟨⟨true, .none rfl, fun h w => optUndef h, fun zβ za zw zc => ?_⟩, ?_⟩
                  · exact nilCheck_ rfl ((show za.eval (.tmp 102) = za.tmps.getD 102 undef from rfl).trans (optVal (zc.dep 2 102 (by kernel_rfl)) rfl rfl)) ⟨_, rfl, Below.refl _ _, optDef zβ rfl⟩
                  refine ⟨⟨true, .none rfl, fun h w => optUndef h, fun zβ za zw zc => ?_⟩, ?_⟩
                  · exact fld_53_1 rfl ((show za.eval (.tmp 103) = za.tmps.getD 103 undef from rfl).trans (optVal (zc.dep 3 103 (by kernel_rfl)) rfl rfl)) ⟨_, rfl, Below.refl _ _, optDef zβ rfl⟩
                  refine ⟨⟨true, .none rfl, fun h w => optUndef h, fun zβ za zw zc => ?_⟩, ?_⟩
                  · exact ld_51 rfl ((show za.eval (.tmp 104) = za.tmps.getD 104 undef from rfl).trans (optVal (zc.dep 4 104 (by kernel_rfl)) rfl rfl)) (bkeeps zc.below _ _ ((hB66.cell 1).trans rfl)) ⟨_, rfl, Below.refl _ _, optDef zβ rfl⟩
                  refine ⟨⟨true, .none rfl, fun h w => optUndef h, fun zβ za zw zc => ?_⟩, ?_⟩
                  · exact len_51 rfl ((show za.eval (.tmp 105) = za.tmps.getD 105 undef from rfl).trans (optVal (zc.dep 5 105 (by kernel_rfl)) rfl rfl)) ⟨_, rfl, Below.refl _ _, optDef zβ rfl⟩
                  refine ⟨⟨true, .none rfl, fun h w => optUndef h, fun zβ za zw zc => ?_⟩, ?_⟩
                  · exact neq_3 rfl ((show za.eval (.tmp 101) = za.tmps.getD 101 undef from rfl).trans (optVal (zc.dep 1 101 (by kernel_rfl)) rfl rfl)) ((show za.eval (.tmp 106) = za.tmps.getD 106 undef from rfl).trans (optVal (zc.dep 6 106 (by kernel_rfl)) rfl rfl)) ⟨_, rfl, Below.refl _ _, optDef zβ rfl⟩
                  exact trivial
                · intro za w67 zh hb68 zu
                  have zh := zh.cons (d := 107) (v := .bool ((((((dropW y.ws (acget l y.k).id).length : Nat) : Int) : Int) != ((((dropR y.L (acget l y.k).id).length : Nat) : Int) : Int)))) (optVal (zu 7 107 (by kernel_rfl)) rfl rfl)
                  clear zu
                  refine (show WE _ [(0, .slice qa q.length qc), (1, .slice a l.length c), (5, .pointer (some ⟨r, 0, none⟩)), (6, .int .i64 0), (7, .pointer (some ⟨z, 0, none⟩)), (8, .int .i64 0), (9, .int .i64 (((y.k : Nat) : Int))), (10, .pointer (some ⟨g9, 0, none⟩)), (34, .bool ((false != false))), (36, .bool false), (38, .slice a l.length c), (39, .int .i64 (((l.length : Nat) : Int))), (40, .int .i64 (((y.k : Nat) : Int))), (41, .bool ((decide ((((y.k : Nat) : Int) : Int) < (((l.length : Nat) : Int) : Int))))), (46, .bool ((decide ((80 : Int) ≤ (((y.k : Nat) : Int) : Int))))), (49, .bool ((decide ((40 : Int) < ((acget l y.k).l.length : Int)) || decide ((1000 : Int) < (clSize (acget l y.k).l : Int))))), (51, .int .i64 ((acget l y.k).kind)), (70, .bool ((((acget l y.k).kind : Int) == (0 : Int)))), (89, .bool ((((acget l y.k).kind : Int) == (1 : Int)))), (99, .bool (((decide (tmOf y.ws (acget l y.k).id ≠ 0)) != (decide (tmOf y.ws (acget l y.k).id ≠ 0))))), (107, .bool ((((((dropW y.ws (acget l y.k).id).length : Nat) : Int) : Int) != ((((dropR y.L (acget l y.k).id).length : Nat) : Int) : Int))))] w67 _ .normal from ?_) za (zh.sub ⟨rfl, rfl, rfl, rfl, rfl, rfl, rfl, rfl, rfl, rfl, rfl, rfl, rfl, rfl, rfl, rfl, rfl, rfl, rfl, rfl, rfl, trivial⟩)
                  refine WE.next ?_
                  refine WC.condF rfl (by have z9 : (dropR y.L (acget l y.k).id).length = (dropW y.ws (acget l y.k).id).length := Alike.len (hAl.drop); rw [z9]; simp) ?_
                  refine WC.skip ?_
                  refine WE.blockNormal ?_
                  refine WE.next ?_
                  refine WC.region ?_
                  refine WL.val (.int .i64 ((((y.k + 1) : Nat) : Int))) rfl rfl rfl (fun za zC zh zk => addb_3 rfl (zh.ev rfl) (zh.ev rfl) (wrap_eq (by omega) (by omega) (by omega)) zk) ?_
                  refine WL.val (.int .i64 ((((y.k + 1) : Nat) : Int))) rfl rfl rfl (fun za zC zh zk => wp_move rfl (zh.ev rfl) zk) ?_
                  refine WL.nil (WE.sub (K' := [(0, .slice qa q.length qc), (1, .slice a l.length c), (5, .pointer (some ⟨r, 0, none⟩)), (6, .int .i64 0), (7, .pointer (some ⟨z, 0, none⟩)), (8, .int .i64 0), (9, .int .i64 (((y.k : Nat) : Int))), (10, .pointer (some ⟨g9, 0, none⟩)), (34, .bool ((false != false))), (36, .bool false), (38, .slice a l.length c), (39, .int .i64 (((l.length : Nat) : Int))), (40, .int .i64 ((((y.k + 1) : Nat) : Int))), (41, .bool ((decide ((((y.k : Nat) : Int) : Int) < (((l.length : Nat) : Int) : Int))))), (46, .bool ((decide ((80 : Int) ≤ (((y.k : Nat) : Int) : Int))))), (49, .bool ((decide ((40 : Int) < ((acget l y.k).l.length : Int)) || decide ((1000 : Int) < (clSize (acget l y.k).l : Int))))), (51, .int .i64 ((acget l y.k).kind)), (70, .bool ((((acget l y.k).kind : Int) == (0 : Int)))), (89, .bool ((((acget l y.k).kind : Int) == (1 : Int)))), (99, .bool (((decide (tmOf y.ws (acget l y.k).id ≠ 0)) != (decide (tmOf y.ws (acget l y.k).id ≠ 0))))), (107, .bool ((((((dropW y.ws (acget l y.k).id).length : Nat) : Int) : Int) != ((((dropR y.L (acget l y.k).id).length : Nat) : Int) : Int))))]) ⟨rfl, rfl, rfl, rfl, rfl, rfl, rfl, rfl, rfl, rfl, rfl, rfl, rfl, rfl, rfl, rfl, rfl, rfl, rfl, rfl, rfl, trivial⟩ ?_)
                  refine WE.round (⟨y.k + 1, Z61, Y62, dropW y.ws (acget l y.k).id, dropR y.L (acget l y.k).id, y.tm, y.at_, y.dn⟩) ⟨rfl, rfl, rfl, rfl, rfl, rfl, rfl, rfl, rfl, rfl, rfl, trivial⟩ ?_ ?_
                  · have hb69 : Below w.heap.size w w67 := (bstep hb59 hb68)
                    exact ⟨by (try dsimp only); omega, by (try dsimp only); have z9 := htm; omega, by (try dsimp only); omega, by (try dsimp only); have z9 := dropR_le y.L (acget l y.k).id; omega, hBX63.below hb68, hAl.drop, hb69⟩
                  · (try dsimp only); omega
            · have h52 : ¬ (((acget l y.k).kind : Int) = (1 : Int)) := by simpa using h52
              refine WC.seq ?_
              refine WC.region ?_
              refine WL.val (.pointer (some ⟨r, 0, none⟩)) rfl rfl rfl (fun za zC zh zk => wp_move rfl (zh.ev rfl) zk) ?_
              have hb71 : Below w4.heap.size w4 w28 := (bstep hb22 hq27)
              have ho70 := hBX.below hb71
              have hok := hBX.room.ok
              refine WL.call rfl rfl rfl (fun za zh zC => wp_call (by kernel_rfl) rfl (hv1 (zh.ev rfl))) (both_nextA _ ho70 (by omega)) ?_
              rintro _ w72 ⟨id, ok, rfl, hN, ⟨Z2, hBX1⟩, hcA⟩
              have hb73 : Below w.heap.size w w28 := (bstep hb6 hb71)
              have hb74 := chg_below hb73 hcA (fun b hb => (by intro u; have z9 := (hBX.z0 _ u).1; omega))
              refine WL.val (.tuple #[.int .i64 id, .bool ok]) rfl rfl rfl (fun za zC zh zk => wp_move rfl (zh.ev rfl) zk) ?_
              refine WL.val (.int .i64 id) rfl rfl rfl (fun za zC zh zk => ext2_0 rfl (zh.ev rfl) zk) ?_
              refine WL.val (.bool ok) rfl rfl rfl (fun za zC zh zk => ext2_1 rfl (zh.ev rfl) zk) ?_
              refine WL.val (.int .i64 id) rfl rfl rfl (fun za zC zh zk => wp_assign rfl (zh.ev rfl) zk) ?_
              refine WL.val (.bool ok) rfl rfl rfl (fun za zC zh zk => wp_assign rfl (zh.ev rfl) zk) ?_
              refine WL.nil (WE.sub (K' := [(0, .slice qa q.length qc), (1, .slice a l.length c), (5, .pointer (some ⟨r, 0, none⟩)), (6, .int .i64 0), (7, .pointer (some ⟨z, 0, none⟩)), (8, .int .i64 0), (9, .int .i64 (((y.k : Nat) : Int))), (10, .pointer (some ⟨g9, 0, none⟩)), (11, .int .i64 id), (12, .bool ok), (34, .bool ((false != false))), (36, .bool false), (38, .slice a l.length c), (39, .int .i64 (((l.length : Nat) : Int))), (40, .int .i64 (((y.k : Nat) : Int))), (41, .bool ((decide ((((y.k : Nat) : Int) : Int) < (((l.length : Nat) : Int) : Int))))), (46, .bool ((decide ((80 : Int) ≤ (((y.k : Nat) : Int) : Int))))), (49, .bool ((decide ((40 : Int) < ((acget l y.k).l.length : Int)) || decide ((1000 : Int) < (clSize (acget l y.k).l : Int))))), (51, .int .i64 ((acget l y.k).kind)), (70, .bool ((((acget l y.k).kind : Int) == (0 : Int)))), (89, .bool ((((acget l y.k).kind : Int) == (1 : Int))))]) ⟨rfl, rfl, rfl, rfl, rfl, rfl, rfl, rfl, rfl, rfl, rfl, rfl, rfl, rfl, rfl, rfl, rfl, rfl, rfl, rfl, rfl, trivial⟩ ?_)
              refine WE.next ?_
              refine WC.seq ?_
              refine WC.region ?_
              refine WL.val (.pointer (some ⟨z, 0, none⟩)) rfl rfl rfl (fun za zC zh zk => wp_move rfl (zh.ev rfl) zk) ?_
              refine WL.call rfl rfl rfl (fun za zh zC => wp_call (by kernel_rfl) rfl (hv1 (zh.ev rfl))) (both_nextB _ (hBX1.below (Below.refl _ _)) hAl hb74 hq hBX.room.at_lt hBX.room.dn_lt (by omega) hN) ?_
              rintro _ w75 ⟨rfl, ⟨Y2, hBX2⟩, hcB⟩
              have hb76 := chg_below hb74 hcB (fun b hb => (by intro u; have z9 := (hBX.y0 _ u).1; omega))
              have hLn : (if ok = true then dropR y.L id else y.L).length ≤ y.L.length := by
                split
                · exact dropR_le _ _
                · exact Nat.le_refl _
              refine WL.val (.tuple #[.int .i64 id, .bool ok]) rfl rfl rfl (fun za zC zh zk => wp_move rfl (zh.ev rfl) zk) ?_
              refine WL.val (.int .i64 id) rfl rfl rfl (fun za zC zh zk => ext2_0 rfl (zh.ev rfl) zk) ?_
              refine WL.val (.bool ok) rfl rfl rfl (fun za zC zh zk => ext2_1 rfl (zh.ev rfl) zk) ?_
              refine WL.val (.int .i64 id) rfl rfl rfl (fun za zC zh zk => wp_assign rfl (zh.ev rfl) zk) ?_
              refine WL.val (.bool ok) rfl rfl rfl (fun za zC zh zk => wp_assign rfl (zh.ev rfl) zk) ?_
              refine WL.nil (WE.sub (K' := [(0, .slice qa q.length qc), (1, .slice a l.length c), (5, .pointer (some ⟨r, 0, none⟩)), (6, .int .i64 0), (7, .pointer (some ⟨z, 0, none⟩)), (8, .int .i64 0), (9, .int .i64 (((y.k : Nat) : Int))), (10, .pointer (some ⟨g9, 0, none⟩)), (11, .int .i64 id), (12, .bool ok), (13, .int .i64 id), (14, .bool ok), (34, .bool ((false != false))), (36, .bool false), (38, .slice a l.length c), (39, .int .i64 (((l.length : Nat) : Int))), (40, .int .i64 (((y.k : Nat) : Int))), (41, .bool ((decide ((((y.k : Nat) : Int) : Int) < (((l.length : Nat) : Int) : Int))))), (46, .bool ((decide ((80 : Int) ≤ (((y.k : Nat) : Int) : Int))))), (49, .bool ((decide ((40 : Int) < ((acget l y.k).l.length : Int)) || decide ((1000 : Int) < (clSize (acget l y.k).l : Int))))), (51, .int .i64 ((acget l y.k).kind)), (70, .bool ((((acget l y.k).kind : Int) == (0 : Int)))), (89, .bool ((((acget l y.k).kind : Int) == (1 : Int))))]) ⟨rfl, rfl, rfl, rfl, rfl, rfl, rfl, rfl, rfl, rfl, rfl, rfl, rfl, rfl, rfl, rfl, rfl, rfl, rfl, rfl, rfl, rfl, rfl, trivial⟩ ?_)
              refine WE.next ?_
              refine WC.seq ?_
              refine WC.opt [(true, .val (.int .i64 id)), (true, .val (.int .i64 id)), (true, .val (.bool (((id : Int) != (id : Int))))), (true, .val (.bool (((id : Int) != (id : Int))))), ((true && !((id : Int) != (id : Int))), .val (.bool ok)), ((true && !((id : Int) != (id : Int))), .val (.bool ok)), ((true && !((id : Int) != (id : Int))), .val (.bool ((ok != ok)))), (true, .val (.bool ((((id : Int) != (id : Int)) || (ok != ok)))))] [(0, .slice qa q.length qc), (1, .slice a l.length c), (5, .pointer (some ⟨r, 0, none⟩)), (6, .int .i64 0), (7, .pointer (some ⟨z, 0, none⟩)), (8, .int .i64 0), (9, .int .i64 (((y.k : Nat) : Int))), (10, .pointer (some ⟨g9, 0, none⟩)), (11, .int .i64 id), (12, .bool ok), (13, .int .i64 id), (14, .bool ok), (34, .bool ((false != false))), (36, .bool false), (38, .slice a l.length c), (39, .int .i64 (((l.length : Nat) : Int))), (40, .int .i64 (((y.k : Nat) : Int))), (41, .bool ((decide ((((y.k : Nat) : Int) : Int) < (((l.length : Nat) : Int) : Int))))), (46, .bool ((decide ((80 : Int) ≤ (((y.k : Nat) : Int) : Int))))), (49, .bool ((decide ((40 : Int) < ((acget l y.k).l.length : Int)) || decide ((1000 : Int) < (clSize (acget l y.k).l : Int))))), (51, .int .i64 ((acget l y.k).kind)), (70, .bool ((((acget l y.k).kind : Int) == (0 : Int)))), (89, .bool ((((acget l y.k).kind : Int) == (1 : Int))))] ⟨rfl, rfl, rfl, rfl, rfl, rfl, rfl, rfl, rfl, rfl, rfl, rfl, rfl, rfl, rfl, rfl, rfl, rfl, rfl, rfl, rfl, rfl, rfl, trivial⟩ (by kernel_rfl) (by kernel_rfl) (by kernel_rfl) ?_ ?_
              · refine ⟨⟨true, .none rfl, fun h w => optUndef h, fun zβ za zw zc => ?_⟩, ?_⟩
                · exact wp_move rfl (zc.kn.ev rfl) ⟨_, rfl, Below.refl _ _, optDef zβ rfl⟩
                refine ⟨⟨true, .none rfl, fun h w => optUndef h, fun zβ za zw zc => ?_⟩, ?_⟩
                · exact wp_move rfl (zc.kn.ev rfl) ⟨_, rfl, Below.refl _ _, optDef zβ rfl⟩
                refine ⟨⟨true, .none rfl, fun h w => optUndef h, fun zβ za zw zc => ?_⟩, ?_⟩
                · exact neq_3 rfl ((show za.eval (.tmp 62) = za.tmps.getD 62 undef from rfl).trans (optVal (zc.dep 0 62 (by kernel_rfl)) rfl rfl)) ((show za.eval (.tmp 63) = za.tmps.getD 63 undef from rfl).trans (optVal (zc.dep 1 63 (by kernel_rfl)) rfl rfl)) ⟨_, rfl, Below.refl _ _, optDef zβ rfl⟩
                refine ⟨⟨true, .none rfl, fun h w => optUndef h, fun zβ za zw zc => ?_⟩, ?_⟩
                · exact wp_move rfl ((show za.eval (.tmp 64) = za.tmps.getD 64 undef from rfl).trans (optVal (zc.dep 2 64 (by kernel_rfl)) rfl rfl)) ⟨_, rfl, Below.refl _ _, optDef zβ rfl⟩
                refine ⟨⟨(true && !((id : Int) != (id : Int))), .no (c := ((id : Int) != (id : Int))) (d := true) rfl (fun v w h => h), fun h w => optUndef h, fun zβ za zw zc => ?_⟩, ?_⟩
                · exact wp_move rfl (zc.kn.ev rfl) ⟨_, rfl, Below.refl _ _, optDef zβ rfl⟩
                refine ⟨⟨(true && !((id : Int) != (id : Int))), .no (c := ((id : Int) != (id : Int))) (d := true) rfl (fun v w h => h), fun h w => optUndef h, fun zβ za zw zc => ?_⟩, ?_⟩
                · exact wp_move rfl (zc.kn.ev rfl) ⟨_, rfl, Below.refl _ _, optDef zβ rfl⟩
                refine ⟨⟨(true && !((id : Int) != (id : Int))), .no (c := ((id : Int) != (id : Int))) (d := true) rfl (fun v w h => h), fun h w => optUndef h, fun zβ za zw zc => ?_⟩, ?_⟩
                · exact neq_4 rfl ((show za.eval (.tmp 66) = za.tmps.getD 66 undef from rfl).trans (optVal (zc.dep 4 66 (by kernel_rfl)) rfl zβ)) ((show za.eval (.tmp 67) = za.tmps.getD 67 undef from rfl).trans (optVal (zc.dep 5 67 (by kernel_rfl)) rfl zβ)) ⟨_, rfl, Below.refl _ _, optDef zβ rfl⟩
                refine ⟨⟨true, .none rfl, fun h w => optUndef h, fun zβ za zw zc => ?_⟩, ?_⟩
                · exact wp_or rfl ((show za.eval (.tmp 65) = za.tmps.getD 65 undef from rfl).trans (optVal (zc.dep 3 65 (by kernel_rfl)) rfl rfl)) (fun hp => ((show za.eval (.tmp 68) = za.tmps.getD 68 undef from rfl).trans (optVal (zc.dep 6 68 (by kernel_rfl)) rfl (bMkN zβ hp)))) ⟨_, rfl, Below.refl _ _, optDef zβ rfl⟩
                exact trivial
              · intro za w77 zh hb78 zu
                have zh := zh.cons (d := 69) (v := .bool ((((id : Int) != (id : Int)) || (ok != ok)))) (optVal (zu 7 69 (by kernel_rfl)) rfl rfl)
                clear zu
                refine (show WE _ [(0, .slice qa q.length qc), (1, .slice a l.length c), (5, .pointer (some ⟨r, 0, none⟩)), (6, .int .i64 0), (7, .pointer (some ⟨z, 0, none⟩)), (8, .int .i64 0), (9, .int .i64 (((y.k : Nat) : Int))), (10, .pointer (some ⟨g9, 0, none⟩)), (11, .int .i64 id), (12, .bool ok), (13, .int .i64 id), (14, .bool ok), (34, .bool ((false != false))), (36, .bool false), (38, .slice a l.length c), (39, .int .i64 (((l.length : Nat) : Int))), (40, .int .i64 (((y.k : Nat) : Int))), (41, .bool ((decide ((((y.k : Nat) : Int) : Int) < (((l.length : Nat) : Int) : Int))))), (46, .bool ((decide ((80 : Int) ≤ (((y.k : Nat) : Int) : Int))))), (49, .bool ((decide ((40 : Int) < ((acget l y.k).l.length : Int)) || decide ((1000 : Int) < (clSize (acget l y.k).l : Int))))), (51, .int .i64 ((acget l y.k).kind)), (69, .bool ((((id : Int) != (id : Int)) || (ok != ok)))), (70, .bool ((((acget l y.k).kind : Int) == (0 : Int)))), (89, .bool ((((acget l y.k).kind : Int) == (1 : Int))))] w77 _ .normal from ?_) za (zh.sub ⟨rfl, rfl, rfl, rfl, rfl, rfl, rfl, rfl, rfl, rfl, rfl, rfl, rfl, rfl, rfl, rfl, rfl, rfl, rfl, rfl, rfl, rfl, rfl, rfl, trivial⟩)
                refine WE.next ?_
                refine WC.condF rfl (by simp) ?_
                refine WC.skip ?_
                refine WE.blockNormal ?_
                refine WE.next ?_
                refine WC.seq ?_
                have hBX79 := hBX2.below hb78
                obtain ⟨la80, lc81, hB82, _⟩ := hBX79.ref.ex
                refine WC.opt [(true, .val (.pointer (some ⟨r, 0, none⟩))), (true, .val (.int .i64 (((((if ok = true then dropW y.ws id else y.ws)).length : Nat) : Int)))), (true, .val (.pointer (some ⟨z, 0, none⟩))), (true, .val (.pointer (some ⟨z, 0, none⟩))), (true, .val (.pointer (some ⟨z, 1, none⟩))), (true, .val (.slice la80 (((if ok = true then dropR y.L id else y.L)).length) lc81)), (true, .val (.int .i64 (((((if ok = true then dropR y.L id else y.L)).length : Nat) : Int)))), (true, .val (.bool (((((((if ok = true then dropW y.ws id else y.ws)).length : Nat) : Int) : Int) != (((((if ok = true then dropR y.L id else y.L)).length : Nat) : Int) : Int)))))] [(0, .slice qa q.length qc), (1, .slice a l.length c), (5, .pointer (some ⟨r, 0, none⟩)), (6, .int .i64 0), (7, .pointer (some ⟨z, 0, none⟩)), (8, .int .i64 0), (9, .int .i64 (((y.k : Nat) : Int))), (10, .pointer (some ⟨g9, 0, none⟩)), (11, .int .i64 id), (12, .bool ok), (13, .int .i64 id), (14, .bool ok), (34, .bool ((false != false))), (36, .bool false), (38, .slice a l.length c), (39, .int .i64 (((l.length : Nat) : Int))), (40, .int .i64 (((y.k : Nat) : Int))), (41, .bool ((decide ((((y.k : Nat) : Int) : Int) < (((l.length : Nat) : Int) : Int))))), (46, .bool ((decide ((80 : Int) ≤ (((y.k : Nat) : Int) : Int))))), (49, .bool ((decide ((40 : Int) < ((acget l y.k).l.length : Int)) || decide ((1000 : Int) < (clSize (acget l y.k).l : Int))))), (51, .int .i64 ((acget l y.k).kind)), (69, .bool ((((id : Int) != (id : Int)) || (ok != ok)))), (70, .bool ((((acget l y.k).kind : Int) == (0 : Int)))), (89, .bool ((((acget l y.k).kind : Int) == (1 : Int))))] ⟨rfl, rfl, rfl, rfl, rfl, rfl, rfl, rfl, rfl, rfl, rfl, rfl, rfl, rfl, rfl, rfl, rfl, rfl, rfl, rfl, rfl, rfl, rfl, rfl, trivial⟩ (by kernel_rfl) (by kernel_rfl) (by kernel_rfl) ?_ ?_
                · refine ⟨⟨true, .none rfl, fun h w => optUndef h, fun zβ za zw zc => ?_⟩, ?_⟩
                  · exact wp_move rfl (zc.kn.ev rfl) ⟨_, rfl, Below.refl _ _, optDef zβ rfl⟩
                  refine ⟨⟨true, .none rfl, fun h w => optUndef h, fun zβ za zw zc => ?_⟩, ?_⟩
                  · exact wp_call (by kernel_rfl) rfl (hv1 ((show za.eval (.tmp 100) = za.tmps.getD 100 undef from rfl).trans (optVal (zc.dep 0 100 (by kernel_rfl)) rfl rfl))) (len_any r _ q ((if ok = true then dropW y.ws id else y.ws)) _ _ _ _ (BothX.room hBX79 |>.below zc.below)) (fun v w' h => ⟨v, rfl, h.2, optDef zβ h.1⟩)
                  refine ⟨⟨true, .none rfl, fun h w => optUndef h, fun zβ za zw zc => ?_⟩, ?_⟩
                  · exact wp_move rfl (zc.kn.ev rfl) ⟨_, rfl, Below.refl _ _, optDef zβ rfl⟩
                  refine ⟨⟨true, .none rfl, fun h w => optUndef h, fun zβ za zw zc => ?_⟩, ?_⟩
                  · exact nilCheck_ rfl ((show za.eval (.tmp 102) = za.tmps.getD 102 undef from rfl).trans (optVal (zc.dep 2 102 (by kernel_rfl)) rfl rfl)) ⟨_, rfl, Below.refl _ _, optDef zβ rfl⟩
                  refine ⟨⟨true, .none rfl, fun h w => optUndef h, fun zβ za zw zc => ?_⟩, ?_⟩
                  · exact fld_53_1 rfl ((show za.eval (.tmp 103) = za.tmps.getD 103 undef from rfl).trans (optVal (zc.dep 3 103 (by kernel_rfl)) rfl rfl)) ⟨_, rfl, Below.refl _ _, optDef zβ rfl⟩
                  refine ⟨⟨true, .none rfl, fun h w => optUndef h, fun zβ za zw zc => ?_⟩, ?_⟩
                  · exact ld_51 rfl ((show za.eval (.tmp 104) = za.tmps.getD 104 undef from rfl).trans (optVal (zc.dep 4 104 (by kernel_rfl)) rfl rfl)) (bkeeps zc.below _ _ ((hB82.cell 1).trans rfl)) ⟨_, rfl, Below.refl _ _, optDef zβ rfl⟩
                  refine ⟨⟨true, .none rfl, fun h w => optUndef h, fun zβ za zw zc => ?_⟩, ?_⟩
                  · exact len_51 rfl ((show za.eval (.tmp 105) = za.tmps.getD 105 undef from rfl).trans (optVal (zc.dep 5 105 (by kernel_rfl)) rfl rfl)) ⟨_, rfl, Below.refl _ _, optDef zβ rfl⟩
                  refine ⟨⟨true, .none rfl, fun h w => optUndef h, fun zβ za zw zc => ?_⟩, ?_⟩
                  · exact neq_3 rfl ((show za.eval (.tmp 101) = za.tmps.getD 101 undef from rfl).trans (optVal (zc.dep 1 101 (by kernel_rfl)) rfl rfl)) ((show za.eval (.tmp 106) = za.tmps.getD 106 undef from rfl).trans (optVal (zc.dep 6 106 (by kernel_rfl)) rfl rfl)) ⟨_, rfl, Below.refl _ _, optDef zβ rfl⟩
                  exact trivial
                · intro za w83 zh hb84 zu
                  have zh := zh.cons (d := 107) (v := .bool (((((((if ok = true then dropW y.ws id else y.ws)).length : Nat) : Int) : Int) != (((((if ok = true then dropR y.L id else y.L)).length : Nat) : Int) : Int)))) (optVal (zu 7 107 (by kernel_rfl)) rfl rfl)
                  clear zu
                  refine (show WE _ [(0, .slice qa q.length qc), (1, .slice a l.length c), (5, .pointer (some ⟨r, 0, none⟩)), (6, .int .i64 0), (7, .pointer (some ⟨z, 0, none⟩)), (8, .int .i64 0), (9, .int .i64 (((y.k : Nat) : Int))), (10, .pointer (some ⟨g9, 0, none⟩)), (11, .int .i64 id), (12, .bool ok), (13, .int .i64 id), (14, .bool ok), (34, .bool ((false != false))), (36, .bool false), (38, .slice a l.length c), (39, .int .i64 (((l.length : Nat) : Int))), (40, .int .i64 (((y.k : Nat) : Int))), (41, .bool ((decide ((((y.k : Nat) : Int) : Int) < (((l.length : Nat) : Int) : Int))))), (46, .bool ((decide ((80 : Int) ≤ (((y.k : Nat) : Int) : Int))))), (49, .bool ((decide ((40 : Int) < ((acget l y.k).l.length : Int)) || decide ((1000 : Int) < (clSize (acget l y.k).l : Int))))), (51, .int .i64 ((acget l y.k).kind)), (69, .bool ((((id : Int) != (id : Int)) || (ok != ok)))), (70, .bool ((((acget l y.k).kind : Int) == (0 : Int)))), (89, .bool ((((acget l y.k).kind : Int) == (1 : Int)))), (107, .bool (((((((if ok = true then dropW y.ws id else y.ws)).length : Nat) : Int) : Int) != (((((if ok = true then dropR y.L id else y.L)).length : Nat) : Int) : Int))))] w83 _ .normal from ?_) za (zh.sub ⟨rfl, rfl, rfl, rfl, rfl, rfl, rfl, rfl, rfl, rfl, rfl, rfl, rfl, rfl, rfl, rfl, rfl, rfl, rfl, rfl, rfl, rfl, rfl, rfl, rfl, trivial⟩)
                  refine WE.next ?_
                  refine WC.condF rfl (by have z9 : ((if ok = true then dropR y.L id else y.L)).length = ((if ok = true then dropW y.ws id else y.ws)).length := Alike.len (hAl.nexted id ok); rw [z9]; simp) ?_
                  refine WC.skip ?_
                  refine WE.blockNormal ?_
                  refine WE.next ?_
                  refine WC.region ?_
                  refine WL.val (.int .i64 ((((y.k + 1) : Nat) : Int))) rfl rfl rfl (fun za zC zh zk => addb_3 rfl (zh.ev rfl) (zh.ev rfl) (wrap_eq (by omega) (by omega) (by omega)) zk) ?_
                  refine WL.val (.int .i64 ((((y.k + 1) : Nat) : Int))) rfl rfl rfl (fun za zC zh zk => wp_move rfl (zh.ev rfl) zk) ?_
                  refine WL.nil (WE.sub (K' := [(0, .slice qa q.length qc), (1, .slice a l.length c), (5, .pointer (some ⟨r, 0, none⟩)), (6, .int .i64 0), (7, .pointer (some ⟨z, 0, none⟩)), (8, .int .i64 0), (9, .int .i64 (((y.k : Nat) : Int))), (10, .pointer (some ⟨g9, 0, none⟩)), (11, .int .i64 id), (12, .bool ok), (13, .int .i64 id), (14, .bool ok), (34, .bool ((false != false))), (36, .bool false), (38, .slice a l.length c), (39, .int .i64 (((l.length : Nat) : Int))), (40, .int .i64 ((((y.k + 1) : Nat) : Int))), (41, .bool ((decide ((((y.k : Nat) : Int) : Int) < (((l.length : Nat) : Int) : Int))))), (46, .bool ((decide ((80 : Int) ≤ (((y.k : Nat) : Int) : Int))))), (49, .bool ((decide ((40 : Int) < ((acget l y.k).l.length : Int)) || decide ((1000 : Int) < (clSize (acget l y.k).l : Int))))), (51, .int .i64 ((acget l y.k).kind)), (69, .bool ((((id : Int) != (id : Int)) || (ok != ok)))), (70, .bool ((((acget l y.k).kind : Int) == (0 : Int)))), (89, .bool ((((acget l y.k).kind : Int) == (1 : Int)))), (107, .bool (((((((if ok = true then dropW y.ws id else y.ws)).length : Nat) : Int) : Int) != (((((if ok = true then dropR y.L id else y.L)).length : Nat) : Int) : Int))))]) ⟨rfl, rfl, rfl, rfl, rfl, rfl, rfl, rfl, rfl, rfl, rfl, rfl, rfl, rfl, rfl, rfl, rfl, rfl, rfl, rfl, rfl, rfl, rfl, rfl, rfl, trivial⟩ ?_)
                  refine WE.round (⟨y.k + 1, Z2, Y2, (if ok = true then dropW y.ws id else y.ws), (if ok = true then dropR y.L id else y.L), y.tm, (if ok = true then (tick q y.at_ y.dn).1 else y.at_), (if ok = true then (tick q y.at_ y.dn).2 else y.dn)⟩) ⟨rfl, rfl, rfl, rfl, rfl, rfl, rfl, rfl, rfl, rfl, rfl, trivial⟩ ?_ ?_
                  · have hb85 : Below w.heap.size w w83 := (bstep (bstep hb76 hb78) hb84)
                    exact ⟨by (try dsimp only); omega, by (try dsimp only); have z9 := htm; omega, by (try dsimp only); omega, by (try dsimp only); have z9 := hLn; omega, hBX79.below hb84, hAl.nexted id ok, hb85⟩
                  · (try dsimp only); omega
    · have h7 : ¬ ((((y.k : Nat) : Int) : Int) < (((l.length : Nat) : Int) : Int)) := by simpa using h7
      refine WC.exit ?_
      refine WE.thenExit ?_
      refine WE.thenExit ?_
      refine WE.blockIs rfl ?_
      refine WE.next ?_
      refine WC.seq ?_
      refine WC.region ?_
      refine WL.call rfl rfl rfl (fun za zh zC => wp_call (by kernel_rfl) rfl (hv0)) (wakes_any _) ?_
      rintro _ w87 ⟨rfl, hq86⟩
      refine WL.val (.bool true) rfl rfl rfl (fun za zC zh zk => wp_assign rfl (zh.ev rfl) zk) ?_
      refine WL.nil (WE.sub (K' := [(0, .slice qa q.length qc), (1, .slice a l.length c), (4, .bool true), (5, .pointer (some ⟨r, 0, none⟩)), (6, .int .i64 0), (7, .pointer (some ⟨z, 0, none⟩)), (8, .int .i64 0), (34, .bool ((false != false))), (36, .bool false), (38, .slice a l.length c), (39, .int .i64 (((l.length : Nat) : Int))), (40, .int .i64 (((y.k : Nat) : Int))), (41, .bool ((decide ((((y.k : Nat) : Int) : Int) < (((l.length : Nat) : Int) : Int)))))]) ⟨rfl, rfl, rfl, rfl, rfl, rfl, rfl, rfl, rfl, rfl, rfl, rfl, rfl, trivial⟩ ?_)
      refine WE.next ?_
      refine WC.ret ?_
      refine WE.ret1 rfl rfl ?_
      have hb88 : Below w.heap.size w w87 := (bstep hb6 hq86)
      exact ⟨_, rfl, rfl, hb88⟩

theorem room_any (q : List Qu) (w : World) (qa : Option Addr) (qc : Nat) (hq : IsQs w q qa) (hqc : q.length ≤ qc) (hqz : q.length ≤ 1048576) (l : List Ac) (a : Option Addr) (c : Nat) (hl : IsAcs w l a) (hlz : l.length ≤ 1048576) : Calls Try.prog 5 #[.slice qa q.length qc, .slice a l.length c] w (Ret fun v' w' => v' = .bool true ∧ Below w.heap.size w w') := by
  cases hqs : qsOk q with
  | false => exact room_bad q w qa qc hq hqc hqz l.length a c hqs
  | true => exact room_good q w qa qc hq hqc hqz l a c hl hlz hqs
end Go.Proofs.Ytjhkoiggeepajaa
