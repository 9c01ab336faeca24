/- A room: how many wait; one is dropped. -/
import Derived.Test.YtjhkoiggeepajaaHPush
import Derived.Test.YtjhkoiggeepajaaRoomM
namespace Go.Proofs.Ytjhkoiggeepajaa
open Go.RowKit Go
set_option linter.unusedVariables false
set_option linter.unusedSimpArgs false

theorem zero3 (w : World) : (zeroValue 3).run Try.prog w = .ok (.int .i64 0) w := by go_simp
set_option maxRecDepth 100000 in
theorem len_nil (w : World) : Calls Try.prog 19 #[.pointer none] w (Ret fun v' w' => v' = .int .i64 0 ∧ Below w.heap.size w w') := by
  refine Calls.walk (l := [.pointer none]) Try.func19 rfl (by kernel_rfl) ?_
  refine WC.sub (K' := [(0, .pointer none)]) ⟨rfl, trivial⟩ ?_
  refine WC.seq ?_
  refine WC.region ?_
  refine WL.val (.int .i64 0) rfl rfl rfl (fun za zC zh zk => wp_assign rfl (zh.ev rfl) zk) ?_
  refine WL.nil (WE.sub (K' := [(0, .pointer none), (2, .int .i64 0)]) ⟨rfl, rfl, trivial⟩ ?_)
  refine WE.next ?_
  refine WC.seq ?_
  refine WC.seq ?_
  refine WC.region ?_
  refine WL.val (.pointer none) rfl rfl rfl (fun za zC zh zk => wp_move rfl (zh.ev rfl) zk) ?_
  refine WL.val (.bool true) rfl rfl rfl (fun za zC zh zk => eqln_33 rfl (zh.ev rfl) (zh.ev rfl) zk) ?_
  refine WL.nil (WE.sub (K' := [(0, .pointer none), (2, .int .i64 0), (4, .bool true)]) ⟨rfl, rfl, rfl, trivial⟩ ?_)
  refine WE.next ?_
  refine WC.condT rfl rfl ?_
  refine WC.seq ?_
  refine WC.region ?_
  refine WL.val (.int .i64 0) rfl rfl rfl (fun za zC zh zk => wp_assign rfl (zh.ev rfl) zk) ?_
  refine WL.nil (WE.sub (K' := [(0, .pointer none), (2, .int .i64 0), (4, .bool true)]) ⟨rfl, rfl, rfl, trivial⟩ ?_)
  refine WE.next ?_
  refine WC.ret ?_
  refine WE.thenRet ?_
  refine WE.ret1 rfl rfl ?_
  exact ⟨_, rfl, rfl, (Below.refl _ _)⟩

set_option maxRecDepth 100000 in
theorem drop_nil (n : Int) (w : World) : Calls Try.prog 16 #[.pointer none, .int .i64 n] w (Ret fun v' w' => v' = .bool false ∧ Below w.heap.size w w') := by
  refine Calls.walk (l := [.pointer none, .int .i64 n]) Try.func16 rfl (by kernel_rfl) ?_
  refine WC.sub (K' := [(0, .pointer none), (1, .int .i64 n)]) ⟨rfl, rfl, trivial⟩ ?_
  refine WC.seq ?_
  refine WC.region ?_
  refine WL.val (.bool false) rfl rfl rfl (fun za zC zh zk => wp_assign rfl (zh.ev rfl) zk) ?_
  refine WL.nil (WE.sub (K' := [(0, .pointer none), (1, .int .i64 n), (4, .bool false)]) ⟨rfl, rfl, rfl, trivial⟩ ?_)
  refine WE.next ?_
  refine WC.seq ?_
  refine WC.seq ?_
  refine WC.region ?_
  refine WL.val (.pointer none) rfl rfl rfl (fun za zC zh zk => wp_move rfl (zh.ev rfl) zk) ?_
  refine WL.val (.bool true) rfl rfl rfl (fun za zC zh zk => eqln_33 rfl (zh.ev rfl) (zh.ev rfl) zk) ?_
  refine WL.val (.bool true) rfl rfl rfl (fun za zC zh zk => wp_move rfl (zh.ev rfl) zk) ?_
  refine WL.skip (d := 7) rfl rfl rfl rfl rfl ?_
  refine WL.skip (d := 7) rfl rfl rfl rfl rfl ?_
  refine WL.skip (d := 7) rfl rfl rfl rfl rfl ?_
  refine WL.skip (d := 7) rfl rfl rfl rfl rfl ?_
  refine WL.skip (d := 7) rfl rfl rfl rfl rfl ?_
  refine WL.skip (d := 7) rfl rfl rfl rfl rfl ?_
  refine WL.skip (d := 7) rfl rfl rfl rfl rfl ?_
  refine WL.val (.bool true) rfl rfl rfl (fun za zC zh zk => wp_pickT rfl (zh.ev rfl) (zh.ev rfl) zk) ?_
  refine WL.nil (WE.sub (K' := [(0, .pointer none), (1, .int .i64 n), (4, .bool false), (15, .bool true)]) ⟨rfl, rfl, rfl, rfl, trivial⟩ ?_)
  refine WE.next ?_
  refine WC.condT rfl rfl ?_
  refine WC.seq ?_
  refine WC.region ?_
  refine WL.val (.bool false) rfl rfl rfl (fun za zC zh zk => wp_assign rfl (zh.ev rfl) zk) ?_
  refine WL.nil (WE.sub (K' := [(0, .pointer none), (1, .int .i64 n), (4, .bool false), (15, .bool true)]) ⟨rfl, rfl, rfl, rfl, trivial⟩ ?_)
  refine WE.next ?_
  refine WC.ret ?_
  refine WE.thenRet ?_
  refine WE.ret1 rfl rfl ?_
  exact ⟨_, rfl, rfl, (Below.refl _ _)⟩

set_option maxRecDepth 100000 in
theorem next_nil (w : World) : Calls Try.prog 13 #[.pointer none] w (Ret fun v' w' => v' = .tuple #[.int .i64 0, .bool false] ∧ Below w.heap.size w w') := by
  refine Calls.walk (l := [.pointer none]) Try.func13 rfl (by kernel_rfl) ?_
  refine WC.sub (K' := [(0, .pointer none)]) ⟨rfl, trivial⟩ ?_
  refine WC.seq ?_
  refine WC.region ?_
  refine WL.val (.int .i64 0) rfl rfl rfl (fun za zC zh zk => wp_assign rfl (zh.ev rfl) zk) ?_
  refine WL.val (.bool false) rfl rfl rfl (fun za zC zh zk => wp_assign rfl (zh.ev rfl) zk) ?_
  refine WL.nil (WE.sub (K' := [(0, .pointer none), (2, .int .i64 0), (3, .bool false)]) ⟨rfl, rfl, rfl, trivial⟩ ?_)
  refine WE.next ?_
  refine WC.seq ?_
  refine WC.seq ?_
  refine WC.region ?_
  refine WL.val (.pointer none) rfl rfl rfl (fun za zC zh zk => wp_move rfl (zh.ev rfl) zk) ?_
  refine WL.val (.bool true) rfl rfl rfl (fun za zC zh zk => eqln_33 rfl (zh.ev rfl) (zh.ev rfl) zk) ?_
  refine WL.val (.bool true) rfl rfl rfl (fun za zC zh zk => wp_move rfl (zh.ev rfl) zk) ?_
  refine WL.skip (d := 8) rfl rfl rfl rfl rfl ?_
  refine WL.skip (d := 8) rfl rfl rfl rfl rfl ?_
  refine WL.skip (d := 8) rfl rfl rfl rfl rfl ?_
  refine WL.skip (d := 8) rfl rfl rfl rfl rfl ?_
  refine WL.skip (d := 8) rfl rfl rfl rfl rfl ?_
  refine WL.skip (d := 8) rfl rfl rfl rfl rfl ?_
  refine WL.val (.bool true) rfl rfl rfl (fun za zC zh zk => wp_pickT rfl (zh.ev rfl) (zh.ev rfl) zk) ?_
  refine WL.nil (WE.sub (K' := [(0, .pointer none), (2, .int .i64 0), (3, .bool false), (15, .bool true)]) ⟨rfl, rfl, rfl, rfl, trivial⟩ ?_)
  refine WE.next ?_
  refine WC.condT rfl rfl ?_
  refine WC.seq ?_
  refine WC.region ?_
  refine WL.val (.int .i64 0) rfl rfl rfl (fun za zC zh zk => wp_assign rfl (zh.ev rfl) zk) ?_
  refine WL.val (.bool false) rfl rfl rfl (fun za zC zh zk => wp_assign rfl (zh.ev rfl) zk) ?_
  refine WL.nil (WE.sub (K' := [(0, .pointer none), (2, .int .i64 0), (3, .bool false), (15, .bool true)]) ⟨rfl, rfl, rfl, rfl, trivial⟩ ?_)
  refine WE.next ?_
  refine WC.ret ?_
  refine WE.thenRet ?_
  refine WE.ret2 rfl rfl rfl ?_
  exact ⟨_, rfl, rfl, (Below.refl _ _)⟩

set_option maxRecDepth 100000 in
theorem add_nil (n : Int) (a : Option Addr) (k c : Nat) (goal : Bool) (w : World) : Calls Try.prog 12 #[.pointer none, .int .i64 n, .slice a k c, .bool goal] w (Ret fun v' w' => v' = .int .i64 1 ∧ Below w.heap.size w w') := by
  refine Calls.walk (l := [.pointer none, .int .i64 n, .slice a k c, .bool goal]) Try.func12 rfl (by kernel_rfl) ?_
  refine WC.sub (K' := [(0, .pointer none), (1, .int .i64 n), (2, .slice a k c), (3, .bool goal)]) ⟨rfl, rfl, rfl, rfl, trivial⟩ ?_
  refine WC.seq ?_
  refine WC.region ?_
  refine WL.val (.int .i64 0) rfl rfl rfl (fun za zC zh zk => wp_assign rfl (zh.ev rfl) zk) ?_
  refine WL.nil (WE.sub (K' := [(0, .pointer none), (1, .int .i64 n), (2, .slice a k c), (3, .bool goal), (8, .int .i64 0)]) ⟨rfl, rfl, rfl, rfl, rfl, trivial⟩ ?_)
  refine WE.next ?_
  refine WC.seq ?_
  refine WC.seq ?_
  refine WC.region ?_
  refine WL.val (.pointer none) rfl rfl rfl (fun za zC zh zk => wp_move rfl (zh.ev rfl) zk) ?_
  refine WL.val (.bool true) rfl rfl rfl (fun za zC zh zk => eqln_33 rfl (zh.ev rfl) (zh.ev rfl) zk) ?_
  refine WL.nil (WE.sub (K' := [(0, .pointer none), (1, .int .i64 n), (2, .slice a k c), (3, .bool goal), (8, .int .i64 0), (12, .bool true)]) ⟨rfl, rfl, rfl, rfl, rfl, rfl, trivial⟩ ?_)
  refine WE.next ?_
  refine WC.condT rfl rfl ?_
  refine WC.seq ?_
  refine WC.region ?_
  refine WL.val (.int .i64 1) rfl rfl rfl (fun za zC zh zk => wp_assign rfl (zh.ev rfl) zk) ?_
  refine WL.nil (WE.sub (K' := [(0, .pointer none), (1, .int .i64 n), (2, .slice a k c), (3, .bool goal), (8, .int .i64 1), (12, .bool true)]) ⟨rfl, rfl, rfl, rfl, rfl, rfl, trivial⟩ ?_)
  refine WE.next ?_
  refine WC.ret ?_
  refine WE.thenRet ?_
  refine WE.ret1 rfl rfl ?_
  exact ⟨_, rfl, rfl, (Below.refl _ _)⟩

set_option maxRecDepth 100000 in
theorem len_any (r : Nat) (Z : Nat → Prop) (q : List Qu) (ws : List Wt) (times at_ dn : Nat) (w : World) (hR0 : RoomIs w r Z q ws times at_ dn) : Calls Try.prog 19 #[.pointer (some ⟨r, 0, none⟩)] w (Ret fun v' w' => v' = .int .i64 (ws.length : Int) ∧ Below w.heap.size w w') := by
  obtain ⟨mb, gq, gh, qc, hcp, hb, S, Ls, es, cl, hB, hQ, hH, hM, hE, hP, ⟨zr1, zr2, zr3, zr4, zr5, zr6⟩, hR⟩ := hR0.ex
  have hok := hR0.ok
  obtain ⟨hq1, hq8, hqk⟩ := qsOk_at hR0.qs
  have hat := hR0.at_lt
  have hdn := hR0.dn_lt
  have hrm := hM.neBlk hB
  have hrq : r ≠ gq := by obtain ⟨c1, q⟩ := hQ.blk; exact blk_ne hB q (by decide)
  have hrh : r ≠ gh := by obtain ⟨c1, q⟩ := hH.blk; exact blk_ne hB q (by decide)
  have hqm : gq ≠ mb := by obtain ⟨c1, q⟩ := hQ.blk; exact hM.neBlk q
  have hhm : gh ≠ mb := by obtain ⟨c1, q⟩ := hH.blk; exact hM.neBlk q
  have hC0 := Chg.refl Z w
  refine Calls.walk (l := [.pointer (some ⟨r, 0, none⟩)]) Try.func19 rfl (by kernel_rfl) ?_
  refine WC.sub (K' := [(0, .pointer (some ⟨r, 0, none⟩))]) ⟨rfl, trivial⟩ ?_
  refine WC.seq ?_
  refine WC.region ?_
  refine WL.val (.int .i64 0) rfl rfl rfl (fun za zC zh zk => wp_assign rfl (zh.ev rfl) zk) ?_
  refine WL.nil (WE.sub (K' := [(0, .pointer (some ⟨r, 0, none⟩)), (2, .int .i64 0)]) ⟨rfl, rfl, trivial⟩ ?_)
  refine WE.next ?_
  refine WC.seq ?_
  refine WC.seq ?_
  refine WC.region ?_
  refine WL.val (.pointer (some ⟨r, 0, none⟩)) rfl rfl rfl (fun za zC zh zk => wp_move rfl (zh.ev rfl) zk) ?_
  refine WL.val (.bool false) rfl rfl rfl (fun za zC zh zk => eqlp_33 rfl (zh.ev rfl) (zh.ev rfl) zk) ?_
  refine WL.nil (WE.sub (K' := [(0, .pointer (some ⟨r, 0, none⟩)), (2, .int .i64 0), (4, .bool false)]) ⟨rfl, rfl, rfl, trivial⟩ ?_)
  refine WE.next ?_
  refine WC.condF rfl rfl ?_
  refine WC.skip ?_
  refine WE.next ?_
  refine WC.seq ?_
  refine WC.region ?_
  refine WL.val (.pointer (some ⟨r, 0, none⟩)) rfl rfl rfl (fun za zC zh zk => wp_move rfl (zh.ev rfl) zk) ?_
  refine WL.val (.pointer (some ⟨r, 0, none⟩)) rfl rfl rfl (fun za zC zh zk => nilCheck_ rfl (zh.ev rfl) zk) ?_
  refine WL.val (.pointer (some ⟨r, 2, none⟩)) rfl rfl rfl (fun za zC zh zk => fld_72_2 rfl (zh.ev rfl) zk) ?_
  refine WL.val (.map ((some mb))) rfl rfl rfl (fun za zC zh zk => ld_69 rfl (zh.ev rfl) ((hB.cell 2).trans rfl) zk) ?_
  refine WL.val (.int .i64 ((((wmM ws).length : Nat) : Int))) rfl rfl rfl (fun za zC zh zk => wp_lenMap_im Try.underlying69 hM hE rfl (zh.ev rfl) zk) ?_
  refine WL.val (.int .i64 ((((wmM ws).length : Nat) : Int))) rfl rfl rfl (fun za zC zh zk => wp_assign rfl (zh.ev rfl) zk) ?_
  refine WL.nil (WE.sub (K' := [(0, .pointer (some ⟨r, 0, none⟩)), (2, .int .i64 ((((wmM ws).length : Nat) : Int))), (4, .bool false)]) ⟨rfl, rfl, rfl, trivial⟩ ?_)
  refine WE.next ?_
  refine WC.ret ?_
  refine WE.ret1 rfl rfl ?_
  exact ⟨_, rfl, by simp [wmM], (Below.refl _ _)⟩

set_option maxRecDepth 100000 in
theorem drop_any (n : Int) (r : Nat) (Z : Nat → Prop) (q : List Qu) (ws : List Wt) (times at_ dn : Nat) (w : World) (hR0 : RoomIs w r Z q ws times at_ dn) : Calls Try.prog 16 #[.pointer (some ⟨r, 0, none⟩), .int .i64 n] w (Ret fun v' w' => (tmOf ws n = 0 ∧ v' = .bool false ∧ Below w.heap.size w w') ∨ (tmOf ws n ≠ 0 ∧ v' = .bool true ∧ RoomIs w' r Z q (dropW ws n) times at_ dn ∧ Chg Z w w')) := by
  obtain ⟨mb, gq, gh, qc, hcp, hb, S, Ls, es, cl, hB, hQ, hH, hM, hE, hP, ⟨zr1, zr2, zr3, zr4, zr5, zr6⟩, hR⟩ := hR0.ex
  have hok := hR0.ok
  obtain ⟨hq1, hq8, hqk⟩ := qsOk_at hR0.qs
  have hat := hR0.at_lt
  have hdn := hR0.dn_lt
  have hrm := hM.neBlk hB
  have hrq : r ≠ gq := by obtain ⟨c1, q⟩ := hQ.blk; exact blk_ne hB q (by decide)
  have hrh : r ≠ gh := by obtain ⟨c1, q⟩ := hH.blk; exact blk_ne hB q (by decide)
  have hqm : gq ≠ mb := by obtain ⟨c1, q⟩ := hQ.blk; exact hM.neBlk q
  have hhm : gh ≠ mb := by obtain ⟨c1, q⟩ := hH.blk; exact hM.neBlk q
  have hC0 := Chg.refl Z w
  refine Calls.walk (l := [.pointer (some ⟨r, 0, none⟩), .int .i64 n]) Try.func16 rfl (by kernel_rfl) ?_
  refine WC.sub (K' := [(0, .pointer (some ⟨r, 0, none⟩)), (1, .int .i64 n)]) ⟨rfl, rfl, trivial⟩ ?_
  refine WC.seq ?_
  refine WC.region ?_
  refine WL.val (.bool false) rfl rfl rfl (fun za zC zh zk => wp_assign rfl (zh.ev rfl) zk) ?_
  refine WL.nil (WE.sub (K' := [(0, .pointer (some ⟨r, 0, none⟩)), (1, .int .i64 n), (4, .bool false)]) ⟨rfl, rfl, rfl, trivial⟩ ?_)
  refine WE.next ?_
  refine WC.seq ?_
  refine WC.seq ?_
  refine WC.region ?_
  refine WL.val (.pointer (some ⟨r, 0, none⟩)) rfl rfl rfl (fun za zC zh zk => wp_move rfl (zh.ev rfl) zk) ?_
  refine WL.val (.bool false) rfl rfl rfl (fun za zC zh zk => eqlp_33 rfl (zh.ev rfl) (zh.ev rfl) zk) ?_
  refine WL.val (.bool false) rfl rfl rfl (fun za zC zh zk => wp_move rfl (zh.ev rfl) zk) ?_
  refine WL.want (d := 7) rfl rfl rfl ?_
  refine WL.val (.pointer (some ⟨r, 0, none⟩)) rfl rfl rfl (fun za zC zh zk => wp_move rfl (zh.ev rfl) zk) ?_
  refine WL.want (d := 7) rfl rfl rfl ?_
  refine WL.val (.pointer (some ⟨r, 0, none⟩)) rfl rfl rfl (fun za zC zh zk => nilCheck_ rfl (zh.ev rfl) zk) ?_
  refine WL.want (d := 7) rfl rfl rfl ?_
  refine WL.val (.pointer (some ⟨r, 2, none⟩)) rfl rfl rfl (fun za zC zh zk => fld_72_2 rfl (zh.ev rfl) zk) ?_
  refine WL.want (d := 7) rfl rfl rfl ?_
  refine WL.val (.map ((some mb))) rfl rfl rfl (fun za zC zh zk => ld_69 rfl (zh.ev rfl) ((hB.cell 2).trans rfl) zk) ?_
  refine WL.want (d := 7) rfl rfl rfl ?_
  refine WL.val (.int .i64 n) rfl rfl rfl (fun za zC zh zk => wp_move rfl (zh.ev rfl) zk) ?_
  refine WL.want (d := 7) rfl rfl rfl ?_
  refine WL.val (.int .i64 ((((tmOf ws n) : Nat) : Int))) rfl rfl rfl (fun za zC zh zk => wp_look_im Try.underlying69 Try.underlying3 (zero3 _) hM hE rfl (zh.ev rfl) (zh.ev rfl) (by rw [look_wm]; exact zk)) ?_
  refine WL.want (d := 7) rfl rfl rfl ?_
  refine WL.val (.bool ((((((tmOf ws n) : Nat) : Int) : Int) == (0 : Int)))) rfl rfl rfl (fun za zC zh zk => eql_3 rfl (zh.ev rfl) (zh.ev rfl) zk) ?_
  refine WL.val (.bool ((((((tmOf ws n) : Nat) : Int) : Int) == (0 : Int)))) rfl rfl rfl (fun za zC zh zk => wp_pickF rfl (zh.ev rfl) (zh.ev rfl) zk) ?_
  refine WL.nil (WE.sub (K' := [(0, .pointer (some ⟨r, 0, none⟩)), (1, .int .i64 n), (4, .bool false), (15, .bool ((((((tmOf ws n) : Nat) : Int) : Int) == (0 : Int))))]) ⟨rfl, rfl, rfl, rfl, trivial⟩ ?_)
  refine WE.next ?_
  refine WC.cond rfl (fun h1 => ?_) (fun h1 => ?_)
  · have h1 : ((((tmOf ws n) : Nat) : Int) : Int) = (0 : Int) := by simpa using h1
    refine WC.seq ?_
    refine WC.region ?_
    refine WL.val (.bool false) rfl rfl rfl (fun za zC zh zk => wp_assign rfl (zh.ev rfl) zk) ?_
    refine WL.nil (WE.sub (K' := [(0, .pointer (some ⟨r, 0, none⟩)), (1, .int .i64 n), (4, .bool false), (15, .bool ((((((tmOf ws n) : Nat) : Int) : Int) == (0 : Int))))]) ⟨rfl, rfl, rfl, rfl, trivial⟩ ?_)
    refine WE.next ?_
    refine WC.ret ?_
    refine WE.thenRet ?_
    refine WE.ret1 rfl rfl ?_
    exact ⟨_, rfl, .inl ⟨by omega, rfl, (Below.refl _ _)⟩⟩
  · have h1 : ¬ (((((tmOf ws n) : Nat) : Int) : Int) = (0 : Int)) := by simpa using h1
    refine WC.skip ?_
    refine WE.next ?_
    refine WC.seq ?_
    refine WC.seqV (S := ((fun b => b = mb))) [(true, .val (.pointer (some ⟨r, 0, none⟩))), (true, .val (.pointer (some ⟨r, 0, none⟩))), (true, .val (.pointer (some ⟨r, 2, none⟩))), (true, .val (.map ((some mb)))), (true, .val (.int .i64 n)), (true, .val undef)] [(0, .pointer (some ⟨r, 0, none⟩)), (1, .int .i64 n), (4, .bool false), (15, .bool ((((((tmOf ws n) : Nat) : Int) : Int) == (0 : Int))))] [5] [none] (fun vals w => ∃ es cl, ObjAt w mb (.map es cl) ∧ ImE es cl (List.getD [wmM ws, imDel (wmM ws) n] vals.length [])) ((fun _ _ _ hb h => by obtain ⟨e, c, h1, h2⟩ := h; exact ⟨e, c, h1.below hb, h2⟩)) (by decide) ⟨rfl, rfl, rfl, rfl, trivial⟩ (by kernel_rfl) (by kernel_rfl) (by kernel_rfl) (by kernel_rfl) (⟨_, _, hM, hE⟩) ?_ ?_
    · refine ⟨.inl ⟨rfl, true, .none rfl, (fun gg b h => by cases h), fun h w => optUndef h, fun zβ za zw zc => ?_⟩, ?_⟩
      · exact wp_move rfl (zc.kn.ev rfl) ⟨_, rfl, Below.refl _ _, optDef zβ rfl⟩
      refine ⟨.inl ⟨rfl, true, .none rfl, (fun gg b h => by cases h), fun h w => optUndef h, fun zβ za zw zc => ?_⟩, ?_⟩
      · exact nilCheck_ rfl ((show za.eval (.tmp 16) = za.tmps.getD 16 undef from rfl).trans (optSVal (zc.dep 0 16 (by kernel_rfl) (by decide)) rfl rfl)) ⟨_, rfl, Below.refl _ _, optDef zβ rfl⟩
      refine ⟨.inl ⟨rfl, true, .none rfl, (fun gg b h => by cases h), fun h w => optUndef h, fun zβ za zw zc => ?_⟩, ?_⟩
      · exact fld_72_2 rfl ((show za.eval (.tmp 17) = za.tmps.getD 17 undef from rfl).trans (optSVal (zc.dep 1 17 (by kernel_rfl) (by decide)) rfl rfl)) ⟨_, rfl, Below.refl _ _, optDef zβ rfl⟩
      refine ⟨.inl ⟨rfl, true, .none rfl, (fun gg b h => by cases h), fun h w => optUndef h, fun zβ za zw zc => ?_⟩, ?_⟩
      · exact ld_69 rfl ((show za.eval (.tmp 18) = za.tmps.getD 18 undef from rfl).trans (optSVal (zc.dep 2 18 (by kernel_rfl) (by decide)) rfl rfl)) (chg_cell zc.chg (by (try dsimp only at *); omega) ((hB.cell 2).trans rfl)) ⟨_, rfl, Below.refl _ _, optDef zβ rfl⟩
      refine ⟨.inl ⟨rfl, true, .none rfl, (fun gg b h => by cases h), fun h w => optUndef h, fun zβ za zw zc => ?_⟩, ?_⟩
      · exact wp_move rfl (zc.kn.ev rfl) ⟨_, rfl, Below.refl _ _, optDef zβ rfl⟩
      refine ⟨.inr ⟨0, rfl, by kernel_rfl, true, .none rfl, (fun gg b h => by cases h), (fun h => (nomatch h)), fun zβ za zw zvals zc => ?_⟩, ?_⟩
      · obtain rfl := vlen0 zc.len
        have zn := zc.now
        obtain ⟨es1, cl1, zM, zE⟩ := zn
        exact wp_del_im Try.underlying69 Try.underlying3 zM zE rfl ((show za.eval (.tmp 19) = za.tmps.getD 19 undef from rfl).trans (optSVal (zc.dep 3 19 (by kernel_rfl) (by decide)) rfl rfl)) ((show za.eval (.tmp 20) = za.tmps.getD 20 undef from rfl).trans (optSVal (zc.dep 4 20 (by kernel_rfl) (by decide)) rfl rfl)) (fun w2 es2 cl2 h1 h2 h3 => ⟨_, rfl, .ofUpd h3 rfl, ⟨es2, cl2, h1, h2⟩, fun b x e _ => by cases e⟩)
      exact trivial
    · intro za w2 zvals zh zl hG3 hc4 zu zw zk
      obtain ⟨z0, rfl⟩ := vlen1 zl
      obtain ⟨es5, cl6, hM7, hE8⟩ := hG3
      have hB11 := chg_blk hB hc4 (by (try dsimp only at *); omega)
      have ho12 := hQ.chg hc4 (by (try dsimp only at *); omega)
      have ho13 := hH.chg hc4 (by (try dsimp only at *); omega)
      have hE8' : ImE es5 cl6 (wmM ((dropW ws n))) := by rw [← del_wm n ws hok.nd]; exact hE8
      have hP9 := hP.chg hc4 ⟨fun k hk e => (hP.ap mb (by simp)).2.1 k hk e.symm, fun k b hk hS e => (hP.ap mb (by simp)).2.2 k hk (e ▸ hS)⟩
      have hC10 := Chg.trans2 hC0 hc4 (fun i _ q => q ▸ zr2)
      clear zu zw zk
      refine (show WE _ [(0, .pointer (some ⟨r, 0, none⟩)), (1, .int .i64 n), (4, .bool false), (15, .bool ((((((tmOf ws n) : Nat) : Int) : Int) == (0 : Int))))] w2 _ .normal from ?_) za (zh.sub ⟨rfl, rfl, rfl, rfl, trivial⟩)
      refine WE.next ?_
      refine WC.seq ?_
      refine WC.region ?_
      refine WL.val (.bool true) rfl rfl rfl (fun za zC zh zk => wp_assign rfl (zh.ev rfl) zk) ?_
      refine WL.nil (WE.sub (K' := [(0, .pointer (some ⟨r, 0, none⟩)), (1, .int .i64 n), (4, .bool true), (15, .bool ((((((tmOf ws n) : Nat) : Int) : Int) == (0 : Int))))]) ⟨rfl, rfl, rfl, rfl, trivial⟩ ?_)
      refine WE.next ?_
      refine WC.ret ?_
      refine WE.ret1 rfl rfl ?_
      exact ⟨_, rfl, .inr ⟨by omega, rfl, ⟨⟨mb, gq, gh, qc, hcp, hb, _, _, es5, cl6, hB11, ho12, ho13, hM7, hE8', hP9, ⟨zr1, zr2, zr3, zr4, zr5, zr6⟩, fun k hk => (hR k hk).drop n⟩, hok.drop n, hR0.qs, hat, hdn⟩, hC10⟩⟩

end Go.Proofs.Ytjhkoiggeepajaa
