/- How two in a heap stand. -/
import Derived.Test.YtjhkoiggeepajaaHeapM
import Derived.Test.YtjhkoiggeepajaaHWeigh2
namespace Go.Proofs.Ytjhkoiggeepajaa
open Go.RowKit Go
set_option linter.unusedVariables false
set_option linter.unusedSimpArgs false

set_option maxRecDepth 100000 in
theorem isnan_any (x : Int) (w : World) : Calls Try.prog 39 #[.int .i64 x] w (Ret fun v' w' => v' = .bool false ∧ Below w.heap.size w w') := by
  refine Calls.walk (l := [.int .i64 x]) Try.func39 rfl (by kernel_rfl) ?_
  refine WC.sub (K' := [(0, .int .i64 x)]) ⟨rfl, trivial⟩ ?_
  refine WC.seq ?_
  refine WC.region ?_
  refine WL.val (.bool false) rfl rfl rfl (fun za zC zh zk => wp_assign rfl (zh.ev rfl) zk) ?_
  refine WL.nil (WE.sub (K' := [(0, .int .i64 x), (2, .bool false)]) ⟨rfl, rfl, trivial⟩ ?_)
  refine WE.next ?_
  refine WC.seq ?_
  refine WC.region ?_
  refine WL.val (.int .i64 x) rfl rfl rfl (fun za zC zh zk => wp_move rfl (zh.ev rfl) zk) ?_
  refine WL.val (.int .i64 x) rfl rfl rfl (fun za zC zh zk => wp_move rfl (zh.ev rfl) zk) ?_
  refine WL.val (.bool (((x : Int) != (x : Int)))) rfl rfl rfl (fun za zC zh zk => neq_3 rfl (zh.ev rfl) (zh.ev rfl) zk) ?_
  refine WL.val (.bool (((x : Int) != (x : Int)))) rfl rfl rfl (fun za zC zh zk => wp_assign rfl (zh.ev rfl) zk) ?_
  refine WL.nil (WE.sub (K' := [(0, .int .i64 x), (2, .bool (((x : Int) != (x : Int))))]) ⟨rfl, rfl, trivial⟩ ?_)
  refine WE.next ?_
  refine WC.ret ?_
  refine WE.ret1 rfl rfl ?_
  exact ⟨_, rfl, by simp, (Below.refl _ _)⟩

set_option maxRecDepth 100000 in
theorem cmp_any (x y : Int) (w : World) : Calls Try.prog 27 #[.int .i64 x, .int .i64 y] w (Ret fun v' w' => v' = .int .i64 (cmp3 x y) ∧ Below w.heap.size w w') := by
  refine Calls.walk (l := [.int .i64 x, .int .i64 y]) Try.func27 rfl (by kernel_rfl) ?_
  refine WC.sub (K' := [(0, .int .i64 x), (1, .int .i64 y)]) ⟨rfl, rfl, trivial⟩ ?_
  refine WC.seq ?_
  refine WC.region ?_
  refine WL.val (.int .i64 0) rfl rfl rfl (fun za zC zh zk => wp_assign rfl (zh.ev rfl) zk) ?_
  refine WL.nil (WE.sub (K' := [(0, .int .i64 x), (1, .int .i64 y), (4, .int .i64 0)]) ⟨rfl, rfl, rfl, trivial⟩ ?_)
  refine WE.next ?_
  refine WC.seq ?_
  refine WC.region ?_
  refine WL.val (.int .i64 x) rfl rfl rfl (fun za zC zh zk => wp_move rfl (zh.ev rfl) zk) ?_
  refine WL.call rfl rfl rfl (fun za zh zC => wp_call (by kernel_rfl) rfl (hv1 (zh.ev rfl))) (isnan_any _ _) ?_
  rintro _ w2 ⟨rfl, hq1⟩
  refine WL.val (.bool false) rfl rfl rfl (fun za zC zh zk => wp_assign rfl (zh.ev rfl) zk) ?_
  refine WL.nil (WE.sub (K' := [(0, .int .i64 x), (1, .int .i64 y), (4, .int .i64 0), (5, .bool false)]) ⟨rfl, rfl, rfl, rfl, trivial⟩ ?_)
  refine WE.next ?_
  refine WC.seq ?_
  refine WC.region ?_
  refine WL.val (.int .i64 y) rfl rfl rfl (fun za zC zh zk => wp_move rfl (zh.ev rfl) zk) ?_
  refine WL.call rfl rfl rfl (fun za zh zC => wp_call (by kernel_rfl) rfl (hv1 (zh.ev rfl))) (isnan_any _ _) ?_
  rintro _ w4 ⟨rfl, hq3⟩
  refine WL.val (.bool false) rfl rfl rfl (fun za zC zh zk => wp_assign rfl (zh.ev rfl) zk) ?_
  refine WL.nil (WE.sub (K' := [(0, .int .i64 x), (1, .int .i64 y), (4, .int .i64 0), (5, .bool false), (6, .bool false)]) ⟨rfl, rfl, rfl, rfl, rfl, trivial⟩ ?_)
  refine WE.next ?_
  refine WC.seq ?_
  refine WC.seq ?_
  refine WC.region ?_
  refine WL.val (.bool false) rfl rfl rfl (fun za zC zh zk => wp_move rfl (zh.ev rfl) zk) ?_
  refine WL.nil (WE.sub (K' := [(0, .int .i64 x), (1, .int .i64 y), (4, .int .i64 0), (5, .bool false), (6, .bool false), (11, .bool false)]) ⟨rfl, rfl, rfl, rfl, rfl, rfl, trivial⟩ ?_)
  refine WE.next ?_
  refine WC.condF rfl rfl ?_
  refine WC.skip ?_
  refine WE.next ?_
  refine WC.seq ?_
  refine WC.seq ?_
  refine WC.region ?_
  refine WL.val (.bool false) rfl rfl rfl (fun za zC zh zk => wp_move rfl (zh.ev rfl) zk) ?_
  refine WL.nil (WE.sub (K' := [(0, .int .i64 x), (1, .int .i64 y), (4, .int .i64 0), (5, .bool false), (6, .bool false), (11, .bool false), (13, .bool false)]) ⟨rfl, rfl, rfl, rfl, rfl, rfl, rfl, trivial⟩ ?_)
  refine WE.next ?_
  refine WC.condF rfl rfl ?_
  refine WC.skip ?_
  refine WE.next ?_
  refine WC.seq ?_
  refine WC.seq ?_
  refine WC.region ?_
  refine WL.val (.int .i64 x) rfl rfl rfl (fun za zC zh zk => wp_move rfl (zh.ev rfl) zk) ?_
  refine WL.val (.int .i64 y) rfl rfl rfl (fun za zC zh zk => wp_move rfl (zh.ev rfl) zk) ?_
  refine WL.val (.bool ((decide ((x : Int) < (y : Int))))) rfl rfl rfl (fun za zC zh zk => lss_3 rfl (zh.ev rfl) (zh.ev rfl) zk) ?_
  refine WL.nil (WE.sub (K' := [(0, .int .i64 x), (1, .int .i64 y), (4, .int .i64 0), (5, .bool false), (6, .bool false), (11, .bool false), (13, .bool false), (16, .bool ((decide ((x : Int) < (y : Int)))))]) ⟨rfl, rfl, rfl, rfl, rfl, rfl, rfl, rfl, trivial⟩ ?_)
  refine WE.next ?_
  refine WC.cond rfl (fun h5 => ?_) (fun h5 => ?_)
  · have h5 : (x : Int) < (y : Int) := by simpa using h5
    refine WC.seq ?_
    refine WC.region ?_
    refine WL.val (.int .i64 ((-1))) rfl rfl rfl (fun za zC zh zk => wp_assign rfl (zh.ev rfl) zk) ?_
    refine WL.nil (WE.sub (K' := [(0, .int .i64 x), (1, .int .i64 y), (4, .int .i64 ((-1))), (5, .bool false), (6, .bool false), (11, .bool false), (13, .bool false), (16, .bool ((decide ((x : Int) < (y : Int)))))]) ⟨rfl, rfl, rfl, rfl, rfl, rfl, rfl, rfl, trivial⟩ ?_)
    refine WE.next ?_
    refine WC.ret ?_
    refine WE.thenRet ?_
    refine WE.ret1 rfl rfl ?_
    have hb6 : Below w.heap.size w w4 := (bstep hq1 hq3)
    exact ⟨_, rfl, by unfold cmp3; rw [if_pos h5], hb6⟩
  · have h5 : ¬ ((x : Int) < (y : Int)) := by simpa using h5
    refine WC.skip ?_
    refine WE.next ?_
    refine WC.seq ?_
    refine WC.seq ?_
    refine WC.region ?_
    refine WL.val (.int .i64 x) rfl rfl rfl (fun za zC zh zk => wp_move rfl (zh.ev rfl) zk) ?_
    refine WL.val (.int .i64 y) rfl rfl rfl (fun za zC zh zk => wp_move rfl (zh.ev rfl) zk) ?_
    refine WL.val (.bool ((decide ((y : Int) < (x : Int))))) rfl rfl rfl (fun za zC zh zk => gtr_3 rfl (zh.ev rfl) (zh.ev rfl) zk) ?_
    refine WL.nil (WE.sub (K' := [(0, .int .i64 x), (1, .int .i64 y), (4, .int .i64 0), (5, .bool false), (6, .bool false), (11, .bool false), (13, .bool false), (16, .bool ((decide ((x : Int) < (y : Int))))), (19, .bool ((decide ((y : Int) < (x : Int)))))]) ⟨rfl, rfl, rfl, rfl, rfl, rfl, rfl, rfl, rfl, trivial⟩ ?_)
    refine WE.next ?_
    refine WC.cond rfl (fun h7 => ?_) (fun h7 => ?_)
    · have h7 : (y : Int) < (x : Int) := by simpa using h7
      refine WC.seq ?_
      refine WC.region ?_
      refine WL.val (.int .i64 1) rfl rfl rfl (fun za zC zh zk => wp_assign rfl (zh.ev rfl) zk) ?_
      refine WL.nil (WE.sub (K' := [(0, .int .i64 x), (1, .int .i64 y), (4, .int .i64 1), (5, .bool false), (6, .bool false), (11, .bool false), (13, .bool false), (16, .bool ((decide ((x : Int) < (y : Int))))), (19, .bool ((decide ((y : Int) < (x : Int)))))]) ⟨rfl, rfl, rfl, rfl, rfl, rfl, rfl, rfl, rfl, trivial⟩ ?_)
      refine WE.next ?_
      refine WC.ret ?_
      refine WE.thenRet ?_
      refine WE.ret1 rfl rfl ?_
      have hb8 : Below w.heap.size w w4 := (bstep hq1 hq3)
      exact ⟨_, rfl, by unfold cmp3; rw [if_neg h5, if_pos h7], hb8⟩
    · have h7 : ¬ ((y : Int) < (x : Int)) := by simpa using h7
      refine WC.skip ?_
      refine WE.next ?_
      refine WC.seq ?_
      refine WC.region ?_
      refine WL.val (.int .i64 0) rfl rfl rfl (fun za zC zh zk => wp_assign rfl (zh.ev rfl) zk) ?_
      refine WL.nil (WE.sub (K' := [(0, .int .i64 x), (1, .int .i64 y), (4, .int .i64 0), (5, .bool false), (6, .bool false), (11, .bool false), (13, .bool false), (16, .bool ((decide ((x : Int) < (y : Int))))), (19, .bool ((decide ((y : Int) < (x : Int)))))]) ⟨rfl, rfl, rfl, rfl, rfl, rfl, rfl, rfl, rfl, trivial⟩ ?_)
      refine WE.next ?_
      refine WC.ret ?_
      refine WE.ret1 rfl rfl ?_
      have hb9 : Below w.heap.size w w4 := (bstep hq1 hq3)
      exact ⟨_, rfl, by unfold cmp3; rw [if_neg h5, if_neg h7], hb9⟩

set_option maxRecDepth 100000 in
theorem or_any (l : List Int) (w : World) (a : Option Addr) (c : Nat) (hl : Nums w l a) (hz : l.length ≤ 1048576) : Calls Try.prog 26 #[.slice a l.length c] w (Ret fun v' w' => v' = .int .i64 (firstI l) ∧ Below w.heap.size w w') := by
  refine Calls.walk (l := [.slice a l.length c]) Try.func26 rfl (by kernel_rfl) ?_
  refine WC.sub (K' := [(0, .slice a l.length c)]) ⟨rfl, trivial⟩ ?_
  refine WC.seq ?_
  refine WC.region ?_
  refine WL.val (.int .i64 0) rfl rfl rfl (fun za zC zh zk => wp_assign rfl (zh.ev rfl) zk) ?_
  refine WL.nil (WE.sub (K' := [(0, .slice a l.length c), (2, .int .i64 0)]) ⟨rfl, rfl, trivial⟩ ?_)
  refine WE.next ?_
  refine WC.seq ?_
  refine WC.region ?_
  refine WL.val (.int .i64 0) rfl rfl rfl (fun za zC zh zk => wp_assign rfl (zh.ev rfl) zk) ?_
  refine WL.nil (WE.sub (K' := [(0, .slice a l.length c), (2, .int .i64 0), (3, .int .i64 0)]) ⟨rfl, rfl, rfl, trivial⟩ ?_)
  refine WE.next ?_
  refine WC.seq ?_
  refine WC.seq ?_
  refine WC.region ?_
  refine WL.val (.slice a l.length c) rfl rfl rfl (fun za zC zh zk => wp_move rfl (zh.ev rfl) zk) ?_
  refine WL.val (.int .i64 (((l.length : Nat) : Int))) rfl rfl rfl (fun za zC zh zk => len_68 rfl (zh.ev rfl) zk) ?_
  refine WL.val (.int .i64 0) rfl rfl rfl (fun za zC zh zk => wp_move rfl (zh.ev rfl) zk) ?_
  refine WL.nil (WE.sub (K' := [(0, .slice a l.length c), (2, .int .i64 0), (3, .int .i64 0), (6, .slice a l.length c), (7, .int .i64 (((l.length : Nat) : Int))), (8, .int .i64 0)]) ⟨rfl, rfl, rfl, rfl, rfl, rfl, trivial⟩ ?_)
  refine WE.next ?_
  refine WC.block ?_
  refine WC.loop (X := Nat) (fun k => l.length - k) (fun k => [(0, .slice a l.length c), (3, .int .i64 0), (6, .slice a l.length c), (7, .int .i64 (((l.length : Nat) : Int))), (8, .int .i64 (((k : Nat) : Int)))]) (fun k w1 => k ≤ l.length ∧ firstI l = firstI (l.drop k) ∧ Below w.heap.size w w1) 0 ⟨rfl, rfl, rfl, rfl, rfl, trivial⟩ ?_ ?_
  · exact ⟨Nat.zero_le _, by rw [List.drop_zero], (Below.refl _ _)⟩
  · rintro k w1 ⟨hk, hF, hb2⟩
    refine WC.seq ?_
    refine WC.region ?_
    refine WL.val (.bool ((decide ((((k : Nat) : Int) : Int) < (((l.length : Nat) : Int) : Int))))) rfl rfl rfl (fun za zC zh zk => lss_3 rfl (zh.ev rfl) (zh.ev rfl) zk) ?_
    refine WL.nil (WE.sub (K' := [(0, .slice a l.length c), (3, .int .i64 0), (6, .slice a l.length c), (7, .int .i64 (((l.length : Nat) : Int))), (8, .int .i64 (((k : Nat) : Int))), (9, .bool ((decide ((((k : Nat) : Int) : Int) < (((l.length : Nat) : Int) : Int)))))]) ⟨rfl, rfl, rfl, rfl, rfl, rfl, trivial⟩ ?_)
    refine WE.next ?_
    refine WC.seq ?_
    refine WC.cond rfl (fun h3 => ?_) (fun h3 => ?_)
    · have h3 : (((k : Nat) : Int) : Int) < (((l.length : Nat) : Int) : Int) := by simpa using h3
      refine WC.skip ?_
      refine WE.next ?_
      refine WC.seq ?_
      refine WC.block ?_
      refine WC.seq ?_
      refine WC.region ?_
      obtain ⟨b4, o5, ha6, hc7⟩ := hl
      refine WL.val (.pointer (some ⟨b4, o5 + k, none⟩)) rfl rfl rfl (fun za zC zh zk => ix_68 (k := k) rfl (zh.ev rfl) (ha6 k (by first | omega | (simp; omega))) (zh.ev rfl) (by first | omega | (simp; omega)) zk) ?_
      refine WL.val (.int .i64 ((nget l k))) rfl rfl rfl (fun za zC zh zk => ld_3 rfl (zh.ev rfl) (bkeeps hb2 _ _ (hc7 k (by first | omega | (simp; omega)))) zk) ?_
      refine WL.val (.int .i64 ((nget l k))) rfl rfl rfl (fun za zC zh zk => wp_assign rfl (zh.ev rfl) zk) ?_
      refine WL.nil (WE.sub (K' := [(0, .slice a l.length c), (3, .int .i64 0), (5, .int .i64 ((nget l k))), (6, .slice a l.length c), (7, .int .i64 (((l.length : Nat) : Int))), (8, .int .i64 (((k : Nat) : Int))), (9, .bool ((decide ((((k : Nat) : Int) : Int) < (((l.length : Nat) : Int) : Int)))))]) ⟨rfl, rfl, rfl, rfl, rfl, rfl, rfl, trivial⟩ ?_)
      refine WE.next ?_
      refine WC.seq ?_
      refine WC.region ?_
      refine WL.val (.int .i64 ((nget l k))) rfl rfl rfl (fun za zC zh zk => wp_move rfl (zh.ev rfl) zk) ?_
      refine WL.val (.int .i64 0) rfl rfl rfl (fun za zC zh zk => wp_move rfl (zh.ev rfl) zk) ?_
      refine WL.val (.bool ((((nget l k) : Int) != (0 : Int)))) rfl rfl rfl (fun za zC zh zk => neq_3 rfl (zh.ev rfl) (zh.ev rfl) zk) ?_
      refine WL.nil (WE.sub (K' := [(0, .slice a l.length c), (3, .int .i64 0), (5, .int .i64 ((nget l k))), (6, .slice a l.length c), (7, .int .i64 (((l.length : Nat) : Int))), (8, .int .i64 (((k : Nat) : Int))), (9, .bool ((decide ((((k : Nat) : Int) : Int) < (((l.length : Nat) : Int) : Int))))), (14, .bool ((((nget l k) : Int) != (0 : Int))))]) ⟨rfl, rfl, rfl, rfl, rfl, rfl, rfl, rfl, trivial⟩ ?_)
      refine WE.next ?_
      refine WC.cond rfl (fun h8 => ?_) (fun h8 => ?_)
      · have h8 : ((nget l k) : Int) ≠ (0 : Int) := by simpa using h8
        refine WC.seq ?_
        refine WC.region ?_
        refine WL.val (.int .i64 ((nget l k))) rfl rfl rfl (fun za zC zh zk => wp_move rfl (zh.ev rfl) zk) ?_
        refine WL.val (.int .i64 ((nget l k))) rfl rfl rfl (fun za zC zh zk => wp_assign rfl (zh.ev rfl) zk) ?_
        refine WL.nil (WE.sub (K' := [(0, .slice a l.length c), (2, .int .i64 ((nget l k))), (3, .int .i64 0), (5, .int .i64 ((nget l k))), (6, .slice a l.length c), (7, .int .i64 (((l.length : Nat) : Int))), (8, .int .i64 (((k : Nat) : Int))), (9, .bool ((decide ((((k : Nat) : Int) : Int) < (((l.length : Nat) : Int) : Int))))), (14, .bool ((((nget l k) : Int) != (0 : Int))))]) ⟨rfl, rfl, rfl, rfl, rfl, rfl, rfl, rfl, rfl, trivial⟩ ?_)
        refine WE.next ?_
        refine WC.ret ?_
        refine WE.blockRet ?_
        refine WE.thenRet ?_
        refine WE.thenRet ?_
        refine WE.blockRet ?_
        refine WE.thenRet ?_
        refine WE.ret1 rfl rfl ?_
        exact ⟨_, rfl, congrArg _ ((hF.trans (firstI_found (by omega) h8)).symm), hb2⟩
      · have h8 : ¬ (((nget l k) : Int) ≠ (0 : Int)) := by simpa using h8
        refine WC.skip ?_
        refine WE.blockNormal ?_
        refine WE.next ?_
        refine WC.region ?_
        refine WL.val (.int .i64 ((((k + 1) : Nat) : Int))) rfl rfl rfl (fun za zC zh zk => addb_3 rfl (zh.ev rfl) (zh.ev rfl) (wrap_eq (by omega) (by omega) (by omega)) zk) ?_
        refine WL.val (.int .i64 ((((k + 1) : Nat) : Int))) rfl rfl rfl (fun za zC zh zk => wp_move rfl (zh.ev rfl) zk) ?_
        refine WL.nil (WE.sub (K' := [(0, .slice a l.length c), (3, .int .i64 0), (5, .int .i64 ((nget l k))), (6, .slice a l.length c), (7, .int .i64 (((l.length : Nat) : Int))), (8, .int .i64 ((((k + 1) : Nat) : Int))), (9, .bool ((decide ((((k : Nat) : Int) : Int) < (((l.length : Nat) : Int) : Int))))), (14, .bool ((((nget l k) : Int) != (0 : Int))))]) ⟨rfl, rfl, rfl, rfl, rfl, rfl, rfl, rfl, trivial⟩ ?_)
        refine WE.round (k + 1) ⟨rfl, rfl, rfl, rfl, rfl, trivial⟩ ?_ ?_
        · exact ⟨by omega, hF.trans (firstI_skip (by omega) (by omega)), hb2⟩
        · omega
    · have h3 : ¬ ((((k : Nat) : Int) : Int) < (((l.length : Nat) : Int) : Int)) := by simpa using h3
      refine WC.exit ?_
      refine WE.thenExit ?_
      refine WE.thenExit ?_
      refine WE.blockIs rfl ?_
      refine WE.next ?_
      refine WC.seq ?_
      refine WC.region ?_
      refine WL.val (.int .i64 0) rfl rfl rfl (fun za zC zh zk => wp_move rfl (zh.ev rfl) zk) ?_
      refine WL.val (.int .i64 0) rfl rfl rfl (fun za zC zh zk => wp_assign rfl (zh.ev rfl) zk) ?_
      refine WL.nil (WE.sub (K' := [(0, .slice a l.length c), (2, .int .i64 0), (3, .int .i64 0), (6, .slice a l.length c), (7, .int .i64 (((l.length : Nat) : Int))), (8, .int .i64 (((k : Nat) : Int))), (9, .bool ((decide ((((k : Nat) : Int) : Int) < (((l.length : Nat) : Int) : Int)))))]) ⟨rfl, rfl, rfl, rfl, rfl, rfl, rfl, trivial⟩ ?_)
      refine WE.next ?_
      refine WC.ret ?_
      refine WE.ret1 rfl rfl ?_
      exact ⟨_, rfl, congrArg _ ((hF.trans (firstI_end (by omega))).symm), hb2⟩

set_option maxRecDepth 100000 in
theorem itc_any (x y : It) (w : World) : Calls Try.prog 25 #[.agg #[.int .i64 x.b0, .int .i64 x.b1, .int .i64 x.id, .int .i64 x.tm], .agg #[.int .i64 y.b0, .int .i64 y.b1, .int .i64 y.id, .int .i64 y.tm]] w (Ret fun v' w' => v' = .int .i64 (itc x y) ∧ Below w.heap.size w w') := by
  refine Calls.walk (l := [.agg #[.int .i64 x.b0, .int .i64 x.b1, .int .i64 x.id, .int .i64 x.tm], .agg #[.int .i64 y.b0, .int .i64 y.b1, .int .i64 y.id, .int .i64 y.tm]]) Try.func25 rfl (by kernel_rfl) ?_
  refine WC.sub (K' := [(0, .agg #[.int .i64 x.b0, .int .i64 x.b1, .int .i64 x.id, .int .i64 x.tm]), (1, .agg #[.int .i64 y.b0, .int .i64 y.b1, .int .i64 y.id, .int .i64 y.tm])]) ⟨rfl, rfl, trivial⟩ ?_
  refine WC.seq ?_
  refine WC.region ?_
  refine WL.step (post := NewBlk w 75 #[.int .i64 x.b0, .int .i64 x.b1, .int .i64 x.id, .int .i64 x.tm]) rfl rfl rfl (fun za zC zh zk => box_75 rfl (zh.ev rfl) (zk _ _ (newBlk _ _ _))) ?_
  rintro _ w1 ⟨g2, rfl, hg3, hB4, hb5, hz6⟩
  have hl7 : w.heap.size ≤ g2 := by omega
  refine WL.step (post := NewBlk w1 75 #[.int .i64 y.b0, .int .i64 y.b1, .int .i64 y.id, .int .i64 y.tm]) rfl rfl rfl (fun za zC zh zk => box_75 rfl (zh.ev rfl) (zk _ _ (newBlk _ _ _))) ?_
  rintro _ w8 ⟨g9, rfl, hg10, hB11, hb12, hz13⟩
  have hl14 : g2 < g9 := by have z1 := hB4.lt; omega
  have hl15 : w.heap.size ≤ g9 := by have z2 := (hb5).size; omega
  refine WL.val (.int .i64 0) rfl rfl rfl (fun za zC zh zk => wp_assign rfl (zh.ev rfl) zk) ?_
  refine WL.nil (WE.sub (K' := [(0, .agg #[.int .i64 x.b0, .int .i64 x.b1, .int .i64 x.id, .int .i64 x.tm]), (1, .agg #[.int .i64 y.b0, .int .i64 y.b1, .int .i64 y.id, .int .i64 y.tm]), (2, .pointer (some ⟨g2, 0, none⟩)), (3, .pointer (some ⟨g9, 0, none⟩)), (4, .int .i64 0)]) ⟨rfl, rfl, rfl, rfl, rfl, trivial⟩ ?_)
  refine WE.next ?_
  refine WC.seq ?_
  have hB16 := hB4.below hb12
  refine WC.opt [(true, .val (.pointer (some ⟨g2, 0, none⟩))), (true, .val (.pointer (some ⟨g2, 0, none⟩))), (true, .val (.int .i64 x.b0)), (true, .val (.pointer (some ⟨g9, 0, none⟩))), (true, .val (.pointer (some ⟨g9, 0, none⟩))), (true, .val (.int .i64 y.b0)), (true, .val (.int .i64 ((cmp3 x.b0 y.b0)))), (true, .val (.pointer (some ⟨g2, 0, none⟩))), (true, .val (.pointer (some ⟨g2, 1, none⟩))), (true, .val (.int .i64 x.b1)), (true, .val (.pointer (some ⟨g9, 0, none⟩))), (true, .val (.pointer (some ⟨g9, 1, none⟩))), (true, .val (.int .i64 y.b1)), (true, .val (.int .i64 ((cmp3 x.b1 y.b1)))), (true, .val (.pointer (some ⟨g2, 2, none⟩))), (true, .val (.int .i64 x.id)), (true, .val (.pointer (some ⟨g9, 2, none⟩))), (true, .val (.int .i64 y.id)), (true, .val (.int .i64 ((cmp3 x.id y.id)))), (true, .val (.pointer (some ⟨g2, 3, none⟩))), (true, .val (.int .i64 x.tm)), (true, .val (.pointer (some ⟨g9, 3, none⟩))), (true, .val (.int .i64 y.tm)), (true, .val (.int .i64 ((cmp3 x.tm y.tm)))), (true, .mem (fun v w' => ∃ g, v = .slice (some ⟨g, 0, none⟩) 4 4 ∧ Nums w' [(cmp3 x.b0 y.b0), (cmp3 x.b1 y.b1), (cmp3 x.id y.id), (cmp3 x.tm y.tm)] (some ⟨g, 0, none⟩)) (fun v w w' hb h => by obtain ⟨g, e, z⟩ := h; exact ⟨g, e, z.below hb⟩)), (true, .val (.int .i64 ((firstI [(cmp3 x.b0 y.b0), (cmp3 x.b1 y.b1), (cmp3 x.id y.id), (cmp3 x.tm y.tm)])))), (true, .val (.int .i64 ((firstI [(cmp3 x.b0 y.b0), (cmp3 x.b1 y.b1), (cmp3 x.id y.id), (cmp3 x.tm y.tm)]))))] [(0, .agg #[.int .i64 x.b0, .int .i64 x.b1, .int .i64 x.id, .int .i64 x.tm]), (1, .agg #[.int .i64 y.b0, .int .i64 y.b1, .int .i64 y.id, .int .i64 y.tm]), (2, .pointer (some ⟨g2, 0, none⟩)), (3, .pointer (some ⟨g9, 0, none⟩))] ⟨rfl, rfl, rfl, rfl, trivial⟩ (by kernel_rfl) (by kernel_rfl) (by kernel_rfl) ?_ ?_
  · refine ⟨⟨true, .none rfl, fun h w => optUndef h, fun zβ za zw zc => ?_⟩, ?_⟩
    · exact fld_75_0 rfl (zc.kn.ev rfl) ⟨_, rfl, Below.refl _ _, optDef zβ rfl⟩
    refine ⟨⟨true, .none rfl, fun h w => optUndef h, fun zβ za zw zc => ?_⟩, ?_⟩
    · exact ixa_26 (k := 0) rfl ((show za.eval (.tmp 5) = za.tmps.getD 5 undef from rfl).trans (optVal (zc.dep 0 5 (by kernel_rfl)) rfl rfl)) (zc.kn.ev rfl) (by decide) ⟨_, rfl, Below.refl _ _, optDef zβ rfl⟩
    refine ⟨⟨true, .none rfl, fun h w => optUndef h, fun zβ za zw zc => ?_⟩, ?_⟩
    · exact ld_3 rfl ((show za.eval (.tmp 6) = za.tmps.getD 6 undef from rfl).trans (optVal (zc.dep 1 6 (by kernel_rfl)) rfl rfl)) (bkeeps zc.below _ _ ((hB16.cell 0).trans rfl)) ⟨_, rfl, Below.refl _ _, optDef zβ rfl⟩
    refine ⟨⟨true, .none rfl, fun h w => optUndef h, fun zβ za zw zc => ?_⟩, ?_⟩
    · exact fld_75_0 rfl (zc.kn.ev rfl) ⟨_, rfl, Below.refl _ _, optDef zβ rfl⟩
    refine ⟨⟨true, .none rfl, fun h w => optUndef h, fun zβ za zw zc => ?_⟩, ?_⟩
    · exact ixa_26 (k := 0) rfl ((show za.eval (.tmp 8) = za.tmps.getD 8 undef from rfl).trans (optVal (zc.dep 3 8 (by kernel_rfl)) rfl rfl)) (zc.kn.ev rfl) (by decide) ⟨_, rfl, Below.refl _ _, optDef zβ rfl⟩
    refine ⟨⟨true, .none rfl, fun h w => optUndef h, fun zβ za zw zc => ?_⟩, ?_⟩
    · exact ld_3 rfl ((show za.eval (.tmp 9) = za.tmps.getD 9 undef from rfl).trans (optVal (zc.dep 4 9 (by kernel_rfl)) rfl rfl)) (bkeeps zc.below _ _ ((hB11.cell 0).trans rfl)) ⟨_, rfl, Below.refl _ _, optDef zβ rfl⟩
    refine ⟨⟨true, .none rfl, fun h w => optUndef h, fun zβ za zw zc => ?_⟩, ?_⟩
    · exact wp_call (by kernel_rfl) rfl (hv2 ((show za.eval (.tmp 7) = za.tmps.getD 7 undef from rfl).trans (optVal (zc.dep 2 7 (by kernel_rfl)) rfl rfl)) ((show za.eval (.tmp 10) = za.tmps.getD 10 undef from rfl).trans (optVal (zc.dep 5 10 (by kernel_rfl)) rfl rfl))) (cmp_any x.b0 y.b0 _) (fun v w' h => ⟨v, rfl, h.2, optDef zβ h.1⟩)
    refine ⟨⟨true, .none rfl, fun h w => optUndef h, fun zβ za zw zc => ?_⟩, ?_⟩
    · exact fld_75_0 rfl (zc.kn.ev rfl) ⟨_, rfl, Below.refl _ _, optDef zβ rfl⟩
    refine ⟨⟨true, .none rfl, fun h w => optUndef h, fun zβ za zw zc => ?_⟩, ?_⟩
    · exact ixa_26 (k := 1) rfl ((show za.eval (.tmp 12) = za.tmps.getD 12 undef from rfl).trans (optVal (zc.dep 7 12 (by kernel_rfl)) rfl rfl)) (zc.kn.ev rfl) (by decide) ⟨_, rfl, Below.refl _ _, optDef zβ rfl⟩
    refine ⟨⟨true, .none rfl, fun h w => optUndef h, fun zβ za zw zc => ?_⟩, ?_⟩
    · exact ld_3 rfl ((show za.eval (.tmp 13) = za.tmps.getD 13 undef from rfl).trans (optVal (zc.dep 8 13 (by kernel_rfl)) rfl rfl)) (bkeeps zc.below _ _ ((hB16.cell 1).trans rfl)) ⟨_, rfl, Below.refl _ _, optDef zβ rfl⟩
    refine ⟨⟨true, .none rfl, fun h w => optUndef h, fun zβ za zw zc => ?_⟩, ?_⟩
    · exact fld_75_0 rfl (zc.kn.ev rfl) ⟨_, rfl, Below.refl _ _, optDef zβ rfl⟩
    refine ⟨⟨true, .none rfl, fun h w => optUndef h, fun zβ za zw zc => ?_⟩, ?_⟩
    · exact ixa_26 (k := 1) rfl ((show za.eval (.tmp 15) = za.tmps.getD 15 undef from rfl).trans (optVal (zc.dep 10 15 (by kernel_rfl)) rfl rfl)) (zc.kn.ev rfl) (by decide) ⟨_, rfl, Below.refl _ _, optDef zβ rfl⟩
    refine ⟨⟨true, .none rfl, fun h w => optUndef h, fun zβ za zw zc => ?_⟩, ?_⟩
    · exact ld_3 rfl ((show za.eval (.tmp 16) = za.tmps.getD 16 undef from rfl).trans (optVal (zc.dep 11 16 (by kernel_rfl)) rfl rfl)) (bkeeps zc.below _ _ ((hB11.cell 1).trans rfl)) ⟨_, rfl, Below.refl _ _, optDef zβ rfl⟩
    refine ⟨⟨true, .none rfl, fun h w => optUndef h, fun zβ za zw zc => ?_⟩, ?_⟩
    · exact wp_call (by kernel_rfl) rfl (hv2 ((show za.eval (.tmp 14) = za.tmps.getD 14 undef from rfl).trans (optVal (zc.dep 9 14 (by kernel_rfl)) rfl rfl)) ((show za.eval (.tmp 17) = za.tmps.getD 17 undef from rfl).trans (optVal (zc.dep 12 17 (by kernel_rfl)) rfl rfl))) (cmp_any x.b1 y.b1 _) (fun v w' h => ⟨v, rfl, h.2, optDef zβ h.1⟩)
    refine ⟨⟨true, .none rfl, fun h w => optUndef h, fun zβ za zw zc => ?_⟩, ?_⟩
    · exact fld_75_1 rfl (zc.kn.ev rfl) ⟨_, rfl, Below.refl _ _, optDef zβ rfl⟩
    refine ⟨⟨true, .none rfl, fun h w => optUndef h, fun zβ za zw zc => ?_⟩, ?_⟩
    · exact ld_3 rfl ((show za.eval (.tmp 19) = za.tmps.getD 19 undef from rfl).trans (optVal (zc.dep 14 19 (by kernel_rfl)) rfl rfl)) (bkeeps zc.below _ _ ((hB16.cell 2).trans rfl)) ⟨_, rfl, Below.refl _ _, optDef zβ rfl⟩
    refine ⟨⟨true, .none rfl, fun h w => optUndef h, fun zβ za zw zc => ?_⟩, ?_⟩
    · exact fld_75_1 rfl (zc.kn.ev rfl) ⟨_, rfl, Below.refl _ _, optDef zβ rfl⟩
    refine ⟨⟨true, .none rfl, fun h w => optUndef h, fun zβ za zw zc => ?_⟩, ?_⟩
    · exact ld_3 rfl ((show za.eval (.tmp 21) = za.tmps.getD 21 undef from rfl).trans (optVal (zc.dep 16 21 (by kernel_rfl)) rfl rfl)) (bkeeps zc.below _ _ ((hB11.cell 2).trans rfl)) ⟨_, rfl, Below.refl _ _, optDef zβ rfl⟩
    refine ⟨⟨true, .none rfl, fun h w => optUndef h, fun zβ za zw zc => ?_⟩, ?_⟩
    · exact wp_call (by kernel_rfl) rfl (hv2 ((show za.eval (.tmp 20) = za.tmps.getD 20 undef from rfl).trans (optVal (zc.dep 15 20 (by kernel_rfl)) rfl rfl)) ((show za.eval (.tmp 22) = za.tmps.getD 22 undef from rfl).trans (optVal (zc.dep 17 22 (by kernel_rfl)) rfl rfl))) (cmp_any x.id y.id _) (fun v w' h => ⟨v, rfl, h.2, optDef zβ h.1⟩)
    refine ⟨⟨true, .none rfl, fun h w => optUndef h, fun zβ za zw zc => ?_⟩, ?_⟩
    · exact fld_75_2 rfl (zc.kn.ev rfl) ⟨_, rfl, Below.refl _ _, optDef zβ rfl⟩
    refine ⟨⟨true, .none rfl, fun h w => optUndef h, fun zβ za zw zc => ?_⟩, ?_⟩
    · exact ld_3 rfl ((show za.eval (.tmp 24) = za.tmps.getD 24 undef from rfl).trans (optVal (zc.dep 19 24 (by kernel_rfl)) rfl rfl)) (bkeeps zc.below _ _ ((hB16.cell 3).trans rfl)) ⟨_, rfl, Below.refl _ _, optDef zβ rfl⟩
    refine ⟨⟨true, .none rfl, fun h w => optUndef h, fun zβ za zw zc => ?_⟩, ?_⟩
    · exact fld_75_2 rfl (zc.kn.ev rfl) ⟨_, rfl, Below.refl _ _, optDef zβ rfl⟩
    refine ⟨⟨true, .none rfl, fun h w => optUndef h, fun zβ za zw zc => ?_⟩, ?_⟩
    · exact ld_3 rfl ((show za.eval (.tmp 26) = za.tmps.getD 26 undef from rfl).trans (optVal (zc.dep 21 26 (by kernel_rfl)) rfl rfl)) (bkeeps zc.below _ _ ((hB11.cell 3).trans rfl)) ⟨_, rfl, Below.refl _ _, optDef zβ rfl⟩
    refine ⟨⟨true, .none rfl, fun h w => optUndef h, fun zβ za zw zc => ?_⟩, ?_⟩
    · exact wp_call (by kernel_rfl) rfl (hv2 ((show za.eval (.tmp 25) = za.tmps.getD 25 undef from rfl).trans (optVal (zc.dep 20 25 (by kernel_rfl)) rfl rfl)) ((show za.eval (.tmp 27) = za.tmps.getD 27 undef from rfl).trans (optVal (zc.dep 22 27 (by kernel_rfl)) rfl rfl))) (cmp_any x.tm y.tm _) (fun v w' h => ⟨v, rfl, h.2, optDef zβ h.1⟩)
    refine ⟨⟨true, .none rfl, fun h w => optUndef h, fun zβ za zw zc => ?_⟩, ?_⟩
    · exact row_68_4 rfl ((show za.eval (.tmp 11) = za.tmps.getD 11 undef from rfl).trans (optVal (zc.dep 6 11 (by kernel_rfl)) rfl rfl)) ((show za.eval (.tmp 18) = za.tmps.getD 18 undef from rfl).trans (optVal (zc.dep 13 18 (by kernel_rfl)) rfl rfl)) ((show za.eval (.tmp 23) = za.tmps.getD 23 undef from rfl).trans (optVal (zc.dep 18 23 (by kernel_rfl)) rfl rfl)) ((show za.eval (.tmp 28) = za.tmps.getD 28 undef from rfl).trans (optVal (zc.dep 23 28 (by kernel_rfl)) rfl rfl)) ⟨_, rfl, balloc _ _, optDef zβ ⟨_, rfl, nums_blk (l := [(cmp3 x.b0 y.b0), (cmp3 x.b1 y.b1), (cmp3 x.id y.id), (cmp3 x.tm y.tm)]) (Blk.new' rfl)⟩⟩
    refine ⟨⟨true, .none rfl, fun h w => optUndef h, fun zβ za zw zc => ?_⟩, ?_⟩
    · obtain ⟨g, e, zn⟩ := (optMem (zc.dep 24 29 (by kernel_rfl)) rfl rfl)
      exact wp_call (by kernel_rfl) rfl (hv1 ((show za.eval (.tmp 29) = za.tmps.getD 29 undef from rfl).trans e)) (or_any [(cmp3 x.b0 y.b0), (cmp3 x.b1 y.b1), (cmp3 x.id y.id), (cmp3 x.tm y.tm)] _ _ 4 zn (by simp)) (fun v w' h => ⟨v, rfl, h.2, optDef zβ h.1⟩)
    refine ⟨⟨true, .none rfl, fun h w => optUndef h, fun zβ za zw zc => ?_⟩, ?_⟩
    · exact wp_assign rfl ((show za.eval (.tmp 30) = za.tmps.getD 30 undef from rfl).trans (optVal (zc.dep 25 30 (by kernel_rfl)) rfl rfl)) ⟨_, rfl, Below.refl _ _, optDef zβ rfl⟩
    exact trivial
  · intro za w21 zh hb22 zu
    have zh := zh.cons (d := 4) (v := .int .i64 ((firstI [(cmp3 x.b0 y.b0), (cmp3 x.b1 y.b1), (cmp3 x.id y.id), (cmp3 x.tm y.tm)]))) (optVal (zu 26 4 (by kernel_rfl)) rfl rfl)
    clear zu
    refine (show WE _ [(0, .agg #[.int .i64 x.b0, .int .i64 x.b1, .int .i64 x.id, .int .i64 x.tm]), (1, .agg #[.int .i64 y.b0, .int .i64 y.b1, .int .i64 y.id, .int .i64 y.tm]), (2, .pointer (some ⟨g2, 0, none⟩)), (3, .pointer (some ⟨g9, 0, none⟩)), (4, .int .i64 ((firstI [(cmp3 x.b0 y.b0), (cmp3 x.b1 y.b1), (cmp3 x.id y.id), (cmp3 x.tm y.tm)])))] w21 _ .normal from ?_) za (zh.sub ⟨rfl, rfl, rfl, rfl, rfl, trivial⟩)
    refine WE.next ?_
    refine WC.ret ?_
    refine WE.ret1 rfl rfl ?_
    have hb23 : Below w.heap.size w w21 := (bstep (bstep hb5 hb12) hb22)
    exact ⟨_, rfl, congrArg _ (firstI_or _ _ _ _), hb23⟩

end Go.Proofs.Ytjhkoiggeepajaa
