/- Variables moved: the program and the document. -/
import Derived.Test.YtgechlgdnnpoeaaSubFind
import Derived.Test.YtgechlgdnnpoeaaRng
namespace Go.Proofs.Ytgechlgdnnpoeaa
open Go.RowKit Go

/-- A variable's number, moved, where that may be. -/
def mvOk (v m : Int) : Bool := if 0 ≤ m then decide (m ≤ 2147483647) && decide (v ≤ 2147483647 - m) else decide (0 ≤ v + m) && decide (v + m ≤ 2147483647)
def mvTo (v m : Int) : Int := if mvOk v m then v + m else v
def mvF (f m : Int) : Int := if f < 0 then -1 - mvTo (-1 - f) m else f
mutual
def T.mv (m : Int) : T → T
  | .mk f l => .mk (mvF f m) (T.mvL m l)
def T.mvL (m : Int) : List T → List T
  | [] => []
  | t :: r => t.mv m :: T.mvL m r
end
theorem T.mvL_eq (m : Int) : ∀ l : List T, T.mvL m l = l.map (T.mv m)
  | [] => rfl
  | t :: r => by rw [T.mvL, T.mvL_eq m r]; rfl
theorem mv_mk (m f : Int) (l : List T) : (T.mk f l).mv m = .mk (mvF f m) (l.map (T.mv m)) := by rw [T.mv, T.mvL_eq]
theorem take_mv {m : Int} {l : List T} {k : Nat} (h : k < l.length) : (l.take k).map (T.mv m) ++ [(tget l k).mv m] = (l.take (k + 1)).map (T.mv m) := by
  rw [List.take_succ_eq_append_getElem h, List.map_append, tget_lt h]; rfl
theorem mvOk_iff {v m : Int} : mvOk v m = true ↔ (0 ≤ m ∧ m ≤ 2147483647 ∧ v ≤ 2147483647 - m) ∨ (m < 0 ∧ 0 ≤ v + m ∧ v + m ≤ 2147483647) := by
  unfold mvOk
  split <;> simp <;> omega
theorem mvTo_range {v m : Int} (h0 : 0 ≤ v) (h1 : v ≤ 9223372036854775807) : 0 ≤ mvTo v m ∧ mvTo v m ≤ 9223372036854775807 := by
  unfold mvTo
  split
  · have := mvOk_iff.1 ‹_›; omega
  · omega
theorem mvF_i64 {f m : Int} (h : I64 f) : I64 (mvF f m) := by
  unfold I64 at *
  unfold mvF
  split
  · have := mvTo_range (v := -1 - f) (m := m) (by omega) (by omega); omega
  · exact h
theorem mvF_neg {f m : Int} (h : f < 0) : mvF f m = -1 - mvTo (-1 - f) m := by unfold mvF; rw [if_pos h]
theorem mvF_pos {f m : Int} (h : ¬ f < 0) : mvF f m = f := by unfold mvF; rw [if_neg h]
theorem mvTo_yes {v m : Int} (h : mvOk v m = true) : mvTo v m = v + m := by unfold mvTo; rw [if_pos h]
theorem mvTo_no {v m : Int} (h : ¬ mvOk v m = true) : mvTo v m = v := by unfold mvTo; rw [if_neg h]
set_option maxRecDepth 100000 in
theorem move1_any (v m : Int) (w : World) (g : Nat) (h0 : 0 ≤ v) (h1 : v ≤ 9223372036854775807) (hm : I64 m) (hg : Blk w g 3 #[.int .i64 m]) : Calls Try.prog 52 #[.int .i64 v, .pointer (some ⟨g, 0, none⟩)] w (Ret fun v' w' => v' = .int .i64 (mvTo v m) ∧ Below w.heap.size w w') := by
  have hgl := hg.lt
  have hm' := hm
  unfold I64 at hm
  refine Calls.walk (l := [.int .i64 v, .pointer (some ⟨g, 0, none⟩)]) Try.func52 rfl (by kernel_rfl) ?_
  refine WC.sub (K' := [(0, .int .i64 v), (1, .pointer (some ⟨g, 0, none⟩))]) ⟨rfl, rfl, trivial⟩ ?_
  refine WC.seq ?_
  refine WC.region ?_
  refine WL.val (.int .i64 0) rfl rfl rfl (fun za zC zh zk => wp_assign rfl (zh.ev rfl) zk) ?_
  refine WL.nil (WE.sub (K' := [(0, .int .i64 v), (1, .pointer (some ⟨g, 0, none⟩)), (3, .int .i64 0)]) ⟨rfl, rfl, rfl, trivial⟩ ?_)
  refine WE.next ?_
  refine WC.seq ?_
  refine WC.block ?_
  refine WC.seq ?_
  refine WC.region ?_
  refine WL.val (.int .i64 m) rfl rfl rfl (fun za zC zh zk => ld_3 rfl (zh.ev rfl) ((hg.cell 0).trans rfl) zk) ?_
  refine WL.val (.bool ((decide ((0 : Int) ≤ (m : Int))))) rfl rfl rfl (fun za zC zh zk => geq_3 rfl (zh.ev rfl) (zh.ev rfl) zk) ?_
  refine WL.val (.bool ((decide ((0 : Int) ≤ (m : Int))))) rfl rfl rfl (fun za zC zh zk => wp_move rfl (zh.ev rfl) zk) ?_
  refine bool_split ((decide ((0 : Int) ≤ (m : Int)))) (fun h1 => ?_) (fun h1 => ?_)
  · refine WL.sub (K' := [(0, .int .i64 v), (1, .pointer (some ⟨g, 0, none⟩)), (3, .int .i64 0), (5, .int .i64 m), (6, .bool ((decide ((0 : Int) ≤ (m : Int))))), (7, .bool true)]) ⟨rfl, rfl, rfl, rfl, rfl, (congrArg (fun z => some (Value.bool z)) h1), trivial⟩ ?_
    have h1 : (0 : Int) ≤ (m : Int) := by simpa using h1
    refine WL.want (d := 7) rfl rfl rfl ?_
    refine WL.val (.int .i64 m) rfl rfl rfl (fun za zC zh zk => ld_3 rfl (zh.ev rfl) ((hg.cell 0).trans rfl) zk) ?_
    refine WL.want (d := 7) rfl rfl rfl ?_
    refine WL.val (.bool ((decide ((2147483647 : Int) < (m : Int))))) rfl rfl rfl (fun za zC zh zk => gtr_3 rfl (zh.ev rfl) (zh.ev rfl) zk) ?_
    refine WL.want (d := 7) rfl rfl rfl ?_
    refine WL.val (.bool ((decide ((2147483647 : Int) < (m : Int))))) rfl rfl rfl (fun za zC zh zk => wp_move rfl (zh.ev rfl) zk) ?_
    refine bool_split ((decide ((2147483647 : Int) < (m : Int)))) (fun h2 => ?_) (fun h2 => ?_)
    · refine WL.sub (K' := [(0, .int .i64 v), (1, .pointer (some ⟨g, 0, none⟩)), (3, .int .i64 0), (5, .int .i64 m), (6, .bool ((decide ((0 : Int) ≤ (m : Int))))), (7, .bool true), (8, .int .i64 m), (9, .bool ((decide ((2147483647 : Int) < (m : Int))))), (10, .bool true)]) ⟨rfl, rfl, rfl, rfl, rfl, rfl, rfl, rfl, (congrArg (fun z => some (Value.bool z)) h2), trivial⟩ ?_
      have h2 : (2147483647 : Int) < (m : Int) := by simpa using h2
      refine WL.skip (d := 10) rfl rfl rfl rfl rfl ?_
      refine WL.skip (d := 10) rfl rfl rfl rfl rfl ?_
      refine WL.skip (d := 10) rfl rfl rfl rfl rfl ?_
      refine WL.skip (d := 10) rfl rfl rfl rfl rfl ?_
      refine WL.want (d := 7) rfl rfl rfl ?_
      refine WL.val (.bool true) rfl rfl rfl (fun za zC zh zk => wp_pickT rfl (zh.ev rfl) (zh.ev rfl) zk) ?_
      refine WL.val (.bool true) rfl rfl rfl (fun za zC zh zk => wp_pickT rfl (zh.ev rfl) (zh.ev rfl) zk) ?_
      refine WL.val (.bool true) rfl rfl rfl (fun za zC zh zk => wp_assign rfl (zh.ev rfl) zk) ?_
      refine WL.nil (WE.sub (K' := [(0, .int .i64 v), (1, .pointer (some ⟨g, 0, none⟩)), (3, .int .i64 0), (4, .bool true)]) ⟨rfl, rfl, rfl, rfl, trivial⟩ ?_)
      refine WE.next ?_
      refine WC.condT rfl rfl ?_
      refine WC.seq ?_
      refine WC.region ?_
      refine WL.val (.int .i64 v) rfl rfl rfl (fun za zC zh zk => wp_move rfl (zh.ev rfl) zk) ?_
      refine WL.val (.int .i64 v) rfl rfl rfl (fun za zC zh zk => wp_assign rfl (zh.ev rfl) zk) ?_
      refine WL.nil (WE.sub (K' := [(0, .int .i64 v), (1, .pointer (some ⟨g, 0, none⟩)), (3, .int .i64 v), (4, .bool true)]) ⟨rfl, rfl, rfl, rfl, trivial⟩ ?_)
      refine WE.next ?_
      refine WC.ret ?_
      refine WE.blockRet ?_
      refine WE.thenRet ?_
      refine WE.ret1 rfl rfl ?_
      exact ⟨_, rfl, congrArg (Value.int .i64) (by rw [mvTo_no (fun h => by have z := mvOk_iff.1 h; omega)]), (Below.refl _ _)⟩
    · refine WL.sub (K' := [(0, .int .i64 v), (1, .pointer (some ⟨g, 0, none⟩)), (3, .int .i64 0), (5, .int .i64 m), (6, .bool ((decide ((0 : Int) ≤ (m : Int))))), (7, .bool true), (8, .int .i64 m), (9, .bool ((decide ((2147483647 : Int) < (m : Int))))), (10, .bool false)]) ⟨rfl, rfl, rfl, rfl, rfl, rfl, rfl, rfl, (congrArg (fun z => some (Value.bool z)) h2), trivial⟩ ?_
      have h2 : ¬ ((2147483647 : Int) < (m : Int)) := by simpa using h2
      refine WL.want (d := 10) rfl rfl rfl ?_
      refine WL.val (.int .i64 v) rfl rfl rfl (fun za zC zh zk => wp_move rfl (zh.ev rfl) zk) ?_
      refine WL.want (d := 10) rfl rfl rfl ?_
      refine WL.val (.int .i64 m) rfl rfl rfl (fun za zC zh zk => ld_3 rfl (zh.ev rfl) ((hg.cell 0).trans rfl) zk) ?_
      refine WL.want (d := 10) rfl rfl rfl ?_
      refine WL.val (.int .i64 ((2147483647 - m))) rfl rfl rfl (fun za zC zh zk => subb_3 rfl (zh.ev rfl) (zh.ev rfl) (wrap_eq (by omega) (by omega) (by omega)) zk) ?_
      refine WL.want (d := 10) rfl rfl rfl ?_
      refine WL.val (.bool ((decide (((2147483647 - m) : Int) < (v : Int))))) rfl rfl rfl (fun za zC zh zk => gtr_3 rfl (zh.ev rfl) (zh.ev rfl) zk) ?_
      refine WL.want (d := 7) rfl rfl rfl ?_
      refine WL.val (.bool ((decide (((2147483647 - m) : Int) < (v : Int))))) rfl rfl rfl (fun za zC zh zk => wp_pickF rfl (zh.ev rfl) (zh.ev rfl) zk) ?_
      refine WL.val (.bool ((decide (((2147483647 - m) : Int) < (v : Int))))) rfl rfl rfl (fun za zC zh zk => wp_pickT rfl (zh.ev rfl) (zh.ev rfl) zk) ?_
      refine WL.val (.bool ((decide (((2147483647 - m) : Int) < (v : Int))))) rfl rfl rfl (fun za zC zh zk => wp_assign rfl (zh.ev rfl) zk) ?_
      refine WL.nil (WE.sub (K' := [(0, .int .i64 v), (1, .pointer (some ⟨g, 0, none⟩)), (3, .int .i64 0), (4, .bool ((decide (((2147483647 - m) : Int) < (v : Int)))))]) ⟨rfl, rfl, rfl, rfl, trivial⟩ ?_)
      refine WE.next ?_
      refine WC.cond rfl (fun h3 => ?_) (fun h3 => ?_)
      · have h3 : ((2147483647 - m) : Int) < (v : Int) := by simpa using h3
        refine WC.seq ?_
        refine WC.region ?_
        refine WL.val (.int .i64 v) rfl rfl rfl (fun za zC zh zk => wp_move rfl (zh.ev rfl) zk) ?_
        refine WL.val (.int .i64 v) rfl rfl rfl (fun za zC zh zk => wp_assign rfl (zh.ev rfl) zk) ?_
        refine WL.nil (WE.sub (K' := [(0, .int .i64 v), (1, .pointer (some ⟨g, 0, none⟩)), (3, .int .i64 v), (4, .bool ((decide (((2147483647 - m) : Int) < (v : Int)))))]) ⟨rfl, rfl, rfl, rfl, trivial⟩ ?_)
        refine WE.next ?_
        refine WC.ret ?_
        refine WE.blockRet ?_
        refine WE.thenRet ?_
        refine WE.ret1 rfl rfl ?_
        exact ⟨_, rfl, congrArg (Value.int .i64) (by rw [mvTo_no (fun h => by have z := mvOk_iff.1 h; omega)]), (Below.refl _ _)⟩
      · have h3 : ¬ (((2147483647 - m) : Int) < (v : Int)) := by simpa using h3
        refine WC.seq ?_
        refine WC.region ?_
        refine WL.val (.int .i64 m) rfl rfl rfl (fun za zC zh zk => ld_3 rfl (zh.ev rfl) ((hg.cell 0).trans rfl) zk) ?_
        refine WL.val (.bool ((decide ((m : Int) < (0 : Int))))) rfl rfl rfl (fun za zC zh zk => lss_3 rfl (zh.ev rfl) (zh.ev rfl) zk) ?_
        refine WL.val (.bool ((decide ((m : Int) < (0 : Int))))) rfl rfl rfl (fun za zC zh zk => wp_move rfl (zh.ev rfl) zk) ?_
        refine bool_split ((decide ((m : Int) < (0 : Int)))) (fun h4 => ?_) (fun h4 => ?_)
        · refine WL.sub (K' := [(0, .int .i64 v), (1, .pointer (some ⟨g, 0, none⟩)), (3, .int .i64 0), (4, .bool ((decide (((2147483647 - m) : Int) < (v : Int))))), (19, .int .i64 m), (20, .bool ((decide ((m : Int) < (0 : Int))))), (21, .bool true)]) ⟨rfl, rfl, rfl, rfl, rfl, rfl, (congrArg (fun z => some (Value.bool z)) h4), trivial⟩ ?_
          have h4 : (m : Int) < (0 : Int) := by simpa using h4
          refine WL.want (d := 21) rfl rfl rfl ?_
          refine WL.val (.int .i64 v) rfl rfl rfl (fun za zC zh zk => wp_move rfl (zh.ev rfl) zk) ?_
          refine WL.want (d := 21) rfl rfl rfl ?_
          refine WL.val (.int .i64 m) rfl rfl rfl (fun za zC zh zk => ld_3 rfl (zh.ev rfl) ((hg.cell 0).trans rfl) zk) ?_
          refine WL.want (d := 21) rfl rfl rfl ?_
          refine WL.val (.int .i64 ((v + m))) rfl rfl rfl (fun za zC zh zk => addb_3 rfl (zh.ev rfl) (zh.ev rfl) (wrap_eq (by omega) (by omega) (by omega)) zk) ?_
          refine WL.want (d := 21) rfl rfl rfl ?_
          refine WL.val (.bool ((decide (((v + m) : Int) < (0 : Int))))) rfl rfl rfl (fun za zC zh zk => lss_3 rfl (zh.ev rfl) (zh.ev rfl) zk) ?_
          refine WL.want (d := 21) rfl rfl rfl ?_
          refine WL.val (.bool ((decide (((v + m) : Int) < (0 : Int))))) rfl rfl rfl (fun za zC zh zk => wp_move rfl (zh.ev rfl) zk) ?_
          refine bool_split ((decide (((v + m) : Int) < (0 : Int)))) (fun h5 => ?_) (fun h5 => ?_)
          · refine WL.sub (K' := [(0, .int .i64 v), (1, .pointer (some ⟨g, 0, none⟩)), (3, .int .i64 0), (4, .bool ((decide (((2147483647 - m) : Int) < (v : Int))))), (19, .int .i64 m), (20, .bool ((decide ((m : Int) < (0 : Int))))), (21, .bool true), (22, .int .i64 v), (23, .int .i64 m), (24, .int .i64 ((v + m))), (25, .bool ((decide (((v + m) : Int) < (0 : Int))))), (26, .bool true)]) ⟨rfl, rfl, rfl, rfl, rfl, rfl, rfl, rfl, rfl, rfl, rfl, (congrArg (fun z => some (Value.bool z)) h5), trivial⟩ ?_
            have h5 : ((v + m) : Int) < (0 : Int) := by simpa using h5
            refine WL.skip (d := 26) rfl rfl rfl rfl rfl ?_
            refine WL.skip (d := 26) rfl rfl rfl rfl rfl ?_
            refine WL.skip (d := 26) rfl rfl rfl rfl rfl ?_
            refine WL.skip (d := 26) rfl rfl rfl rfl rfl ?_
            refine WL.want (d := 21) rfl rfl rfl ?_
            refine WL.val (.bool true) rfl rfl rfl (fun za zC zh zk => wp_pickT rfl (zh.ev rfl) (zh.ev rfl) zk) ?_
            refine WL.val (.bool true) rfl rfl rfl (fun za zC zh zk => wp_pickT rfl (zh.ev rfl) (zh.ev rfl) zk) ?_
            refine WL.val (.bool true) rfl rfl rfl (fun za zC zh zk => wp_assign rfl (zh.ev rfl) zk) ?_
            refine WL.nil (WE.sub (K' := [(0, .int .i64 v), (1, .pointer (some ⟨g, 0, none⟩)), (3, .int .i64 0), (4, .bool ((decide (((2147483647 - m) : Int) < (v : Int))))), (18, .bool true)]) ⟨rfl, rfl, rfl, rfl, rfl, trivial⟩ ?_)
            refine WE.next ?_
            refine WC.condT rfl rfl ?_
            refine WC.seq ?_
            refine WC.region ?_
            refine WL.val (.int .i64 v) rfl rfl rfl (fun za zC zh zk => wp_move rfl (zh.ev rfl) zk) ?_
            refine WL.val (.int .i64 v) rfl rfl rfl (fun za zC zh zk => wp_assign rfl (zh.ev rfl) zk) ?_
            refine WL.nil (WE.sub (K' := [(0, .int .i64 v), (1, .pointer (some ⟨g, 0, none⟩)), (3, .int .i64 v), (4, .bool ((decide (((2147483647 - m) : Int) < (v : Int))))), (18, .bool true)]) ⟨rfl, rfl, rfl, rfl, rfl, trivial⟩ ?_)
            refine WE.next ?_
            refine WC.ret ?_
            refine WE.blockRet ?_
            refine WE.thenRet ?_
            refine WE.ret1 rfl rfl ?_
            exact ⟨_, rfl, congrArg (Value.int .i64) (by rw [mvTo_no (fun h => by have z := mvOk_iff.1 h; omega)]), (Below.refl _ _)⟩
          · refine WL.sub (K' := [(0, .int .i64 v), (1, .pointer (some ⟨g, 0, none⟩)), (3, .int .i64 0), (4, .bool ((decide (((2147483647 - m) : Int) < (v : Int))))), (19, .int .i64 m), (20, .bool ((decide ((m : Int) < (0 : Int))))), (21, .bool true), (22, .int .i64 v), (23, .int .i64 m), (24, .int .i64 ((v + m))), (25, .bool ((decide (((v + m) : Int) < (0 : Int))))), (26, .bool false)]) ⟨rfl, rfl, rfl, rfl, rfl, rfl, rfl, rfl, rfl, rfl, rfl, (congrArg (fun z => some (Value.bool z)) h5), trivial⟩ ?_
            have h5 : ¬ (((v + m) : Int) < (0 : Int)) := by simpa using h5
            refine WL.want (d := 26) rfl rfl rfl ?_
            refine WL.val (.int .i64 v) rfl rfl rfl (fun za zC zh zk => wp_move rfl (zh.ev rfl) zk) ?_
            refine WL.want (d := 26) rfl rfl rfl ?_
            refine WL.val (.int .i64 m) rfl rfl rfl (fun za zC zh zk => ld_3 rfl (zh.ev rfl) ((hg.cell 0).trans rfl) zk) ?_
            refine WL.want (d := 26) rfl rfl rfl ?_
            refine WL.val (.int .i64 ((v + m))) rfl rfl rfl (fun za zC zh zk => addb_3 rfl (zh.ev rfl) (zh.ev rfl) (wrap_eq (by omega) (by omega) (by omega)) zk) ?_
            refine WL.want (d := 26) rfl rfl rfl ?_
            refine WL.val (.bool ((decide ((2147483647 : Int) < ((v + m) : Int))))) rfl rfl rfl (fun za zC zh zk => gtr_3 rfl (zh.ev rfl) (zh.ev rfl) zk) ?_
            refine WL.want (d := 21) rfl rfl rfl ?_
            refine WL.val (.bool ((decide ((2147483647 : Int) < ((v + m) : Int))))) rfl rfl rfl (fun za zC zh zk => wp_pickF rfl (zh.ev rfl) (zh.ev rfl) zk) ?_
            refine WL.val (.bool ((decide ((2147483647 : Int) < ((v + m) : Int))))) rfl rfl rfl (fun za zC zh zk => wp_pickT rfl (zh.ev rfl) (zh.ev rfl) zk) ?_
            refine WL.val (.bool ((decide ((2147483647 : Int) < ((v + m) : Int))))) rfl rfl rfl (fun za zC zh zk => wp_assign rfl (zh.ev rfl) zk) ?_
            refine WL.nil (WE.sub (K' := [(0, .int .i64 v), (1, .pointer (some ⟨g, 0, none⟩)), (3, .int .i64 0), (4, .bool ((decide (((2147483647 - m) : Int) < (v : Int))))), (18, .bool ((decide ((2147483647 : Int) < ((v + m) : Int)))))]) ⟨rfl, rfl, rfl, rfl, rfl, trivial⟩ ?_)
            refine WE.next ?_
            refine WC.cond rfl (fun h6 => ?_) (fun h6 => ?_)
            · have h6 : (2147483647 : Int) < ((v + m) : Int) := by simpa using h6
              refine WC.seq ?_
              refine WC.region ?_
              refine WL.val (.int .i64 v) rfl rfl rfl (fun za zC zh zk => wp_move rfl (zh.ev rfl) zk) ?_
              refine WL.val (.int .i64 v) rfl rfl rfl (fun za zC zh zk => wp_assign rfl (zh.ev rfl) zk) ?_
              refine WL.nil (WE.sub (K' := [(0, .int .i64 v), (1, .pointer (some ⟨g, 0, none⟩)), (3, .int .i64 v), (4, .bool ((decide (((2147483647 - m) : Int) < (v : Int))))), (18, .bool ((decide ((2147483647 : Int) < ((v + m) : Int)))))]) ⟨rfl, rfl, rfl, rfl, rfl, trivial⟩ ?_)
              refine WE.next ?_
              refine WC.ret ?_
              refine WE.blockRet ?_
              refine WE.thenRet ?_
              refine WE.ret1 rfl rfl ?_
              exact ⟨_, rfl, congrArg (Value.int .i64) (by rw [mvTo_no (fun h => by have z := mvOk_iff.1 h; omega)]), (Below.refl _ _)⟩
            · have h6 : ¬ ((2147483647 : Int) < ((v + m) : Int)) := by simpa using h6
              refine WC.skip ?_
              refine WE.blockNormal ?_
              refine WE.next ?_
              refine WC.seq ?_
              refine WC.region ?_
              refine WL.val (.int .i64 v) rfl rfl rfl (fun za zC zh zk => wp_move rfl (zh.ev rfl) zk) ?_
              refine WL.val (.int .i64 m) rfl rfl rfl (fun za zC zh zk => ld_3 rfl (zh.ev rfl) ((hg.cell 0).trans rfl) zk) ?_
              refine WL.val (.int .i64 ((v + m))) rfl rfl rfl (fun za zC zh zk => addb_3 rfl (zh.ev rfl) (zh.ev rfl) (wrap_eq (by omega) (by omega) (by omega)) zk) ?_
              refine WL.val (.int .i64 ((v + m))) rfl rfl rfl (fun za zC zh zk => wp_assign rfl (zh.ev rfl) zk) ?_
              refine WL.nil (WE.sub (K' := [(0, .int .i64 v), (1, .pointer (some ⟨g, 0, none⟩)), (3, .int .i64 ((v + m))), (4, .bool ((decide (((2147483647 - m) : Int) < (v : Int))))), (18, .bool ((decide ((2147483647 : Int) < ((v + m) : Int)))))]) ⟨rfl, rfl, rfl, rfl, rfl, trivial⟩ ?_)
              refine WE.next ?_
              refine WC.ret ?_
              refine WE.ret1 rfl rfl ?_
              exact ⟨_, rfl, congrArg (Value.int .i64) (by rw [mvTo_yes (mvOk_iff.2 (by omega))]), (Below.refl _ _)⟩
        · refine WL.sub (K' := [(0, .int .i64 v), (1, .pointer (some ⟨g, 0, none⟩)), (3, .int .i64 0), (4, .bool ((decide (((2147483647 - m) : Int) < (v : Int))))), (19, .int .i64 m), (20, .bool ((decide ((m : Int) < (0 : Int))))), (21, .bool false)]) ⟨rfl, rfl, rfl, rfl, rfl, rfl, (congrArg (fun z => some (Value.bool z)) h4), trivial⟩ ?_
          have h4 : ¬ ((m : Int) < (0 : Int)) := by simpa using h4
          refine WL.skip (d := 21) rfl rfl rfl rfl rfl ?_
          refine WL.skip (d := 21) rfl rfl rfl rfl rfl ?_
          refine WL.skip (d := 21) rfl rfl rfl rfl rfl ?_
          refine WL.skip (d := 21) rfl rfl rfl rfl rfl ?_
          refine WL.skip (d := 21) rfl rfl rfl rfl rfl ?_
          refine WL.skipU (d := 26) rfl rfl rfl rfl ?_
          refine WL.skipU (d := 26) rfl rfl rfl rfl ?_
          refine WL.skipU (d := 26) rfl rfl rfl rfl ?_
          refine WL.skipU (d := 26) rfl rfl rfl rfl ?_
          refine WL.skip (d := 21) rfl rfl rfl rfl rfl ?_
          refine WL.val (.bool false) rfl rfl rfl (fun za zC zh zk => wp_pickF rfl (zh.ev rfl) (zh.ev rfl) zk) ?_
          refine WL.val (.bool false) rfl rfl rfl (fun za zC zh zk => wp_assign rfl (zh.ev rfl) zk) ?_
          refine WL.nil (WE.sub (K' := [(0, .int .i64 v), (1, .pointer (some ⟨g, 0, none⟩)), (3, .int .i64 0), (4, .bool ((decide (((2147483647 - m) : Int) < (v : Int))))), (18, .bool false)]) ⟨rfl, rfl, rfl, rfl, rfl, trivial⟩ ?_)
          refine WE.next ?_
          refine WC.condF rfl rfl ?_
          refine WC.skip ?_
          refine WE.blockNormal ?_
          refine WE.next ?_
          refine WC.seq ?_
          refine WC.region ?_
          refine WL.val (.int .i64 v) rfl rfl rfl (fun za zC zh zk => wp_move rfl (zh.ev rfl) zk) ?_
          refine WL.val (.int .i64 m) rfl rfl rfl (fun za zC zh zk => ld_3 rfl (zh.ev rfl) ((hg.cell 0).trans rfl) zk) ?_
          refine WL.val (.int .i64 ((v + m))) rfl rfl rfl (fun za zC zh zk => addb_3 rfl (zh.ev rfl) (zh.ev rfl) (wrap_eq (by omega) (by omega) (by omega)) zk) ?_
          refine WL.val (.int .i64 ((v + m))) rfl rfl rfl (fun za zC zh zk => wp_assign rfl (zh.ev rfl) zk) ?_
          refine WL.nil (WE.sub (K' := [(0, .int .i64 v), (1, .pointer (some ⟨g, 0, none⟩)), (3, .int .i64 ((v + m))), (4, .bool ((decide (((2147483647 - m) : Int) < (v : Int))))), (18, .bool false)]) ⟨rfl, rfl, rfl, rfl, rfl, trivial⟩ ?_)
          refine WE.next ?_
          refine WC.ret ?_
          refine WE.ret1 rfl rfl ?_
          exact ⟨_, rfl, congrArg (Value.int .i64) (by rw [mvTo_yes (mvOk_iff.2 (by omega))]), (Below.refl _ _)⟩
  · refine WL.sub (K' := [(0, .int .i64 v), (1, .pointer (some ⟨g, 0, none⟩)), (3, .int .i64 0), (5, .int .i64 m), (6, .bool ((decide ((0 : Int) ≤ (m : Int))))), (7, .bool false)]) ⟨rfl, rfl, rfl, rfl, rfl, (congrArg (fun z => some (Value.bool z)) h1), trivial⟩ ?_
    have h1 : ¬ ((0 : Int) ≤ (m : Int)) := by simpa using h1
    refine WL.skip (d := 7) rfl rfl rfl rfl rfl ?_
    refine WL.skip (d := 7) rfl rfl rfl rfl rfl ?_
    refine WL.skip (d := 7) rfl rfl rfl rfl rfl ?_
    refine WL.skipU (d := 10) rfl rfl rfl rfl ?_
    refine WL.skipU (d := 10) rfl rfl rfl rfl ?_
    refine WL.skipU (d := 10) rfl rfl rfl rfl ?_
    refine WL.skipU (d := 10) rfl rfl rfl rfl ?_
    refine WL.skip (d := 7) rfl rfl rfl rfl rfl ?_
    refine WL.val (.bool false) rfl rfl rfl (fun za zC zh zk => wp_pickF rfl (zh.ev rfl) (zh.ev rfl) zk) ?_
    refine WL.val (.bool false) rfl rfl rfl (fun za zC zh zk => wp_assign rfl (zh.ev rfl) zk) ?_
    refine WL.nil (WE.sub (K' := [(0, .int .i64 v), (1, .pointer (some ⟨g, 0, none⟩)), (3, .int .i64 0), (4, .bool false)]) ⟨rfl, rfl, rfl, rfl, trivial⟩ ?_)
    refine WE.next ?_
    refine WC.condF rfl rfl ?_
    refine WC.seq ?_
    refine WC.region ?_
    refine WL.val (.int .i64 m) rfl rfl rfl (fun za zC zh zk => ld_3 rfl (zh.ev rfl) ((hg.cell 0).trans rfl) zk) ?_
    refine WL.val (.bool ((decide ((m : Int) < (0 : Int))))) rfl rfl rfl (fun za zC zh zk => lss_3 rfl (zh.ev rfl) (zh.ev rfl) zk) ?_
    refine WL.val (.bool ((decide ((m : Int) < (0 : Int))))) rfl rfl rfl (fun za zC zh zk => wp_move rfl (zh.ev rfl) zk) ?_
    refine bool_split ((decide ((m : Int) < (0 : Int)))) (fun h7 => ?_) (fun h7 => ?_)
    · refine WL.sub (K' := [(0, .int .i64 v), (1, .pointer (some ⟨g, 0, none⟩)), (3, .int .i64 0), (4, .bool false), (19, .int .i64 m), (20, .bool ((decide ((m : Int) < (0 : Int))))), (21, .bool true)]) ⟨rfl, rfl, rfl, rfl, rfl, rfl, (congrArg (fun z => some (Value.bool z)) h7), trivial⟩ ?_
      have h7 : (m : Int) < (0 : Int) := by simpa using h7
      refine WL.want (d := 21) rfl rfl rfl ?_
      refine WL.val (.int .i64 v) rfl rfl rfl (fun za zC zh zk => wp_move rfl (zh.ev rfl) zk) ?_
      refine WL.want (d := 21) rfl rfl rfl ?_
      refine WL.val (.int .i64 m) rfl rfl rfl (fun za zC zh zk => ld_3 rfl (zh.ev rfl) ((hg.cell 0).trans rfl) zk) ?_
      refine WL.want (d := 21) rfl rfl rfl ?_
      refine WL.val (.int .i64 ((v + m))) rfl rfl rfl (fun za zC zh zk => addb_3 rfl (zh.ev rfl) (zh.ev rfl) (wrap_eq (by omega) (by omega) (by omega)) zk) ?_
      refine WL.want (d := 21) rfl rfl rfl ?_
      refine WL.val (.bool ((decide (((v + m) : Int) < (0 : Int))))) rfl rfl rfl (fun za zC zh zk => lss_3 rfl (zh.ev rfl) (zh.ev rfl) zk) ?_
      refine WL.want (d := 21) rfl rfl rfl ?_
      refine WL.val (.bool ((decide (((v + m) : Int) < (0 : Int))))) rfl rfl rfl (fun za zC zh zk => wp_move rfl (zh.ev rfl) zk) ?_
      refine bool_split ((decide (((v + m) : Int) < (0 : Int)))) (fun h8 => ?_) (fun h8 => ?_)
      · refine WL.sub (K' := [(0, .int .i64 v), (1, .pointer (some ⟨g, 0, none⟩)), (3, .int .i64 0), (4, .bool false), (19, .int .i64 m), (20, .bool ((decide ((m : Int) < (0 : Int))))), (21, .bool true), (22, .int .i64 v), (23, .int .i64 m), (24, .int .i64 ((v + m))), (25, .bool ((decide (((v + m) : Int) < (0 : Int))))), (26, .bool true)]) ⟨rfl, rfl, rfl, rfl, rfl, rfl, rfl, rfl, rfl, rfl, rfl, (congrArg (fun z => some (Value.bool z)) h8), trivial⟩ ?_
        have h8 : ((v + m) : Int) < (0 : Int) := by simpa using h8
        refine WL.skip (d := 26) rfl rfl rfl rfl rfl ?_
        refine WL.skip (d := 26) rfl rfl rfl rfl rfl ?_
        refine WL.skip (d := 26) rfl rfl rfl rfl rfl ?_
        refine WL.skip (d := 26) rfl rfl rfl rfl rfl ?_
        refine WL.want (d := 21) rfl rfl rfl ?_
        refine WL.val (.bool true) rfl rfl rfl (fun za zC zh zk => wp_pickT rfl (zh.ev rfl) (zh.ev rfl) zk) ?_
        refine WL.val (.bool true) rfl rfl rfl (fun za zC zh zk => wp_pickT rfl (zh.ev rfl) (zh.ev rfl) zk) ?_
        refine WL.val (.bool true) rfl rfl rfl (fun za zC zh zk => wp_assign rfl (zh.ev rfl) zk) ?_
        refine WL.nil (WE.sub (K' := [(0, .int .i64 v), (1, .pointer (some ⟨g, 0, none⟩)), (3, .int .i64 0), (4, .bool false), (18, .bool true)]) ⟨rfl, rfl, rfl, rfl, rfl, trivial⟩ ?_)
        refine WE.next ?_
        refine WC.condT rfl rfl ?_
        refine WC.seq ?_
        refine WC.region ?_
        refine WL.val (.int .i64 v) rfl rfl rfl (fun za zC zh zk => wp_move rfl (zh.ev rfl) zk) ?_
        refine WL.val (.int .i64 v) rfl rfl rfl (fun za zC zh zk => wp_assign rfl (zh.ev rfl) zk) ?_
        refine WL.nil (WE.sub (K' := [(0, .int .i64 v), (1, .pointer (some ⟨g, 0, none⟩)), (3, .int .i64 v), (4, .bool false), (18, .bool true)]) ⟨rfl, rfl, rfl, rfl, rfl, trivial⟩ ?_)
        refine WE.next ?_
        refine WC.ret ?_
        refine WE.blockRet ?_
        refine WE.thenRet ?_
        refine WE.ret1 rfl rfl ?_
        exact ⟨_, rfl, congrArg (Value.int .i64) (by rw [mvTo_no (fun h => by have z := mvOk_iff.1 h; omega)]), (Below.refl _ _)⟩
      · refine WL.sub (K' := [(0, .int .i64 v), (1, .pointer (some ⟨g, 0, none⟩)), (3, .int .i64 0), (4, .bool false), (19, .int .i64 m), (20, .bool ((decide ((m : Int) < (0 : Int))))), (21, .bool true), (22, .int .i64 v), (23, .int .i64 m), (24, .int .i64 ((v + m))), (25, .bool ((decide (((v + m) : Int) < (0 : Int))))), (26, .bool false)]) ⟨rfl, rfl, rfl, rfl, rfl, rfl, rfl, rfl, rfl, rfl, rfl, (congrArg (fun z => some (Value.bool z)) h8), trivial⟩ ?_
        have h8 : ¬ (((v + m) : Int) < (0 : Int)) := by simpa using h8
        refine WL.want (d := 26) rfl rfl rfl ?_
        refine WL.val (.int .i64 v) rfl rfl rfl (fun za zC zh zk => wp_move rfl (zh.ev rfl) zk) ?_
        refine WL.want (d := 26) rfl rfl rfl ?_
        refine WL.val (.int .i64 m) rfl rfl rfl (fun za zC zh zk => ld_3 rfl (zh.ev rfl) ((hg.cell 0).trans rfl) zk) ?_
        refine WL.want (d := 26) rfl rfl rfl ?_
        refine WL.val (.int .i64 ((v + m))) rfl rfl rfl (fun za zC zh zk => addb_3 rfl (zh.ev rfl) (zh.ev rfl) (wrap_eq (by omega) (by omega) (by omega)) zk) ?_
        refine WL.want (d := 26) rfl rfl rfl ?_
        refine WL.val (.bool ((decide ((2147483647 : Int) < ((v + m) : Int))))) rfl rfl rfl (fun za zC zh zk => gtr_3 rfl (zh.ev rfl) (zh.ev rfl) zk) ?_
        refine WL.want (d := 21) rfl rfl rfl ?_
        refine WL.val (.bool ((decide ((2147483647 : Int) < ((v + m) : Int))))) rfl rfl rfl (fun za zC zh zk => wp_pickF rfl (zh.ev rfl) (zh.ev rfl) zk) ?_
        refine WL.val (.bool ((decide ((2147483647 : Int) < ((v + m) : Int))))) rfl rfl rfl (fun za zC zh zk => wp_pickT rfl (zh.ev rfl) (zh.ev rfl) zk) ?_
        refine WL.val (.bool ((decide ((2147483647 : Int) < ((v + m) : Int))))) rfl rfl rfl (fun za zC zh zk => wp_assign rfl (zh.ev rfl) zk) ?_
        refine WL.nil (WE.sub (K' := [(0, .int .i64 v), (1, .pointer (some ⟨g, 0, none⟩)), (3, .int .i64 0), (4, .bool false), (18, .bool ((decide ((2147483647 : Int) < ((v + m) : Int)))))]) ⟨rfl, rfl, rfl, rfl, rfl, trivial⟩ ?_)
        refine WE.next ?_
        refine WC.cond rfl (fun h9 => ?_) (fun h9 => ?_)
        · have h9 : (2147483647 : Int) < ((v + m) : Int) := by simpa using h9
          refine WC.seq ?_
          refine WC.region ?_
          refine WL.val (.int .i64 v) rfl rfl rfl (fun za zC zh zk => wp_move rfl (zh.ev rfl) zk) ?_
          refine WL.val (.int .i64 v) rfl rfl rfl (fun za zC zh zk => wp_assign rfl (zh.ev rfl) zk) ?_
          refine WL.nil (WE.sub (K' := [(0, .int .i64 v), (1, .pointer (some ⟨g, 0, none⟩)), (3, .int .i64 v), (4, .bool false), (18, .bool ((decide ((2147483647 : Int) < ((v + m) : Int)))))]) ⟨rfl, rfl, rfl, rfl, rfl, trivial⟩ ?_)
          refine WE.next ?_
          refine WC.ret ?_
          refine WE.blockRet ?_
          refine WE.thenRet ?_
          refine WE.ret1 rfl rfl ?_
          exact ⟨_, rfl, congrArg (Value.int .i64) (by rw [mvTo_no (fun h => by have z := mvOk_iff.1 h; omega)]), (Below.refl _ _)⟩
        · have h9 : ¬ ((2147483647 : Int) < ((v + m) : Int)) := by simpa using h9
          refine WC.skip ?_
          refine WE.blockNormal ?_
          refine WE.next ?_
          refine WC.seq ?_
          refine WC.region ?_
          refine WL.val (.int .i64 v) rfl rfl rfl (fun za zC zh zk => wp_move rfl (zh.ev rfl) zk) ?_
          refine WL.val (.int .i64 m) rfl rfl rfl (fun za zC zh zk => ld_3 rfl (zh.ev rfl) ((hg.cell 0).trans rfl) zk) ?_
          refine WL.val (.int .i64 ((v + m))) rfl rfl rfl (fun za zC zh zk => addb_3 rfl (zh.ev rfl) (zh.ev rfl) (wrap_eq (by omega) (by omega) (by omega)) zk) ?_
          refine WL.val (.int .i64 ((v + m))) rfl rfl rfl (fun za zC zh zk => wp_assign rfl (zh.ev rfl) zk) ?_
          refine WL.nil (WE.sub (K' := [(0, .int .i64 v), (1, .pointer (some ⟨g, 0, none⟩)), (3, .int .i64 ((v + m))), (4, .bool false), (18, .bool ((decide ((2147483647 : Int) < ((v + m) : Int)))))]) ⟨rfl, rfl, rfl, rfl, rfl, trivial⟩ ?_)
          refine WE.next ?_
          refine WC.ret ?_
          refine WE.ret1 rfl rfl ?_
          exact ⟨_, rfl, congrArg (Value.int .i64) (by rw [mvTo_yes (mvOk_iff.2 (by omega))]), (Below.refl _ _)⟩
    · refine WL.sub (K' := [(0, .int .i64 v), (1, .pointer (some ⟨g, 0, none⟩)), (3, .int .i64 0), (4, .bool false), (19, .int .i64 m), (20, .bool ((decide ((m : Int) < (0 : Int))))), (21, .bool false)]) ⟨rfl, rfl, rfl, rfl, rfl, rfl, (congrArg (fun z => some (Value.bool z)) h7), trivial⟩ ?_
      have h7 : ¬ ((m : Int) < (0 : Int)) := by simpa using h7
      refine WL.skip (d := 21) rfl rfl rfl rfl rfl ?_
      refine WL.skip (d := 21) rfl rfl rfl rfl rfl ?_
      refine WL.skip (d := 21) rfl rfl rfl rfl rfl ?_
      refine WL.skip (d := 21) rfl rfl rfl rfl rfl ?_
      refine WL.skip (d := 21) rfl rfl rfl rfl rfl ?_
      refine WL.skipU (d := 26) rfl rfl rfl rfl ?_
      refine WL.skipU (d := 26) rfl rfl rfl rfl ?_
      refine WL.skipU (d := 26) rfl rfl rfl rfl ?_
      refine WL.skipU (d := 26) rfl rfl rfl rfl ?_
      refine WL.skip (d := 21) rfl rfl rfl rfl rfl ?_
      refine WL.val (.bool false) rfl rfl rfl (fun za zC zh zk => wp_pickF rfl (zh.ev rfl) (zh.ev rfl) zk) ?_
      refine WL.val (.bool false) rfl rfl rfl (fun za zC zh zk => wp_assign rfl (zh.ev rfl) zk) ?_
      refine WL.nil (WE.sub (K' := [(0, .int .i64 v), (1, .pointer (some ⟨g, 0, none⟩)), (3, .int .i64 0), (4, .bool false), (18, .bool false)]) ⟨rfl, rfl, rfl, rfl, rfl, trivial⟩ ?_)
      refine WE.next ?_
      refine WC.condF rfl rfl ?_
      refine WC.skip ?_
      refine WE.blockNormal ?_
      refine WE.next ?_
      refine WC.seq ?_
      refine WC.region ?_
      refine WL.val (.int .i64 v) rfl rfl rfl (fun za zC zh zk => wp_move rfl (zh.ev rfl) zk) ?_
      refine WL.val (.int .i64 m) rfl rfl rfl (fun za zC zh zk => ld_3 rfl (zh.ev rfl) ((hg.cell 0).trans rfl) zk) ?_
      refine WL.val (.int .i64 ((v + m))) rfl rfl rfl (fun za zC zh zk => addb_3 rfl (zh.ev rfl) (zh.ev rfl) (wrap_eq (by omega) (by omega) (by omega)) zk) ?_
      refine WL.val (.int .i64 ((v + m))) rfl rfl rfl (fun za zC zh zk => wp_assign rfl (zh.ev rfl) zk) ?_
      refine WL.nil (WE.sub (K' := [(0, .int .i64 v), (1, .pointer (some ⟨g, 0, none⟩)), (3, .int .i64 ((v + m))), (4, .bool false), (18, .bool false)]) ⟨rfl, rfl, rfl, rfl, rfl, trivial⟩ ?_)
      refine WE.next ?_
      refine WC.ret ?_
      refine WE.ret1 rfl rfl ?_
      exact ⟨_, rfl, congrArg (Value.int .i64) (by rw [mvTo_yes (mvOk_iff.2 (by omega))]), (Below.refl _ _)⟩

set_option maxRecDepth 100000 in
theorem renamed_any (m : Int) (gs : Nat) (hm : I64 m) : ∀ (t : T) (w : World) (v : Value), t.size ≤ 4294967296 → IsT w t v → Blk w gs 3 #[.int .i64 m] → Calls Try.prog 51 #[v, .func (.func 52) #[] #[.pointer (some ⟨gs, 0, none⟩)]] w (Ret fun v' w' => NewT w w' (t.mv m) v' ∧ Below w.heap.size w w') := by
  refine T.ind (fun f l ih => ?_)
  intro w v hz hv hgs
  have hlen := len_le_sizeL l
  have hz' := hz
  simp only [T.size] at hz'
  obtain ⟨hf, a, c, rfl, hc, hmx, hl⟩ := hv
  have hf' := hf
  unfold I64 at hf'
  have hgl := hgs.lt
  refine Calls.walk (l := [.agg #[.int .i64 f, .slice a l.length c], .func (.func 52) #[] #[.pointer (some ⟨gs, 0, none⟩)]]) Try.func51 rfl (by kernel_rfl) ?_
  refine WC.sub (K' := [(0, .agg #[.int .i64 f, .slice a l.length c]), (1, .func (.func 52) #[] #[.pointer (some ⟨gs, 0, none⟩)])]) ⟨rfl, rfl, trivial⟩ ?_
  refine WC.seq ?_
  refine WC.region ?_
  refine WL.step (post := NewBlk w 32 #[.int .i64 f, .slice a l.length c]) rfl rfl rfl (fun za zC zh zk => box_32 rfl (zh.ev rfl) (zk _ _ (newBlk _ _ _))) ?_
  rintro _ w1 ⟨g2, rfl, hg3, hB4, hb5, hz6⟩
  have hl7 : gs < g2 := by have z1 := hgs.lt; omega
  have hl8 : w.heap.size ≤ g2 := by omega
  refine WL.step (post := NewBlk w1 32 #[.int .i64 0, .slice none 0 0]) rfl rfl rfl (fun za zC zh zk => alloc_32 rfl (zk _ _ (newBlk _ _ _))) ?_
  rintro _ w9 ⟨g10, rfl, hg11, hB12, hb13, hz14⟩
  have hl15 : gs < g10 := by have z1 := hgs.lt; have z2 := (hb5).size; omega
  have hl16 : g2 < g10 := by have z1 := hB4.lt; omega
  have hl17 : w.heap.size ≤ g10 := by have z2 := (hb5).size; omega
  refine WL.nil (WE.sub (K' := [(0, .agg #[.int .i64 f, .slice a l.length c]), (1, .func (.func 52) #[] #[.pointer (some ⟨gs, 0, none⟩)]), (2, .pointer (some ⟨g2, 0, none⟩)), (4, .pointer (some ⟨g10, 0, none⟩))]) ⟨rfl, rfl, rfl, rfl, trivial⟩ ?_)
  refine WE.next ?_
  refine WC.seq ?_
  refine WC.region ?_
  refine WL.val (.pointer (some ⟨g2, 0, none⟩)) rfl rfl rfl (fun za zC zh zk => fld_32_0 rfl (zh.ev rfl) zk) ?_
  have hB18 := hB4.below hb13
  refine WL.val (.int .i64 f) rfl rfl rfl (fun za zC zh zk => ld_3 rfl (zh.ev rfl) ((hB18.cell 0).trans rfl) zk) ?_
  refine WL.val (.agg #[.int .i64 f, .slice none 0 0]) rfl rfl rfl (fun za zC zh zk => build_32_0 rfl (zh.ev rfl) zk) ?_
  refine WL.step (post := NewBlk w9 32 #[.int .i64 0, .slice none 0 0]) rfl rfl rfl (fun za zC zh zk => alloc_32 rfl (zk _ _ (newBlk _ _ _))) ?_
  rintro _ w19 ⟨g20, rfl, hg21, hB22, hb23, hz24⟩
  have hb25 : Below w.heap.size w w9 := (bstep hb5 hb13)
  have hl26 : gs < g20 := by have z1 := hgs.lt; have z2 := (hb25).size; omega
  have hl27 : g2 < g20 := by have z1 := hB18.lt; omega
  have hl28 : g10 < g20 := by have z1 := hB12.lt; omega
  have hl29 : w.heap.size ≤ g20 := by have z2 := (hb25).size; omega
  refine WL.step (post := fun _ w' => Upd g20 w19 w' ∧ Blk w' g20 32 #[.int .i64 f, .slice none 0 0]) rfl rfl rfl (fun za zC zh zk => st_32 rfl (zh.ev rfl) (zh.ev rfl) rfl rfl hB22 (by first | decide | simp) (fun v => zk v _ ⟨(Upd.at_ _ _ _ _).trans (Upd.at_ _ _ _ _), (hB22.set_ 0 _).set_ 1 _⟩)) ?_
  rintro v33 w30 ⟨hu31, hB32⟩
  have hb34 : Below w.heap.size w w19 := (bstep hb25 hb23)
  have hb35 := upd_below hb34 hu31 (by omega)
  have hB36 := hgs.below hb34
  have hB37 := upd_blk hB36 hu31 (by omega)
  have hB38 := hB18.below hb23
  have hB39 := upd_blk hB38 hu31 (by omega)
  have hB40 := hB12.below hb23
  have hB41 := upd_blk hB40 hu31 (by omega)
  refine WL.nil (WE.sub (K' := [(0, .agg #[.int .i64 f, .slice a l.length c]), (1, .func (.func 52) #[] #[.pointer (some ⟨gs, 0, none⟩)]), (2, .pointer (some ⟨g2, 0, none⟩)), (4, .pointer (some ⟨g10, 0, none⟩)), (5, .pointer (some ⟨g20, 0, none⟩))]) ⟨rfl, rfl, rfl, rfl, rfl, trivial⟩ ?_)
  refine WE.next ?_
  refine WC.seq ?_
  refine WC.seq ?_
  refine WC.region ?_
  refine WL.val (.pointer (some ⟨g2, 0, none⟩)) rfl rfl rfl (fun za zC zh zk => fld_32_0 rfl (zh.ev rfl) zk) ?_
  refine WL.val (.int .i64 f) rfl rfl rfl (fun za zC zh zk => ld_3 rfl (zh.ev rfl) ((hB39.cell 0).trans rfl) zk) ?_
  refine WL.val (.bool ((decide ((f : Int) < (0 : Int))))) rfl rfl rfl (fun za zC zh zk => lss_3 rfl (zh.ev rfl) (zh.ev rfl) zk) ?_
  refine WL.nil (WE.sub (K' := [(0, .agg #[.int .i64 f, .slice a l.length c]), (1, .func (.func 52) #[] #[.pointer (some ⟨gs, 0, none⟩)]), (2, .pointer (some ⟨g2, 0, none⟩)), (4, .pointer (some ⟨g10, 0, none⟩)), (5, .pointer (some ⟨g20, 0, none⟩)), (13, .bool ((decide ((f : Int) < (0 : Int)))))]) ⟨rfl, rfl, rfl, rfl, rfl, rfl, trivial⟩ ?_)
  refine WE.next ?_
  refine WC.cond rfl (fun h42 => ?_) (fun h42 => ?_)
  · have h42 : (f : Int) < (0 : Int) := by simpa using h42
    refine WC.region ?_
    refine WL.val (.func (.func 52) #[] #[.pointer (some ⟨gs, 0, none⟩)]) rfl rfl rfl (fun za zC zh zk => wp_move rfl (zh.ev rfl) zk) ?_
    refine WL.val (.pointer (some ⟨g2, 0, none⟩)) rfl rfl rfl (fun za zC zh zk => fld_32_0 rfl (zh.ev rfl) zk) ?_
    refine WL.val (.int .i64 f) rfl rfl rfl (fun za zC zh zk => ld_3 rfl (zh.ev rfl) ((hB39.cell 0).trans rfl) zk) ?_
    refine WL.val (.int .i64 ((-1 - f))) rfl rfl rfl (fun za zC zh zk => subb_3 rfl (zh.ev rfl) (zh.ev rfl) (wrap_eq rfl (by omega) (by omega)) zk) ?_
    refine WL.call rfl rfl rfl (fun za zh zC => wp_callv (by kernel_rfl) rfl (zh.ev rfl) (hv1 (zh.ev rfl))) (move1_any (-1 - f) m _ gs (by omega) (by omega) hm hB37) ?_
    rintro _ w44 ⟨rfl, hq43⟩
    have hrg := mvTo_range (v := -1 - f) (m := m) (by omega) (by omega)
    refine WL.val (.int .i64 ((-1 - mvTo (-1 - f) m))) rfl rfl rfl (fun za zC zh zk => subb_3 rfl (zh.ev rfl) (zh.ev rfl) (wrap_eq rfl (by omega) (by omega)) zk) ?_
    refine WL.val (.pointer (some ⟨g20, 0, none⟩)) rfl rfl rfl (fun za zC zh zk => fld_32_0 rfl (zh.ev rfl) zk) ?_
    have hB45 := hB32.below hq43
    refine WL.step (post := fun _ w' => Upd g20 w44 w' ∧ Blk w' g20 32 #[.int .i64 ((-1 - mvTo (-1 - f) m)), .slice none 0 0]) rfl rfl rfl (fun za zC zh zk => st_3 rfl (zh.ev rfl) (zh.ev rfl) hB45 (by first | decide | simp) (fun v => zk v _ ⟨Upd.at_ _ _ _ _, hB45.set_ 0 _⟩)) ?_
    rintro v49 w46 ⟨hu47, hB48⟩
    have hb50 : Below w.heap.size w w44 := (bstep hb35 hq43)
    have hb51 := upd_below hb50 hu47 (by omega)
    have hB52 := hB37.below hq43
    have hB53 := upd_blk hB52 hu47 (by omega)
    have hB54 := hB39.below hq43
    have hB55 := upd_blk hB54 hu47 (by omega)
    have hB56 := hB41.below hq43
    have hB57 := upd_blk hB56 hu47 (by omega)
    refine WL.nil (WE.sub (K' := [(0, .agg #[.int .i64 f, .slice a l.length c]), (1, .func (.func 52) #[] #[.pointer (some ⟨gs, 0, none⟩)]), (2, .pointer (some ⟨g2, 0, none⟩)), (4, .pointer (some ⟨g10, 0, none⟩)), (5, .pointer (some ⟨g20, 0, none⟩)), (13, .bool ((decide ((f : Int) < (0 : Int)))))]) ⟨rfl, rfl, rfl, rfl, rfl, rfl, trivial⟩ ?_)
    refine WE.next ?_
    refine WC.seq ?_
    refine WC.seq ?_
    refine WC.region ?_
    refine WL.val (.pointer (some ⟨g2, 1, none⟩)) rfl rfl rfl (fun za zC zh zk => fld_32_1 rfl (zh.ev rfl) zk) ?_
    refine WL.val (.slice a l.length c) rfl rfl rfl (fun za zC zh zk => ld_30 rfl (zh.ev rfl) ((hB55.cell 1).trans rfl) zk) ?_
    refine WL.val (.int .i64 (((l.length : Nat) : Int))) rfl rfl rfl (fun za zC zh zk => len_30 rfl (zh.ev rfl) zk) ?_
    refine WL.val (.int .i64 0) rfl rfl rfl (fun za zC zh zk => wp_move rfl (zh.ev rfl) zk) ?_
    refine WL.nil (WE.sub (K' := [(0, .agg #[.int .i64 f, .slice a l.length c]), (1, .func (.func 52) #[] #[.pointer (some ⟨gs, 0, none⟩)]), (2, .pointer (some ⟨g2, 0, none⟩)), (4, .pointer (some ⟨g10, 0, none⟩)), (5, .pointer (some ⟨g20, 0, none⟩)), (13, .bool ((decide ((f : Int) < (0 : Int))))), (22, .slice a l.length c), (23, .int .i64 (((l.length : Nat) : Int))), (24, .int .i64 0)]) ⟨rfl, rfl, rfl, rfl, rfl, rfl, rfl, rfl, rfl, trivial⟩ ?_)
    refine WE.next ?_
    refine WC.block ?_
    have hl58 : gs < w46.heap.size := by have z1 := hB53.lt; omega
    have hl59 : g2 < w46.heap.size := by have z1 := hB55.lt; omega
    have hl60 : g10 < w46.heap.size := by have z1 := hB57.lt; omega
    have hl61 : g20 < w46.heap.size := by have z1 := hB48.lt; omega
    have hl62 : w.heap.size ≤ w46.heap.size := (hb51).size
    have hR63 : RowE eltT w46 w46.heap.size 32 none 0 0 [] := RowE.nil
    refine WC.loop (X := Option Addr × Nat × Nat) (fun x => l.length - x.2.2) (fun x => [(0, .agg #[.int .i64 f, .slice a l.length c]), (1, .func (.func 52) #[] #[.pointer (some ⟨gs, 0, none⟩)]), (2, .pointer (some ⟨g2, 0, none⟩)), (4, .pointer (some ⟨g10, 0, none⟩)), (5, .pointer (some ⟨g20, 0, none⟩)), (13, .bool ((decide ((f : Int) < (0 : Int))))), (22, .slice a l.length c), (23, .int .i64 (((l.length : Nat) : Int))), (24, .int .i64 (((x.2.2 : Nat) : Int)))]) (fun x w64 => x.2.2 ≤ l.length ∧ w46.heap.size ≤ (w64).heap.size ∧ Below w.heap.size w w64 ∧ Blk w64 gs 3 #[.int .i64 m] ∧ Blk w64 g2 32 #[.int .i64 f, .slice a l.length c] ∧ Blk w64 g10 32 #[.int .i64 0, .slice none 0 0] ∧ Blk w64 g20 32 #[.int .i64 ((-1 - mvTo (-1 - f) m)), .slice x.1 x.2.2 x.2.1] ∧ RowE eltT (w64) w46.heap.size 32 x.1 x.2.1 x.2.2 ((l.take x.2.2).map (T.mv m))) ((none, 0, 0)) ⟨rfl, rfl, rfl, rfl, rfl, rfl, rfl, rfl, rfl, trivial⟩ ?_ ?_
    · exact ⟨Nat.zero_le _, Nat.le_refl _, hb51, hB53, hB55, hB57, hB48, (by simpa using hR63)⟩
    · rintro x w64 ⟨hk, hBw, hb65, hB66, hB67, hB68, hB69, ho70⟩
      refine WC.seq ?_
      refine WC.region ?_
      refine WL.val (.bool ((decide ((((x.2.2 : Nat) : Int) : Int) < (((l.length : Nat) : Int) : Int))))) rfl rfl rfl (fun za zC zh zk => lss_3 rfl (zh.ev rfl) (zh.ev rfl) zk) ?_
      refine WL.nil (WE.sub (K' := [(0, .agg #[.int .i64 f, .slice a l.length c]), (1, .func (.func 52) #[] #[.pointer (some ⟨gs, 0, none⟩)]), (2, .pointer (some ⟨g2, 0, none⟩)), (4, .pointer (some ⟨g10, 0, none⟩)), (5, .pointer (some ⟨g20, 0, none⟩)), (13, .bool ((decide ((f : Int) < (0 : Int))))), (22, .slice a l.length c), (23, .int .i64 (((l.length : Nat) : Int))), (24, .int .i64 (((x.2.2 : Nat) : Int))), (25, .bool ((decide ((((x.2.2 : Nat) : Int) : Int) < (((l.length : Nat) : Int) : Int)))))]) ⟨rfl, rfl, rfl, rfl, rfl, rfl, rfl, rfl, rfl, rfl, trivial⟩ ?_)
      refine WE.next ?_
      refine WC.seq ?_
      refine WC.cond rfl (fun h71 => ?_) (fun h71 => ?_)
      · have h71 : (((x.2.2 : Nat) : Int) : Int) < (((l.length : Nat) : Int) : Int) := by simpa using h71
        refine WC.skip ?_
        refine WE.next ?_
        refine WC.seq ?_
        refine WC.block ?_
        refine WC.seq ?_
        refine WC.region ?_
        obtain ⟨b72, o73, A74, C75, ha76, hc77⟩ := IsTs.open hl
        refine WL.val (.pointer (some ⟨b72, o73 + x.2.2 * 2, none⟩)) rfl rfl rfl (fun za zC zh zk => ix_30 (k := x.2.2) rfl (zh.ev rfl) (ha76 x.2.2 (by first | omega | (simp; omega))) (zh.ev rfl) (by first | omega | (simp; omega)) zk) ?_
        refine WL.val (.agg #[.int .i64 ((tget l x.2.2).f), .slice ((A74 x.2.2)) ((tget l x.2.2).args.length) ((C75 x.2.2))]) rfl rfl rfl (fun za zC zh zk => ld_32 rfl (zh.ev rfl) (bkeeps hb65 _ _ (hc77 x.2.2 (by first | omega | (simp; omega))).1) (bkeeps hb65 _ _ (hc77 x.2.2 (by first | omega | (simp; omega))).2.1) zk) ?_
        refine WL.step (post := NewBlk w64 32 #[.int .i64 0, .slice none 0 0]) rfl rfl rfl (fun za zC zh zk => alloc_32 rfl (zk _ _ (newBlk _ _ _))) ?_
        rintro _ w78 ⟨g79, rfl, hg80, hB81, hb82, hz83⟩
        have hl84 : gs < g79 := by have z1 := hB66.lt; omega
        have hl85 : g2 < g79 := by have z1 := hB67.lt; omega
        have hl86 : g10 < g79 := by have z1 := hB68.lt; omega
        have hl87 : g20 < g79 := by have z1 := hB69.lt; omega
        have hl88 : w.heap.size ≤ g79 := by have z2 := (hb65).size; omega
        have hl89 : w64.heap.size ≤ g79 := by omega
        refine WL.step (post := fun _ w' => Upd g79 w78 w' ∧ Blk w' g79 32 #[.int .i64 ((tget l x.2.2).f), .slice ((A74 x.2.2)) ((tget l x.2.2).args.length) ((C75 x.2.2))]) rfl rfl rfl (fun za zC zh zk => st_32 rfl (zh.ev rfl) (zh.ev rfl) rfl rfl hB81 (by first | decide | simp) (fun v => zk v _ ⟨(Upd.at_ _ _ _ _).trans (Upd.at_ _ _ _ _), (hB81.set_ 0 _).set_ 1 _⟩)) ?_
        rintro v93 w90 ⟨hu91, hB92⟩
        have hb94 : Below w.heap.size w w78 := (bstep hb65 hb82)
        have hb95 := upd_below hb94 hu91 (by omega)
        have hb96 := upd_below hb82 hu91 (by omega)
        have hB97 := hB66.below hb82
        have hB98 := upd_blk hB97 hu91 (by omega)
        have hB99 := hB67.below hb82
        have hB100 := upd_blk hB99 hu91 (by omega)
        have hB101 := hB68.below hb82
        have hB102 := upd_blk hB101 hu91 (by omega)
        have hB103 := hB69.below hb82
        have hB104 := upd_blk hB103 hu91 (by omega)
        refine WL.nil (WE.sub (K' := [(0, .agg #[.int .i64 f, .slice a l.length c]), (1, .func (.func 52) #[] #[.pointer (some ⟨gs, 0, none⟩)]), (2, .pointer (some ⟨g2, 0, none⟩)), (4, .pointer (some ⟨g10, 0, none⟩)), (5, .pointer (some ⟨g20, 0, none⟩)), (7, .pointer (some ⟨g79, 0, none⟩)), (13, .bool ((decide ((f : Int) < (0 : Int))))), (22, .slice a l.length c), (23, .int .i64 (((l.length : Nat) : Int))), (24, .int .i64 (((x.2.2 : Nat) : Int))), (25, .bool ((decide ((((x.2.2 : Nat) : Int) : Int) < (((l.length : Nat) : Int) : Int)))))]) ⟨rfl, rfl, rfl, rfl, rfl, rfl, rfl, rfl, rfl, rfl, rfl, trivial⟩ ?_)
        refine WE.next ?_
        have ho105 := ho70.below hb96
        have hSlt : ∀ b, (fun b => b = g20 ∨ (Value.slice x.1 x.2.2 x.2.1).ownBlock = some b) b → b < w90.heap.size := fun b h => h.elim (fun e => e ▸ hB104.lt) (fun h => (ho105.lt b h).2)
        have hSlo : ∀ b, (fun b => b = g20 ∨ (Value.slice x.1 x.2.2 x.2.1).ownBlock = some b) b → b = g20 ∨ (w46.heap.size ≤ b ∧ b < w64.heap.size) := fun b h => h.imp id (fun h => ho70.lt b h)
        have hBW : w46.heap.size ≤ w90.heap.size := by have z1 := (Nat.le_trans hBw hb96.size); omega
        have hlL : x.2.2 = (((l.take x.2.2).map (T.mv m))).length := ho105.len
        refine WC.tail2 (S := ((fun b => b = g20 ∨ (Value.slice x.1 x.2.2 x.2.1).ownBlock = some b))) [(true, .val (.pointer (some ⟨g20, 1, none⟩))), (true, .val (.slice x.1 x.2.2 x.2.1)), (true, .val (.agg #[.int .i64 ((tget l x.2.2).f), .slice ((A74 x.2.2)) ((tget l x.2.2).args.length) ((C75 x.2.2))])), (true, .val (.func (.func 52) #[] #[.pointer (some ⟨gs, 0, none⟩)])), (true, .mem (fun v w' => NewT w90 w' (((tget l x.2.2).mv m)) v) (fun v w w' hc h => InT.chg h hc (fun b hb hs => by have z := hSlt b hs; omega))), (true, .mem (fun v w' => OneRow eltT w90 32 (((tget l x.2.2).mv m)) v w') (fun v w w' hc h => h.chg hc hSlt)), (true, .val undef), (true, .val (.pointer (some ⟨g20, 1, none⟩))), (true, .val undef)] [(0, .agg #[.int .i64 f, .slice a l.length c]), (1, .func (.func 52) #[] #[.pointer (some ⟨gs, 0, none⟩)]), (2, .pointer (some ⟨g2, 0, none⟩)), (4, .pointer (some ⟨g10, 0, none⟩)), (5, .pointer (some ⟨g20, 0, none⟩)), (7, .pointer (some ⟨g79, 0, none⟩)), (13, .bool ((decide ((f : Int) < (0 : Int))))), (22, .slice a l.length c), (23, .int .i64 (((l.length : Nat) : Int))), (24, .int .i64 (((x.2.2 : Nat) : Int))), (25, .bool ((decide ((((x.2.2 : Nat) : Int) : Int) < (((l.length : Nat) : Int) : Int)))))] 6 8 ((x.2.2 + 1)) 34 (fun ra rc w => RowE eltT w w46.heap.size 32 ra rc (x.2.2 + 1) (((l.take x.2.2).map (T.mv m) ++ [((tget l x.2.2).mv m)])) ∧ Blk w g20 32 #[.int .i64 ((-1 - mvTo (-1 - f) m)), .slice x.1 x.2.2 x.2.1]) (fun ra rc w => RowE eltT w w46.heap.size 32 ra rc (x.2.2 + 1) (((l.take x.2.2).map (T.mv m) ++ [((tget l x.2.2).mv m)])) ∧ Blk w g20 32 #[.int .i64 ((-1 - mvTo (-1 - f) m)), .slice ra ((x.2.2 + 1)) rc]) (by decide) (fun ra rc w w' hb h => ⟨h.1.below hb, h.2.below hb⟩) (fun ra rc w w' hb h => ⟨h.1.below hb, h.2.below hb⟩) ⟨rfl, rfl, rfl, rfl, rfl, rfl, rfl, rfl, rfl, rfl, rfl, trivial⟩ (by kernel_rfl) (by kernel_rfl) (by kernel_rfl) (by kernel_rfl) (by kernel_rfl) ?_ ?_
        · refine ⟨.inl ⟨rfl, true, .none rfl, (fun gg b h => by cases h), fun h w => optUndef h, fun zβ za zw zc => ?_⟩, ?_⟩
          · exact fld_32_1 rfl (zc.kn.ev rfl) ⟨_, rfl, Below.refl _ _, optDef zβ rfl⟩
          refine ⟨.inl ⟨rfl, true, .none rfl, (fun gg b h => by cases h), fun h w => optUndef h, fun zβ za zw zc => ?_⟩, ?_⟩
          · exact ld_30 rfl ((show za.eval (.tmp 28) = za.tmps.getD 28 undef from rfl).trans (optSVal (zc.dep 0 28 (by kernel_rfl) (by decide)) rfl rfl)) (bkeeps (zc.early (by kernel_rfl)) _ _ ((hB104.cell 1).trans rfl)) ⟨_, rfl, Below.refl _ _, optDef zβ rfl⟩
          refine ⟨.inl ⟨rfl, true, .none rfl, (fun gg b h => by cases h), fun h w => optUndef h, fun zβ za zw zc => ?_⟩, ?_⟩
          · exact ld_32 rfl (zc.kn.ev rfl) (bkeeps (zc.early (by kernel_rfl)) _ _ ((hB92.cell 0).trans rfl)) (bkeeps (zc.early (by kernel_rfl)) _ _ ((hB92.cell 1).trans rfl)) ⟨_, rfl, Below.refl _ _, optDef zβ rfl⟩
          refine ⟨.inl ⟨rfl, true, .none rfl, (fun gg b h => by cases h), fun h w => optUndef h, fun zβ za zw zc => ?_⟩, ?_⟩
          · exact wp_move rfl (zc.kn.ev rfl) ⟨_, rfl, Below.refl _ _, optDef zβ rfl⟩
          refine ⟨.inl ⟨rfl, true, .none rfl, (fun gg b h => by cases h), fun h w => optUndef h, fun zβ za zw zc => ?_⟩, ?_⟩
          · exact wp_call (by kernel_rfl) rfl (hv2 ((show za.eval (.tmp 30) = za.tmps.getD 30 undef from rfl).trans (optSVal (zc.dep 2 30 (by kernel_rfl) (by decide)) rfl rfl)) ((show za.eval (.tmp 31) = za.tmps.getD 31 undef from rfl).trans (optSVal (zc.dep 3 31 (by kernel_rfl) (by decide)) rfl rfl))) (ih _ (tget_mem (by omega)) _ _ (size_at (by omega) hz) (IsT.below (bstep hb95 (zc.early (by kernel_rfl))) (hc77 x.2.2 (by first | omega | (simp; omega))).2.2) (hB98.below (zc.early (by kernel_rfl)))) (fun v w' h => ⟨v, rfl, h.2, optDef zβ (InT.mono (fun b hb _ => Nat.le_trans (zc.early (by kernel_rfl)).size hb) h.1)⟩)
          refine ⟨.inl ⟨rfl, true, .none rfl, (fun gg b h => by cases h), fun h w => optUndef h, fun zβ za zw zc => ?_⟩, ?_⟩
          · have zv := (optSMem (zc.dep 4 32 (by kernel_rfl) (by decide)) rfl rfl)
            obtain ⟨_, a1, c1, e1, _⟩ := zv.form
            rw [e1] at zv
            exact row_30_1 rfl ((show za.eval (.tmp 32) = za.tmps.getD 32 undef from rfl).trans e1) ⟨_, rfl, balloc _ _, optDef zβ ⟨_, _, rfl, zc.chg.size, Blk.new' rfl, _, _, rfl, zv.below (balloc _ _)⟩⟩
          refine ⟨.inr (.inl ⟨rfl, rfl, fun za zw zc => ?_⟩), ?_⟩
          · obtain ⟨g1, cs, e1, hg1, hB1, hin⟩ := (optSMem (zc.dep 5 33 (by kernel_rfl) (by decide)) rfl rfl)
            exact wp_appE (E := eltT) (size := 2) (bytes := 32) (z := .agg #[.int .i64 0, .slice none 0 0]) rfl Try.underlying30 (by kernel_rfl) rfl (by decide) rfl ((show za.eval (.tmp 29) = za.tmps.getD 29 undef from rfl).trans (optSVal (zc.dep 1 29 (by kernel_rfl) (by decide)) rfl rfl)) ((show za.eval (.tmp 33) = za.tmps.getD 33 undef from rfl).trans e1) (ho105.below zc.below) hB1 (eltT.mono (fun b hb _ => ⟨by omega, fun e => by have z := (ho105.lt b e).2; omega⟩) hin) (by omega) (by omega) (by have z := zc.below.size; omega) (fun ra rc w' h1 h2 _ => ⟨ra, rc, rfl, ⟨h1, chg_blk (hB104.below zc.below) h2 (fun e => by have z := (ho105.lt _ e).1; omega)⟩, h2.mono (fun b hb => .inr hb)⟩)
          refine ⟨.inl ⟨rfl, true, .none rfl, (fun gg b h => by cases h), fun h w => optUndef h, fun zβ za zw zc => ?_⟩, ?_⟩
          · exact fld_32_1 rfl (zc.kn.ev rfl) ⟨_, rfl, Below.refl _ _, optDef zβ rfl⟩
          refine ⟨.inr (.inr ⟨rfl, rfl, 34, by kernel_rfl, fun za zw ra rc zk zd zv zg => ?_⟩), ?_⟩
          · exact st_30 rfl ((show za.eval (.tmp 35) = za.tmps.getD 35 undef from rfl).trans (optSVal (zd 7 35 (by kernel_rfl) (by decide)) rfl rfl)) ((show za.eval (.tmp 34) = za.tmps.getD 34 undef from rfl).trans zv) zg.2 (by first | decide | simp) (fun v => ⟨v, rfl, ⟨zg.1.upd (Upd.at_ _ _ _ _) (by omega), zg.2.set_ 1 _⟩, .ofUpd (Upd.at_ _ _ _ _) (.inl rfl)⟩)
          exact trivial
        · intro za w106 ra109 rc110 zh zv hG107 hc108 zu
          have hb111 := chg_below hb95 hc108 (fun b hb => (fun h => by rcases hSlo _ h with h | h <;> omega))
          have hB112 := chg_blk hB98 hc108 (fun h => by rcases hSlo _ h with h | h <;> omega)
          have hB113 := chg_blk hB100 hc108 (fun h => by rcases hSlo _ h with h | h <;> omega)
          have hB114 := chg_blk hB102 hc108 (fun h => by rcases hSlo _ h with h | h <;> omega)
          have hB115 := chg_blk hB92 hc108 (fun h => by rcases hSlo _ h with h | h <;> omega)
          clear zu
          refine (show WE _ [(0, .agg #[.int .i64 f, .slice a l.length c]), (1, .func (.func 52) #[] #[.pointer (some ⟨gs, 0, none⟩)]), (2, .pointer (some ⟨g2, 0, none⟩)), (4, .pointer (some ⟨g10, 0, none⟩)), (5, .pointer (some ⟨g20, 0, none⟩)), (7, .pointer (some ⟨g79, 0, none⟩)), (13, .bool ((decide ((f : Int) < (0 : Int))))), (22, .slice a l.length c), (23, .int .i64 (((l.length : Nat) : Int))), (24, .int .i64 (((x.2.2 : Nat) : Int))), (25, .bool ((decide ((((x.2.2 : Nat) : Int) : Int) < (((l.length : Nat) : Int) : Int)))))] w106 _ .normal from ?_) za (zh.sub ⟨rfl, rfl, rfl, rfl, rfl, rfl, rfl, rfl, rfl, rfl, rfl, trivial⟩)
          refine WE.blockNormal ?_
          refine WE.next ?_
          refine WC.region ?_
          refine WL.val (.int .i64 ((((x.2.2 + 1) : Nat) : Int))) rfl rfl rfl (fun za zC zh zk => addb_3 rfl (zh.ev rfl) (zh.ev rfl) (wrap_eq (by omega) (by omega) (by omega)) zk) ?_
          refine WL.val (.int .i64 ((((x.2.2 + 1) : Nat) : Int))) rfl rfl rfl (fun za zC zh zk => wp_move rfl (zh.ev rfl) zk) ?_
          refine WL.nil (WE.sub (K' := [(0, .agg #[.int .i64 f, .slice a l.length c]), (1, .func (.func 52) #[] #[.pointer (some ⟨gs, 0, none⟩)]), (2, .pointer (some ⟨g2, 0, none⟩)), (4, .pointer (some ⟨g10, 0, none⟩)), (5, .pointer (some ⟨g20, 0, none⟩)), (7, .pointer (some ⟨g79, 0, none⟩)), (13, .bool ((decide ((f : Int) < (0 : Int))))), (22, .slice a l.length c), (23, .int .i64 (((l.length : Nat) : Int))), (24, .int .i64 ((((x.2.2 + 1) : Nat) : Int))), (25, .bool ((decide ((((x.2.2 : Nat) : Int) : Int) < (((l.length : Nat) : Int) : Int)))))]) ⟨rfl, rfl, rfl, rfl, rfl, rfl, rfl, rfl, rfl, rfl, rfl, trivial⟩ ?_)
          refine WE.round ((ra109, rc110, x.2.2 + 1)) ⟨rfl, rfl, rfl, rfl, rfl, rfl, rfl, rfl, rfl, trivial⟩ ?_ ?_
          · exact ⟨by (try dsimp only at *); omega, (Nat.le_trans (Nat.le_trans hBw hb96.size) hc108.size), hb111, hB112, hB113, hB114, hG107.2, (by rw [← take_mv (by (try dsimp only at *); omega)]; exact hG107.1)⟩
          · dsimp only; omega
      · have h71 : ¬ ((((x.2.2 : Nat) : Int) : Int) < (((l.length : Nat) : Int) : Int)) := by simpa using h71
        refine WC.exit ?_
        refine WE.thenExit ?_
        refine WE.thenExit ?_
        refine WE.blockIs rfl ?_
        refine WE.next ?_
        refine WC.seq ?_
        refine WC.region ?_
        refine WL.val (.agg #[.int .i64 ((-1 - mvTo (-1 - f) m)), .slice x.1 x.2.2 x.2.1]) rfl rfl rfl (fun za zC zh zk => ld_32 rfl (zh.ev rfl) ((hB69.cell 0).trans rfl) ((hB69.cell 1).trans rfl) zk) ?_
        refine WL.step (post := fun _ w' => Upd g10 w64 w' ∧ Blk w' g10 32 #[.int .i64 ((-1 - mvTo (-1 - f) m)), .slice x.1 x.2.2 x.2.1]) rfl rfl rfl (fun za zC zh zk => st_32 rfl (zh.ev rfl) (zh.ev rfl) rfl rfl hB68 (by first | decide | simp) (fun v => zk v _ ⟨(Upd.at_ _ _ _ _).trans (Upd.at_ _ _ _ _), (hB68.set_ 0 _).set_ 1 _⟩)) ?_
        rintro v119 w116 ⟨hu117, hB118⟩
        have hb120 := upd_below hb65 hu117 (by omega)
        have hB121 := upd_blk hB66 hu117 (by omega)
        have hB122 := upd_blk hB67 hu117 (by omega)
        have hB123 := upd_blk hB69 hu117 (by omega)
        have ho124 := ho70.upd hu117 (by omega)
        refine WL.nil (WE.sub (K' := [(0, .agg #[.int .i64 f, .slice a l.length c]), (1, .func (.func 52) #[] #[.pointer (some ⟨gs, 0, none⟩)]), (2, .pointer (some ⟨g2, 0, none⟩)), (4, .pointer (some ⟨g10, 0, none⟩)), (5, .pointer (some ⟨g20, 0, none⟩)), (13, .bool ((decide ((f : Int) < (0 : Int))))), (22, .slice a l.length c), (23, .int .i64 (((l.length : Nat) : Int))), (24, .int .i64 (((x.2.2 : Nat) : Int))), (25, .bool ((decide ((((x.2.2 : Nat) : Int) : Int) < (((l.length : Nat) : Int) : Int)))))]) ⟨rfl, rfl, rfl, rfl, rfl, rfl, rfl, rfl, rfl, rfl, trivial⟩ ?_)
        refine WE.next ?_
        refine WC.ret ?_
        refine WE.retAny (v := .agg #[.int .i64 ((-1 - mvTo (-1 - f) m)), .slice x.1 x.2.2 x.2.1]) (fun za zh => ?_) ?_
        · have z0 : za.tmps[4]?.getD undef = .pointer (some ⟨g10, 0, none⟩) := by rw [← Array.getD_eq_getD_getElem?]; exact zh.knows 4 _ rfl
          have y0 : w116.cell? ⟨g10, 0, none⟩ = some (.int .i64 ((-1 - mvTo (-1 - f) m))) := ((hB118.cell 0).trans rfl)
          have y1 : w116.cell? ⟨g10, 1, none⟩ = some (.slice x.1 x.2.2 x.2.1) := ((hB118.cell 1).trans rfl)
          simp [results, Try.results51, z0, y0, y1, go_sem]
        · have z := ho124
          rw [List.take_of_length_le (by omega)] at z
          exact ⟨_, rfl, by rw [mv_mk, mvF_neg ‹_›]; exact newT_row (by rw [← mvF_neg ‹_›]; exact mvF_i64 hf) z (by omega), hb120⟩
  · have h42 : ¬ ((f : Int) < (0 : Int)) := by simpa using h42
    refine WC.skip ?_
    refine WE.next ?_
    refine WC.seq ?_
    refine WC.seq ?_
    refine WC.region ?_
    refine WL.val (.pointer (some ⟨g2, 1, none⟩)) rfl rfl rfl (fun za zC zh zk => fld_32_1 rfl (zh.ev rfl) zk) ?_
    refine WL.val (.slice a l.length c) rfl rfl rfl (fun za zC zh zk => ld_30 rfl (zh.ev rfl) ((hB39.cell 1).trans rfl) zk) ?_
    refine WL.val (.int .i64 (((l.length : Nat) : Int))) rfl rfl rfl (fun za zC zh zk => len_30 rfl (zh.ev rfl) zk) ?_
    refine WL.val (.int .i64 0) rfl rfl rfl (fun za zC zh zk => wp_move rfl (zh.ev rfl) zk) ?_
    refine WL.nil (WE.sub (K' := [(0, .agg #[.int .i64 f, .slice a l.length c]), (1, .func (.func 52) #[] #[.pointer (some ⟨gs, 0, none⟩)]), (2, .pointer (some ⟨g2, 0, none⟩)), (4, .pointer (some ⟨g10, 0, none⟩)), (5, .pointer (some ⟨g20, 0, none⟩)), (13, .bool ((decide ((f : Int) < (0 : Int))))), (22, .slice a l.length c), (23, .int .i64 (((l.length : Nat) : Int))), (24, .int .i64 0)]) ⟨rfl, rfl, rfl, rfl, rfl, rfl, rfl, rfl, rfl, trivial⟩ ?_)
    refine WE.next ?_
    refine WC.block ?_
    have hl125 : gs < w30.heap.size := by have z1 := hB37.lt; omega
    have hl126 : g2 < w30.heap.size := by have z1 := hB39.lt; omega
    have hl127 : g10 < w30.heap.size := by have z1 := hB41.lt; omega
    have hl128 : g20 < w30.heap.size := by have z1 := hB32.lt; omega
    have hl129 : w.heap.size ≤ w30.heap.size := (hb35).size
    have hR130 : RowE eltT w30 w30.heap.size 32 none 0 0 [] := RowE.nil
    refine WC.loop (X := Option Addr × Nat × Nat) (fun x => l.length - x.2.2) (fun x => [(0, .agg #[.int .i64 f, .slice a l.length c]), (1, .func (.func 52) #[] #[.pointer (some ⟨gs, 0, none⟩)]), (2, .pointer (some ⟨g2, 0, none⟩)), (4, .pointer (some ⟨g10, 0, none⟩)), (5, .pointer (some ⟨g20, 0, none⟩)), (13, .bool ((decide ((f : Int) < (0 : Int))))), (22, .slice a l.length c), (23, .int .i64 (((l.length : Nat) : Int))), (24, .int .i64 (((x.2.2 : Nat) : Int)))]) (fun x w131 => x.2.2 ≤ l.length ∧ w30.heap.size ≤ (w131).heap.size ∧ Below w.heap.size w w131 ∧ Blk w131 gs 3 #[.int .i64 m] ∧ Blk w131 g2 32 #[.int .i64 f, .slice a l.length c] ∧ Blk w131 g10 32 #[.int .i64 0, .slice none 0 0] ∧ Blk w131 g20 32 #[.int .i64 f, .slice x.1 x.2.2 x.2.1] ∧ RowE eltT (w131) w30.heap.size 32 x.1 x.2.1 x.2.2 ((l.take x.2.2).map (T.mv m))) ((none, 0, 0)) ⟨rfl, rfl, rfl, rfl, rfl, rfl, rfl, rfl, rfl, trivial⟩ ?_ ?_
    · exact ⟨Nat.zero_le _, Nat.le_refl _, hb35, hB37, hB39, hB41, hB32, (by simpa using hR130)⟩
    · rintro x w131 ⟨hk, hBw, hb132, hB133, hB134, hB135, hB136, ho137⟩
      refine WC.seq ?_
      refine WC.region ?_
      refine WL.val (.bool ((decide ((((x.2.2 : Nat) : Int) : Int) < (((l.length : Nat) : Int) : Int))))) rfl rfl rfl (fun za zC zh zk => lss_3 rfl (zh.ev rfl) (zh.ev rfl) zk) ?_
      refine WL.nil (WE.sub (K' := [(0, .agg #[.int .i64 f, .slice a l.length c]), (1, .func (.func 52) #[] #[.pointer (some ⟨gs, 0, none⟩)]), (2, .pointer (some ⟨g2, 0, none⟩)), (4, .pointer (some ⟨g10, 0, none⟩)), (5, .pointer (some ⟨g20, 0, none⟩)), (13, .bool ((decide ((f : Int) < (0 : Int))))), (22, .slice a l.length c), (23, .int .i64 (((l.length : Nat) : Int))), (24, .int .i64 (((x.2.2 : Nat) : Int))), (25, .bool ((decide ((((x.2.2 : Nat) : Int) : Int) < (((l.length : Nat) : Int) : Int)))))]) ⟨rfl, rfl, rfl, rfl, rfl, rfl, rfl, rfl, rfl, rfl, trivial⟩ ?_)
      refine WE.next ?_
      refine WC.seq ?_
      refine WC.cond rfl (fun h138 => ?_) (fun h138 => ?_)
      · have h138 : (((x.2.2 : Nat) : Int) : Int) < (((l.length : Nat) : Int) : Int) := by simpa using h138
        refine WC.skip ?_
        refine WE.next ?_
        refine WC.seq ?_
        refine WC.block ?_
        refine WC.seq ?_
        refine WC.region ?_
        obtain ⟨b139, o140, A141, C142, ha143, hc144⟩ := IsTs.open hl
        refine WL.val (.pointer (some ⟨b139, o140 + x.2.2 * 2, none⟩)) rfl rfl rfl (fun za zC zh zk => ix_30 (k := x.2.2) rfl (zh.ev rfl) (ha143 x.2.2 (by first | omega | (simp; omega))) (zh.ev rfl) (by first | omega | (simp; omega)) zk) ?_
        refine WL.val (.agg #[.int .i64 ((tget l x.2.2).f), .slice ((A141 x.2.2)) ((tget l x.2.2).args.length) ((C142 x.2.2))]) rfl rfl rfl (fun za zC zh zk => ld_32 rfl (zh.ev rfl) (bkeeps hb132 _ _ (hc144 x.2.2 (by first | omega | (simp; omega))).1) (bkeeps hb132 _ _ (hc144 x.2.2 (by first | omega | (simp; omega))).2.1) zk) ?_
        refine WL.step (post := NewBlk w131 32 #[.int .i64 0, .slice none 0 0]) rfl rfl rfl (fun za zC zh zk => alloc_32 rfl (zk _ _ (newBlk _ _ _))) ?_
        rintro _ w145 ⟨g146, rfl, hg147, hB148, hb149, hz150⟩
        have hl151 : gs < g146 := by have z1 := hB133.lt; omega
        have hl152 : g2 < g146 := by have z1 := hB134.lt; omega
        have hl153 : g10 < g146 := by have z1 := hB135.lt; omega
        have hl154 : g20 < g146 := by have z1 := hB136.lt; omega
        have hl155 : w.heap.size ≤ g146 := by have z2 := (hb132).size; omega
        have hl156 : w131.heap.size ≤ g146 := by omega
        refine WL.step (post := fun _ w' => Upd g146 w145 w' ∧ Blk w' g146 32 #[.int .i64 ((tget l x.2.2).f), .slice ((A141 x.2.2)) ((tget l x.2.2).args.length) ((C142 x.2.2))]) rfl rfl rfl (fun za zC zh zk => st_32 rfl (zh.ev rfl) (zh.ev rfl) rfl rfl hB148 (by first | decide | simp) (fun v => zk v _ ⟨(Upd.at_ _ _ _ _).trans (Upd.at_ _ _ _ _), (hB148.set_ 0 _).set_ 1 _⟩)) ?_
        rintro v160 w157 ⟨hu158, hB159⟩
        have hb161 : Below w.heap.size w w145 := (bstep hb132 hb149)
        have hb162 := upd_below hb161 hu158 (by omega)
        have hb163 := upd_below hb149 hu158 (by omega)
        have hB164 := hB133.below hb149
        have hB165 := upd_blk hB164 hu158 (by omega)
        have hB166 := hB134.below hb149
        have hB167 := upd_blk hB166 hu158 (by omega)
        have hB168 := hB135.below hb149
        have hB169 := upd_blk hB168 hu158 (by omega)
        have hB170 := hB136.below hb149
        have hB171 := upd_blk hB170 hu158 (by omega)
        refine WL.nil (WE.sub (K' := [(0, .agg #[.int .i64 f, .slice a l.length c]), (1, .func (.func 52) #[] #[.pointer (some ⟨gs, 0, none⟩)]), (2, .pointer (some ⟨g2, 0, none⟩)), (4, .pointer (some ⟨g10, 0, none⟩)), (5, .pointer (some ⟨g20, 0, none⟩)), (7, .pointer (some ⟨g146, 0, none⟩)), (13, .bool ((decide ((f : Int) < (0 : Int))))), (22, .slice a l.length c), (23, .int .i64 (((l.length : Nat) : Int))), (24, .int .i64 (((x.2.2 : Nat) : Int))), (25, .bool ((decide ((((x.2.2 : Nat) : Int) : Int) < (((l.length : Nat) : Int) : Int)))))]) ⟨rfl, rfl, rfl, rfl, rfl, rfl, rfl, rfl, rfl, rfl, rfl, trivial⟩ ?_)
        refine WE.next ?_
        have ho172 := ho137.below hb163
        have hSlt : ∀ b, (fun b => b = g20 ∨ (Value.slice x.1 x.2.2 x.2.1).ownBlock = some b) b → b < w157.heap.size := fun b h => h.elim (fun e => e ▸ hB171.lt) (fun h => (ho172.lt b h).2)
        have hSlo : ∀ b, (fun b => b = g20 ∨ (Value.slice x.1 x.2.2 x.2.1).ownBlock = some b) b → b = g20 ∨ (w30.heap.size ≤ b ∧ b < w131.heap.size) := fun b h => h.imp id (fun h => ho137.lt b h)
        have hBW : w30.heap.size ≤ w157.heap.size := by have z1 := (Nat.le_trans hBw hb163.size); omega
        have hlL : x.2.2 = (((l.take x.2.2).map (T.mv m))).length := ho172.len
        refine WC.tail2 (S := ((fun b => b = g20 ∨ (Value.slice x.1 x.2.2 x.2.1).ownBlock = some b))) [(true, .val (.pointer (some ⟨g20, 1, none⟩))), (true, .val (.slice x.1 x.2.2 x.2.1)), (true, .val (.agg #[.int .i64 ((tget l x.2.2).f), .slice ((A141 x.2.2)) ((tget l x.2.2).args.length) ((C142 x.2.2))])), (true, .val (.func (.func 52) #[] #[.pointer (some ⟨gs, 0, none⟩)])), (true, .mem (fun v w' => NewT w157 w' (((tget l x.2.2).mv m)) v) (fun v w w' hc h => InT.chg h hc (fun b hb hs => by have z := hSlt b hs; omega))), (true, .mem (fun v w' => OneRow eltT w157 32 (((tget l x.2.2).mv m)) v w') (fun v w w' hc h => h.chg hc hSlt)), (true, .val undef), (true, .val (.pointer (some ⟨g20, 1, none⟩))), (true, .val undef)] [(0, .agg #[.int .i64 f, .slice a l.length c]), (1, .func (.func 52) #[] #[.pointer (some ⟨gs, 0, none⟩)]), (2, .pointer (some ⟨g2, 0, none⟩)), (4, .pointer (some ⟨g10, 0, none⟩)), (5, .pointer (some ⟨g20, 0, none⟩)), (7, .pointer (some ⟨g146, 0, none⟩)), (13, .bool ((decide ((f : Int) < (0 : Int))))), (22, .slice a l.length c), (23, .int .i64 (((l.length : Nat) : Int))), (24, .int .i64 (((x.2.2 : Nat) : Int))), (25, .bool ((decide ((((x.2.2 : Nat) : Int) : Int) < (((l.length : Nat) : Int) : Int)))))] 6 8 ((x.2.2 + 1)) 34 (fun ra rc w => RowE eltT w w30.heap.size 32 ra rc (x.2.2 + 1) (((l.take x.2.2).map (T.mv m) ++ [((tget l x.2.2).mv m)])) ∧ Blk w g20 32 #[.int .i64 f, .slice x.1 x.2.2 x.2.1]) (fun ra rc w => RowE eltT w w30.heap.size 32 ra rc (x.2.2 + 1) (((l.take x.2.2).map (T.mv m) ++ [((tget l x.2.2).mv m)])) ∧ Blk w g20 32 #[.int .i64 f, .slice ra ((x.2.2 + 1)) rc]) (by decide) (fun ra rc w w' hb h => ⟨h.1.below hb, h.2.below hb⟩) (fun ra rc w w' hb h => ⟨h.1.below hb, h.2.below hb⟩) ⟨rfl, rfl, rfl, rfl, rfl, rfl, rfl, rfl, rfl, rfl, rfl, trivial⟩ (by kernel_rfl) (by kernel_rfl) (by kernel_rfl) (by kernel_rfl) (by kernel_rfl) ?_ ?_
        · refine ⟨.inl ⟨rfl, true, .none rfl, (fun gg b h => by cases h), fun h w => optUndef h, fun zβ za zw zc => ?_⟩, ?_⟩
          · exact fld_32_1 rfl (zc.kn.ev rfl) ⟨_, rfl, Below.refl _ _, optDef zβ rfl⟩
          refine ⟨.inl ⟨rfl, true, .none rfl, (fun gg b h => by cases h), fun h w => optUndef h, fun zβ za zw zc => ?_⟩, ?_⟩
          · exact ld_30 rfl ((show za.eval (.tmp 28) = za.tmps.getD 28 undef from rfl).trans (optSVal (zc.dep 0 28 (by kernel_rfl) (by decide)) rfl rfl)) (bkeeps (zc.early (by kernel_rfl)) _ _ ((hB171.cell 1).trans rfl)) ⟨_, rfl, Below.refl _ _, optDef zβ rfl⟩
          refine ⟨.inl ⟨rfl, true, .none rfl, (fun gg b h => by cases h), fun h w => optUndef h, fun zβ za zw zc => ?_⟩, ?_⟩
          · exact ld_32 rfl (zc.kn.ev rfl) (bkeeps (zc.early (by kernel_rfl)) _ _ ((hB159.cell 0).trans rfl)) (bkeeps (zc.early (by kernel_rfl)) _ _ ((hB159.cell 1).trans rfl)) ⟨_, rfl, Below.refl _ _, optDef zβ rfl⟩
          refine ⟨.inl ⟨rfl, true, .none rfl, (fun gg b h => by cases h), fun h w => optUndef h, fun zβ za zw zc => ?_⟩, ?_⟩
          · exact wp_move rfl (zc.kn.ev rfl) ⟨_, rfl, Below.refl _ _, optDef zβ rfl⟩
          refine ⟨.inl ⟨rfl, true, .none rfl, (fun gg b h => by cases h), fun h w => optUndef h, fun zβ za zw zc => ?_⟩, ?_⟩
          · exact wp_call (by kernel_rfl) rfl (hv2 ((show za.eval (.tmp 30) = za.tmps.getD 30 undef from rfl).trans (optSVal (zc.dep 2 30 (by kernel_rfl) (by decide)) rfl rfl)) ((show za.eval (.tmp 31) = za.tmps.getD 31 undef from rfl).trans (optSVal (zc.dep 3 31 (by kernel_rfl) (by decide)) rfl rfl))) (ih _ (tget_mem (by omega)) _ _ (size_at (by omega) hz) (IsT.below (bstep hb162 (zc.early (by kernel_rfl))) (hc144 x.2.2 (by first | omega | (simp; omega))).2.2) (hB165.below (zc.early (by kernel_rfl)))) (fun v w' h => ⟨v, rfl, h.2, optDef zβ (InT.mono (fun b hb _ => Nat.le_trans (zc.early (by kernel_rfl)).size hb) h.1)⟩)
          refine ⟨.inl ⟨rfl, true, .none rfl, (fun gg b h => by cases h), fun h w => optUndef h, fun zβ za zw zc => ?_⟩, ?_⟩
          · have zv := (optSMem (zc.dep 4 32 (by kernel_rfl) (by decide)) rfl rfl)
            obtain ⟨_, a1, c1, e1, _⟩ := zv.form
            rw [e1] at zv
            exact row_30_1 rfl ((show za.eval (.tmp 32) = za.tmps.getD 32 undef from rfl).trans e1) ⟨_, rfl, balloc _ _, optDef zβ ⟨_, _, rfl, zc.chg.size, Blk.new' rfl, _, _, rfl, zv.below (balloc _ _)⟩⟩
          refine ⟨.inr (.inl ⟨rfl, rfl, fun za zw zc => ?_⟩), ?_⟩
          · obtain ⟨g1, cs, e1, hg1, hB1, hin⟩ := (optSMem (zc.dep 5 33 (by kernel_rfl) (by decide)) rfl rfl)
            exact wp_appE (E := eltT) (size := 2) (bytes := 32) (z := .agg #[.int .i64 0, .slice none 0 0]) rfl Try.underlying30 (by kernel_rfl) rfl (by decide) rfl ((show za.eval (.tmp 29) = za.tmps.getD 29 undef from rfl).trans (optSVal (zc.dep 1 29 (by kernel_rfl) (by decide)) rfl rfl)) ((show za.eval (.tmp 33) = za.tmps.getD 33 undef from rfl).trans e1) (ho172.below zc.below) hB1 (eltT.mono (fun b hb _ => ⟨by omega, fun e => by have z := (ho172.lt b e).2; omega⟩) hin) (by omega) (by omega) (by have z := zc.below.size; omega) (fun ra rc w' h1 h2 _ => ⟨ra, rc, rfl, ⟨h1, chg_blk (hB171.below zc.below) h2 (fun e => by have z := (ho172.lt _ e).1; omega)⟩, h2.mono (fun b hb => .inr hb)⟩)
          refine ⟨.inl ⟨rfl, true, .none rfl, (fun gg b h => by cases h), fun h w => optUndef h, fun zβ za zw zc => ?_⟩, ?_⟩
          · exact fld_32_1 rfl (zc.kn.ev rfl) ⟨_, rfl, Below.refl _ _, optDef zβ rfl⟩
          refine ⟨.inr (.inr ⟨rfl, rfl, 34, by kernel_rfl, fun za zw ra rc zk zd zv zg => ?_⟩), ?_⟩
          · exact st_30 rfl ((show za.eval (.tmp 35) = za.tmps.getD 35 undef from rfl).trans (optSVal (zd 7 35 (by kernel_rfl) (by decide)) rfl rfl)) ((show za.eval (.tmp 34) = za.tmps.getD 34 undef from rfl).trans zv) zg.2 (by first | decide | simp) (fun v => ⟨v, rfl, ⟨zg.1.upd (Upd.at_ _ _ _ _) (by omega), zg.2.set_ 1 _⟩, .ofUpd (Upd.at_ _ _ _ _) (.inl rfl)⟩)
          exact trivial
        · intro za w173 ra176 rc177 zh zv hG174 hc175 zu
          have hb178 := chg_below hb162 hc175 (fun b hb => (fun h => by rcases hSlo _ h with h | h <;> omega))
          have hB179 := chg_blk hB165 hc175 (fun h => by rcases hSlo _ h with h | h <;> omega)
          have hB180 := chg_blk hB167 hc175 (fun h => by rcases hSlo _ h with h | h <;> omega)
          have hB181 := chg_blk hB169 hc175 (fun h => by rcases hSlo _ h with h | h <;> omega)
          have hB182 := chg_blk hB159 hc175 (fun h => by rcases hSlo _ h with h | h <;> omega)
          clear zu
          refine (show WE _ [(0, .agg #[.int .i64 f, .slice a l.length c]), (1, .func (.func 52) #[] #[.pointer (some ⟨gs, 0, none⟩)]), (2, .pointer (some ⟨g2, 0, none⟩)), (4, .pointer (some ⟨g10, 0, none⟩)), (5, .pointer (some ⟨g20, 0, none⟩)), (7, .pointer (some ⟨g146, 0, none⟩)), (13, .bool ((decide ((f : Int) < (0 : Int))))), (22, .slice a l.length c), (23, .int .i64 (((l.length : Nat) : Int))), (24, .int .i64 (((x.2.2 : Nat) : Int))), (25, .bool ((decide ((((x.2.2 : Nat) : Int) : Int) < (((l.length : Nat) : Int) : Int)))))] w173 _ .normal from ?_) za (zh.sub ⟨rfl, rfl, rfl, rfl, rfl, rfl, rfl, rfl, rfl, rfl, rfl, trivial⟩)
          refine WE.blockNormal ?_
          refine WE.next ?_
          refine WC.region ?_
          refine WL.val (.int .i64 ((((x.2.2 + 1) : Nat) : Int))) rfl rfl rfl (fun za zC zh zk => addb_3 rfl (zh.ev rfl) (zh.ev rfl) (wrap_eq (by omega) (by omega) (by omega)) zk) ?_
          refine WL.val (.int .i64 ((((x.2.2 + 1) : Nat) : Int))) rfl rfl rfl (fun za zC zh zk => wp_move rfl (zh.ev rfl) zk) ?_
          refine WL.nil (WE.sub (K' := [(0, .agg #[.int .i64 f, .slice a l.length c]), (1, .func (.func 52) #[] #[.pointer (some ⟨gs, 0, none⟩)]), (2, .pointer (some ⟨g2, 0, none⟩)), (4, .pointer (some ⟨g10, 0, none⟩)), (5, .pointer (some ⟨g20, 0, none⟩)), (7, .pointer (some ⟨g146, 0, none⟩)), (13, .bool ((decide ((f : Int) < (0 : Int))))), (22, .slice a l.length c), (23, .int .i64 (((l.length : Nat) : Int))), (24, .int .i64 ((((x.2.2 + 1) : Nat) : Int))), (25, .bool ((decide ((((x.2.2 : Nat) : Int) : Int) < (((l.length : Nat) : Int) : Int)))))]) ⟨rfl, rfl, rfl, rfl, rfl, rfl, rfl, rfl, rfl, rfl, rfl, trivial⟩ ?_)
          refine WE.round ((ra176, rc177, x.2.2 + 1)) ⟨rfl, rfl, rfl, rfl, rfl, rfl, rfl, rfl, rfl, trivial⟩ ?_ ?_
          · exact ⟨by (try dsimp only at *); omega, (Nat.le_trans (Nat.le_trans hBw hb163.size) hc175.size), hb178, hB179, hB180, hB181, hG174.2, (by rw [← take_mv (by (try dsimp only at *); omega)]; exact hG174.1)⟩
          · dsimp only; omega
      · have h138 : ¬ ((((x.2.2 : Nat) : Int) : Int) < (((l.length : Nat) : Int) : Int)) := by simpa using h138
        refine WC.exit ?_
        refine WE.thenExit ?_
        refine WE.thenExit ?_
        refine WE.blockIs rfl ?_
        refine WE.next ?_
        refine WC.seq ?_
        refine WC.region ?_
        refine WL.val (.agg #[.int .i64 f, .slice x.1 x.2.2 x.2.1]) rfl rfl rfl (fun za zC zh zk => ld_32 rfl (zh.ev rfl) ((hB136.cell 0).trans rfl) ((hB136.cell 1).trans rfl) zk) ?_
        refine WL.step (post := fun _ w' => Upd g10 w131 w' ∧ Blk w' g10 32 #[.int .i64 f, .slice x.1 x.2.2 x.2.1]) rfl rfl rfl (fun za zC zh zk => st_32 rfl (zh.ev rfl) (zh.ev rfl) rfl rfl hB135 (by first | decide | simp) (fun v => zk v _ ⟨(Upd.at_ _ _ _ _).trans (Upd.at_ _ _ _ _), (hB135.set_ 0 _).set_ 1 _⟩)) ?_
        rintro v186 w183 ⟨hu184, hB185⟩
        have hb187 := upd_below hb132 hu184 (by omega)
        have hB188 := upd_blk hB133 hu184 (by omega)
        have hB189 := upd_blk hB134 hu184 (by omega)
        have hB190 := upd_blk hB136 hu184 (by omega)
        have ho191 := ho137.upd hu184 (by omega)
        refine WL.nil (WE.sub (K' := [(0, .agg #[.int .i64 f, .slice a l.length c]), (1, .func (.func 52) #[] #[.pointer (some ⟨gs, 0, none⟩)]), (2, .pointer (some ⟨g2, 0, none⟩)), (4, .pointer (some ⟨g10, 0, none⟩)), (5, .pointer (some ⟨g20, 0, none⟩)), (13, .bool ((decide ((f : Int) < (0 : Int))))), (22, .slice a l.length c), (23, .int .i64 (((l.length : Nat) : Int))), (24, .int .i64 (((x.2.2 : Nat) : Int))), (25, .bool ((decide ((((x.2.2 : Nat) : Int) : Int) < (((l.length : Nat) : Int) : Int)))))]) ⟨rfl, rfl, rfl, rfl, rfl, rfl, rfl, rfl, rfl, rfl, trivial⟩ ?_)
        refine WE.next ?_
        refine WC.ret ?_
        refine WE.retAny (v := .agg #[.int .i64 f, .slice x.1 x.2.2 x.2.1]) (fun za zh => ?_) ?_
        · have z0 : za.tmps[4]?.getD undef = .pointer (some ⟨g10, 0, none⟩) := by rw [← Array.getD_eq_getD_getElem?]; exact zh.knows 4 _ rfl
          have y0 : w183.cell? ⟨g10, 0, none⟩ = some (.int .i64 f) := ((hB185.cell 0).trans rfl)
          have y1 : w183.cell? ⟨g10, 1, none⟩ = some (.slice x.1 x.2.2 x.2.1) := ((hB185.cell 1).trans rfl)
          simp [results, Try.results51, z0, y0, y1, go_sem]
        · have z := ho191
          rw [List.take_of_length_le (by omega)] at z
          exact ⟨_, rfl, by rw [mv_mk, mvF_pos ‹_›]; exact newT_row hf z (by omega), hb187⟩

set_option maxRecDepth 100000 in
theorem move_any (t : T) (m : Int) (w : World) (v : Value) (hz : t.size ≤ 4294967296) (hv : IsT w t v) (hm : I64 m) : Calls Try.prog 21 #[v, .int .i64 m] w (Ret fun v' w' => NewT w w' (t.mv m) v' ∧ Below w.heap.size w w') := by
  obtain ⟨hf, a, c, rfl, hc, hmx, hl⟩ := hv.form
  refine Calls.walk (l := [.agg #[.int .i64 t.f, .slice a t.args.length c], .int .i64 m]) Try.func21 rfl (by kernel_rfl) ?_
  refine WC.sub (K' := [(0, .agg #[.int .i64 t.f, .slice a t.args.length c]), (1, .int .i64 m)]) ⟨rfl, rfl, trivial⟩ ?_
  refine WC.seq ?_
  refine WC.region ?_
  refine WL.step (post := NewBlk w 32 #[.int .i64 t.f, .slice a t.args.length c]) rfl rfl rfl (fun za zC zh zk => box_32 rfl (zh.ev rfl) (zk _ _ (newBlk _ _ _))) ?_
  rintro _ w1 ⟨g2, rfl, hg3, hB4, hb5, hz6⟩
  have hl7 : w.heap.size ≤ g2 := by omega
  refine WL.step (post := NewBlk w1 3 #[.int .i64 m]) rfl rfl rfl (fun za zC zh zk => box_3 rfl (zh.ev rfl) (zk _ _ (newBlk _ _ _))) ?_
  rintro _ w8 ⟨g9, rfl, hg10, hB11, hb12, hz13⟩
  have hl14 : g2 < g9 := by have z1 := hB4.lt; omega
  have hl15 : w.heap.size ≤ g9 := by have z2 := (hb5).size; omega
  refine WL.step (post := NewBlk w8 32 #[.int .i64 0, .slice none 0 0]) rfl rfl rfl (fun za zC zh zk => alloc_32 rfl (zk _ _ (newBlk _ _ _))) ?_
  rintro _ w16 ⟨g17, rfl, hg18, hB19, hb20, hz21⟩
  have hl22 : g2 < g17 := by have z1 := hB4.lt; have z2 := (hb12).size; omega
  have hl23 : g9 < g17 := by have z1 := hB11.lt; omega
  have hb24 : Below w.heap.size w w8 := (bstep hb5 hb12)
  have hl25 : w.heap.size ≤ g17 := by have z2 := (hb24).size; omega
  refine WL.nil (WE.sub (K' := [(0, .agg #[.int .i64 t.f, .slice a t.args.length c]), (1, .int .i64 m), (2, .pointer (some ⟨g2, 0, none⟩)), (3, .pointer (some ⟨g9, 0, none⟩)), (4, .pointer (some ⟨g17, 0, none⟩))]) ⟨rfl, rfl, rfl, rfl, rfl, trivial⟩ ?_)
  refine WE.next ?_
  refine WC.seq ?_
  refine WC.region ?_
  have hb27 : Below w1.heap.size w1 w16 := (bstep hb12 hb20)
  have hB26 := hB4.below hb27
  refine WL.val (.agg #[.int .i64 t.f, .slice a t.args.length c]) rfl rfl rfl (fun za zC zh zk => ld_32 rfl (zh.ev rfl) ((hB26.cell 0).trans rfl) ((hB26.cell 1).trans rfl) zk) ?_
  refine WL.val (.func (Fn.func 52) #[] #[.pointer (some ⟨g9, 0, none⟩)]) rfl rfl rfl (fun za zC zh zk => mkfn rfl (hv0) (hv1 (zh.ev rfl)) zk) ?_
  have hB28 := hB11.below hb20
  have hb29 : Below w.heap.size w w16 := (bstep hb5 hb27)
  have hl33 : g2 < w16.heap.size := by have z1 := hB26.lt; omega
  have hl34 : g9 < w16.heap.size := by have z1 := hB28.lt; omega
  have hl35 : g17 < w16.heap.size := by have z1 := hB19.lt; omega
  have hl36 : w.heap.size ≤ w16.heap.size := (hb29).size
  refine WL.call rfl rfl rfl (fun za zh zC => wp_call (by kernel_rfl) rfl (hv2 (zh.ev rfl) (zh.ev rfl))) (renamed_any m _ hm t _ _ hz (IsT.below hb29 hv) hB28) ?_
  rintro v30 w37 ⟨hn31, hb32⟩
  obtain ⟨_, a38, c39, rfl, _, _, _⟩ := hn31.form
  have hB40 := hB19.below hb32
  refine WL.step (post := fun _ w' => Upd g17 w37 w' ∧ Blk w' g17 32 #[.int .i64 ((t.mv m).f), .slice a38 ((t.mv m).args.length) c39]) rfl rfl rfl (fun za zC zh zk => st_32 rfl (zh.ev rfl) (zh.ev rfl) rfl rfl hB40 (by first | decide | simp) (fun v => zk v _ ⟨(Upd.at_ _ _ _ _).trans (Upd.at_ _ _ _ _), (hB40.set_ 0 _).set_ 1 _⟩)) ?_
  rintro v44 w41 ⟨hu42, hB43⟩
  have hb45 : Below w.heap.size w w37 := (bstep hb29 hb32)
  have hb46 := upd_below hb45 hu42 (by omega)
  have hB47 := hB26.below hb32
  have hB48 := upd_blk hB47 hu42 (by omega)
  have hB49 := hB28.below hb32
  have hB50 := upd_blk hB49 hu42 (by omega)
  have ho51 := hn31.upd hu42 (by omega)
  refine WL.nil (WE.sub (K' := [(0, .agg #[.int .i64 t.f, .slice a t.args.length c]), (1, .int .i64 m), (2, .pointer (some ⟨g2, 0, none⟩)), (3, .pointer (some ⟨g9, 0, none⟩)), (4, .pointer (some ⟨g17, 0, none⟩))]) ⟨rfl, rfl, rfl, rfl, rfl, trivial⟩ ?_)
  refine WE.next ?_
  refine WC.ret ?_
  refine WE.retAny (v := .agg #[.int .i64 ((t.mv m).f), .slice a38 ((t.mv m).args.length) c39]) (fun za zh => ?_) ?_
  · have z0 : za.tmps[4]?.getD undef = .pointer (some ⟨g17, 0, none⟩) := by rw [← Array.getD_eq_getD_getElem?]; exact zh.knows 4 _ rfl
    have y0 : w41.cell? ⟨g17, 0, none⟩ = some (.int .i64 ((t.mv m).f)) := ((hB43.cell 0).trans rfl)
    have y1 : w41.cell? ⟨g17, 1, none⟩ = some (.slice a38 ((t.mv m).args.length) c39) := ((hB43.cell 1).trans rfl)
    simp [results, Try.results21, z0, y0, y1, go_sem]
  · have hgz := (hb29).size
    exact ⟨_, rfl, (ho51).mono (fun b hb _ => by omega), hb46⟩

set_option maxRecDepth 100000 in
theorem to_any (v m : Int) (w : World) (h0 : 0 ≤ v) (h1 : v ≤ 9223372036854775807) (hm : I64 m) : Calls Try.prog 53 #[.int .i64 v, .int .i64 m] w (Ret fun v' w' => (∃ n, v' = .tuple #[.int .i64 n, .bool (mvOk v m)] ∧ (mvOk v m = true → n = v + m)) ∧ Below w.heap.size w w') := by
  unfold I64 at hm
  refine Calls.walk (l := [.int .i64 v, .int .i64 m]) Try.func53 rfl (by kernel_rfl) ?_
  refine WC.sub (K' := [(0, .int .i64 v), (1, .int .i64 m)]) ⟨rfl, rfl, trivial⟩ ?_
  refine WC.seq ?_
  refine WC.region ?_
  refine WL.val (.int .i64 0) rfl rfl rfl (fun za zC zh zk => wp_assign rfl (zh.ev rfl) zk) ?_
  refine WL.val (.bool false) rfl rfl rfl (fun za zC zh zk => wp_assign rfl (zh.ev rfl) zk) ?_
  refine WL.nil (WE.sub (K' := [(0, .int .i64 v), (1, .int .i64 m), (4, .int .i64 0), (5, .bool false)]) ⟨rfl, rfl, rfl, rfl, trivial⟩ ?_)
  refine WE.next ?_
  refine WC.seq ?_
  refine WC.seq ?_
  refine WC.region ?_
  refine WL.val (.int .i64 m) rfl rfl rfl (fun za zC zh zk => wp_move rfl (zh.ev rfl) zk) ?_
  refine WL.val (.bool ((decide ((0 : Int) ≤ (m : Int))))) rfl rfl rfl (fun za zC zh zk => geq_3 rfl (zh.ev rfl) (zh.ev rfl) zk) ?_
  refine WL.nil (WE.sub (K' := [(0, .int .i64 v), (1, .int .i64 m), (4, .int .i64 0), (5, .bool false), (8, .bool ((decide ((0 : Int) ≤ (m : Int)))))]) ⟨rfl, rfl, rfl, rfl, rfl, trivial⟩ ?_)
  refine WE.next ?_
  refine WC.cond rfl (fun h1 => ?_) (fun h1 => ?_)
  · have h1 : (0 : Int) ≤ (m : Int) := by simpa using h1
    refine WC.seq ?_
    refine WC.seq ?_
    refine WC.region ?_
    refine WL.val (.int .i64 m) rfl rfl rfl (fun za zC zh zk => wp_move rfl (zh.ev rfl) zk) ?_
    refine WL.val (.bool ((decide ((2147483647 : Int) < (m : Int))))) rfl rfl rfl (fun za zC zh zk => gtr_3 rfl (zh.ev rfl) (zh.ev rfl) zk) ?_
    refine WL.val (.bool ((decide ((2147483647 : Int) < (m : Int))))) rfl rfl rfl (fun za zC zh zk => wp_move rfl (zh.ev rfl) zk) ?_
    refine bool_split ((decide ((2147483647 : Int) < (m : Int)))) (fun h2 => ?_) (fun h2 => ?_)
    · refine WL.sub (K' := [(0, .int .i64 v), (1, .int .i64 m), (4, .int .i64 0), (5, .bool false), (8, .bool ((decide ((0 : Int) ≤ (m : Int))))), (9, .int .i64 m), (10, .bool ((decide ((2147483647 : Int) < (m : Int))))), (11, .bool true)]) ⟨rfl, rfl, rfl, rfl, rfl, rfl, rfl, (congrArg (fun z => some (Value.bool z)) h2), trivial⟩ ?_
      have h2 : (2147483647 : Int) < (m : Int) := by simpa using h2
      refine WL.skip (d := 11) rfl rfl rfl rfl rfl ?_
      refine WL.skip (d := 11) rfl rfl rfl rfl rfl ?_
      refine WL.skip (d := 11) rfl rfl rfl rfl rfl ?_
      refine WL.skip (d := 11) rfl rfl rfl rfl rfl ?_
      refine WL.val (.bool true) rfl rfl rfl (fun za zC zh zk => wp_pickT rfl (zh.ev rfl) (zh.ev rfl) zk) ?_
      refine WL.nil (WE.sub (K' := [(0, .int .i64 v), (1, .int .i64 m), (4, .int .i64 0), (5, .bool false), (8, .bool ((decide ((0 : Int) ≤ (m : Int))))), (16, .bool true)]) ⟨rfl, rfl, rfl, rfl, rfl, rfl, trivial⟩ ?_)
      refine WE.next ?_
      refine WC.condT rfl rfl ?_
      refine WC.seq ?_
      refine WC.region ?_
      refine WL.val (.int .i64 0) rfl rfl rfl (fun za zC zh zk => wp_assign rfl (zh.ev rfl) zk) ?_
      refine WL.val (.bool false) rfl rfl rfl (fun za zC zh zk => wp_assign rfl (zh.ev rfl) zk) ?_
      refine WL.nil (WE.sub (K' := [(0, .int .i64 v), (1, .int .i64 m), (4, .int .i64 0), (5, .bool false), (8, .bool ((decide ((0 : Int) ≤ (m : Int))))), (16, .bool true)]) ⟨rfl, rfl, rfl, rfl, rfl, rfl, trivial⟩ ?_)
      refine WE.next ?_
      refine WC.ret ?_
      refine WE.thenRet ?_
      refine WE.thenRet ?_
      refine WE.ret2 rfl rfl rfl ?_
      exact ⟨_, rfl, ⟨0, congrArg (fun b => Value.tuple #[Value.int .i64 0, Value.bool b]) (Eq.symm (by rw [Bool.eq_iff_iff, mvOk_iff]; simp; omega)), fun h => by have z := mvOk_iff.1 h; omega⟩, (Below.refl _ _)⟩
    · refine WL.sub (K' := [(0, .int .i64 v), (1, .int .i64 m), (4, .int .i64 0), (5, .bool false), (8, .bool ((decide ((0 : Int) ≤ (m : Int))))), (9, .int .i64 m), (10, .bool ((decide ((2147483647 : Int) < (m : Int))))), (11, .bool false)]) ⟨rfl, rfl, rfl, rfl, rfl, rfl, rfl, (congrArg (fun z => some (Value.bool z)) h2), trivial⟩ ?_
      have h2 : ¬ ((2147483647 : Int) < (m : Int)) := by simpa using h2
      refine WL.want (d := 11) rfl rfl rfl ?_
      refine WL.val (.int .i64 v) rfl rfl rfl (fun za zC zh zk => wp_move rfl (zh.ev rfl) zk) ?_
      refine WL.want (d := 11) rfl rfl rfl ?_
      refine WL.val (.int .i64 m) rfl rfl rfl (fun za zC zh zk => wp_move rfl (zh.ev rfl) zk) ?_
      refine WL.want (d := 11) rfl rfl rfl ?_
      refine WL.val (.int .i64 ((2147483647 - m))) rfl rfl rfl (fun za zC zh zk => subb_3 rfl (zh.ev rfl) (zh.ev rfl) (wrap_eq (by omega) (by omega) (by omega)) zk) ?_
      refine WL.want (d := 11) rfl rfl rfl ?_
      refine WL.val (.bool ((decide (((2147483647 - m) : Int) < (v : Int))))) rfl rfl rfl (fun za zC zh zk => gtr_3 rfl (zh.ev rfl) (zh.ev rfl) zk) ?_
      refine WL.val (.bool ((decide (((2147483647 - m) : Int) < (v : Int))))) rfl rfl rfl (fun za zC zh zk => wp_pickF rfl (zh.ev rfl) (zh.ev rfl) zk) ?_
      refine WL.nil (WE.sub (K' := [(0, .int .i64 v), (1, .int .i64 m), (4, .int .i64 0), (5, .bool false), (8, .bool ((decide ((0 : Int) ≤ (m : Int))))), (16, .bool ((decide (((2147483647 - m) : Int) < (v : Int)))))]) ⟨rfl, rfl, rfl, rfl, rfl, rfl, trivial⟩ ?_)
      refine WE.next ?_
      refine WC.cond rfl (fun h3 => ?_) (fun h3 => ?_)
      · have h3 : ((2147483647 - m) : Int) < (v : Int) := by simpa using h3
        refine WC.seq ?_
        refine WC.region ?_
        refine WL.val (.int .i64 0) rfl rfl rfl (fun za zC zh zk => wp_assign rfl (zh.ev rfl) zk) ?_
        refine WL.val (.bool false) rfl rfl rfl (fun za zC zh zk => wp_assign rfl (zh.ev rfl) zk) ?_
        refine WL.nil (WE.sub (K' := [(0, .int .i64 v), (1, .int .i64 m), (4, .int .i64 0), (5, .bool false), (8, .bool ((decide ((0 : Int) ≤ (m : Int))))), (16, .bool ((decide (((2147483647 - m) : Int) < (v : Int)))))]) ⟨rfl, rfl, rfl, rfl, rfl, rfl, trivial⟩ ?_)
        refine WE.next ?_
        refine WC.ret ?_
        refine WE.thenRet ?_
        refine WE.thenRet ?_
        refine WE.ret2 rfl rfl rfl ?_
        exact ⟨_, rfl, ⟨0, congrArg (fun b => Value.tuple #[Value.int .i64 0, Value.bool b]) (Eq.symm (by rw [Bool.eq_iff_iff, mvOk_iff]; simp; omega)), fun h => by have z := mvOk_iff.1 h; omega⟩, (Below.refl _ _)⟩
      · have h3 : ¬ (((2147483647 - m) : Int) < (v : Int)) := by simpa using h3
        refine WC.skip ?_
        refine WE.next ?_
        refine WC.seq ?_
        refine WC.region ?_
        refine WL.val (.int .i64 v) rfl rfl rfl (fun za zC zh zk => wp_move rfl (zh.ev rfl) zk) ?_
        refine WL.val (.int .i64 m) rfl rfl rfl (fun za zC zh zk => wp_move rfl (zh.ev rfl) zk) ?_
        refine WL.val (.int .i64 ((v + m))) rfl rfl rfl (fun za zC zh zk => addb_3 rfl (zh.ev rfl) (zh.ev rfl) (wrap_eq (by omega) (by omega) (by omega)) zk) ?_
        refine WL.val (.int .i64 ((v + m))) rfl rfl rfl (fun za zC zh zk => wp_assign rfl (zh.ev rfl) zk) ?_
        refine WL.val (.bool true) rfl rfl rfl (fun za zC zh zk => wp_assign rfl (zh.ev rfl) zk) ?_
        refine WL.nil (WE.sub (K' := [(0, .int .i64 v), (1, .int .i64 m), (4, .int .i64 ((v + m))), (5, .bool true), (8, .bool ((decide ((0 : Int) ≤ (m : Int))))), (16, .bool ((decide (((2147483647 - m) : Int) < (v : Int)))))]) ⟨rfl, rfl, rfl, rfl, rfl, rfl, trivial⟩ ?_)
        refine WE.next ?_
        refine WC.ret ?_
        refine WE.thenRet ?_
        refine WE.ret2 rfl rfl rfl ?_
        exact ⟨_, rfl, ⟨(v + m), congrArg (fun b => Value.tuple #[Value.int .i64 ((v + m)), Value.bool b]) (Eq.symm (by rw [Bool.eq_iff_iff, mvOk_iff]; simp; omega)), fun h => by have z := mvOk_iff.1 h; omega⟩, (Below.refl _ _)⟩
  · have h1 : ¬ ((0 : Int) ≤ (m : Int)) := by simpa using h1
    refine WC.skip ?_
    refine WE.next ?_
    refine WC.seq ?_
    refine WC.region ?_
    refine WL.val (.int .i64 v) rfl rfl rfl (fun za zC zh zk => wp_move rfl (zh.ev rfl) zk) ?_
    refine WL.val (.int .i64 m) rfl rfl rfl (fun za zC zh zk => wp_move rfl (zh.ev rfl) zk) ?_
    refine WL.val (.int .i64 ((v + m))) rfl rfl rfl (fun za zC zh zk => addb_3 rfl (zh.ev rfl) (zh.ev rfl) (wrap_eq (by omega) (by omega) (by omega)) zk) ?_
    refine WL.val (.int .i64 ((v + m))) rfl rfl rfl (fun za zC zh zk => wp_assign rfl (zh.ev rfl) zk) ?_
    refine WL.nil (WE.sub (K' := [(0, .int .i64 v), (1, .int .i64 m), (4, .int .i64 0), (5, .bool false), (6, .int .i64 ((v + m))), (8, .bool ((decide ((0 : Int) ≤ (m : Int)))))]) ⟨rfl, rfl, rfl, rfl, rfl, rfl, trivial⟩ ?_)
    refine WE.next ?_
    refine WC.seq ?_
    refine WC.region ?_
    refine WL.val (.int .i64 ((v + m))) rfl rfl rfl (fun za zC zh zk => wp_move rfl (zh.ev rfl) zk) ?_
    refine WL.val (.int .i64 ((v + m))) rfl rfl rfl (fun za zC zh zk => wp_move rfl (zh.ev rfl) zk) ?_
    refine WL.val (.bool ((decide ((0 : Int) ≤ ((v + m) : Int))))) rfl rfl rfl (fun za zC zh zk => geq_3 rfl (zh.ev rfl) (zh.ev rfl) zk) ?_
    refine WL.val (.bool ((decide ((0 : Int) ≤ ((v + m) : Int))))) rfl rfl rfl (fun za zC zh zk => wp_move rfl (zh.ev rfl) zk) ?_
    refine bool_split ((decide ((0 : Int) ≤ ((v + m) : Int)))) (fun h4 => ?_) (fun h4 => ?_)
    · refine WL.sub (K' := [(0, .int .i64 v), (1, .int .i64 m), (4, .int .i64 0), (5, .bool false), (6, .int .i64 ((v + m))), (8, .bool ((decide ((0 : Int) ≤ (m : Int))))), (23, .int .i64 ((v + m))), (24, .int .i64 ((v + m))), (25, .bool ((decide ((0 : Int) ≤ ((v + m) : Int))))), (26, .bool true)]) ⟨rfl, rfl, rfl, rfl, rfl, rfl, rfl, rfl, rfl, (congrArg (fun z => some (Value.bool z)) h4), trivial⟩ ?_
      have h4 : (0 : Int) ≤ ((v + m) : Int) := by simpa using h4
      refine WL.want (d := 26) rfl rfl rfl ?_
      refine WL.val (.int .i64 ((v + m))) rfl rfl rfl (fun za zC zh zk => wp_move rfl (zh.ev rfl) zk) ?_
      refine WL.want (d := 26) rfl rfl rfl ?_
      refine WL.val (.bool ((decide (((v + m) : Int) ≤ (2147483647 : Int))))) rfl rfl rfl (fun za zC zh zk => leq_3 rfl (zh.ev rfl) (zh.ev rfl) zk) ?_
      refine WL.val (.bool ((decide (((v + m) : Int) ≤ (2147483647 : Int))))) rfl rfl rfl (fun za zC zh zk => wp_pickT rfl (zh.ev rfl) (zh.ev rfl) zk) ?_
      refine WL.val (.int .i64 ((v + m))) rfl rfl rfl (fun za zC zh zk => wp_assign rfl (zh.ev rfl) zk) ?_
      refine WL.val (.bool ((decide (((v + m) : Int) ≤ (2147483647 : Int))))) rfl rfl rfl (fun za zC zh zk => wp_assign rfl (zh.ev rfl) zk) ?_
      refine WL.nil (WE.sub (K' := [(0, .int .i64 v), (1, .int .i64 m), (4, .int .i64 ((v + m))), (5, .bool ((decide (((v + m) : Int) ≤ (2147483647 : Int))))), (6, .int .i64 ((v + m))), (8, .bool ((decide ((0 : Int) ≤ (m : Int)))))]) ⟨rfl, rfl, rfl, rfl, rfl, rfl, trivial⟩ ?_)
      refine WE.next ?_
      refine WC.ret ?_
      refine WE.ret2 rfl rfl rfl ?_
      exact ⟨_, rfl, ⟨(v + m), congrArg (fun b => Value.tuple #[Value.int .i64 ((v + m)), Value.bool b]) (Eq.symm (by rw [Bool.eq_iff_iff, mvOk_iff]; simp; omega)), fun h => by have z := mvOk_iff.1 h; omega⟩, (Below.refl _ _)⟩
    · refine WL.sub (K' := [(0, .int .i64 v), (1, .int .i64 m), (4, .int .i64 0), (5, .bool false), (6, .int .i64 ((v + m))), (8, .bool ((decide ((0 : Int) ≤ (m : Int))))), (23, .int .i64 ((v + m))), (24, .int .i64 ((v + m))), (25, .bool ((decide ((0 : Int) ≤ ((v + m) : Int))))), (26, .bool false)]) ⟨rfl, rfl, rfl, rfl, rfl, rfl, rfl, rfl, rfl, (congrArg (fun z => some (Value.bool z)) h4), trivial⟩ ?_
      have h4 : ¬ ((0 : Int) ≤ ((v + m) : Int)) := by simpa using h4
      refine WL.skip (d := 26) rfl rfl rfl rfl rfl ?_
      refine WL.skip (d := 26) rfl rfl rfl rfl rfl ?_
      refine WL.val (.bool false) rfl rfl rfl (fun za zC zh zk => wp_pickF rfl (zh.ev rfl) (zh.ev rfl) zk) ?_
      refine WL.val (.int .i64 ((v + m))) rfl rfl rfl (fun za zC zh zk => wp_assign rfl (zh.ev rfl) zk) ?_
      refine WL.val (.bool false) rfl rfl rfl (fun za zC zh zk => wp_assign rfl (zh.ev rfl) zk) ?_
      refine WL.nil (WE.sub (K' := [(0, .int .i64 v), (1, .int .i64 m), (4, .int .i64 ((v + m))), (5, .bool false), (6, .int .i64 ((v + m))), (8, .bool ((decide ((0 : Int) ≤ (m : Int)))))]) ⟨rfl, rfl, rfl, rfl, rfl, rfl, trivial⟩ ?_)
      refine WE.next ?_
      refine WC.ret ?_
      refine WE.ret2 rfl rfl rfl ?_
      exact ⟨_, rfl, ⟨(v + m), congrArg (fun b => Value.tuple #[Value.int .i64 ((v + m)), Value.bool b]) (Eq.symm (by rw [Bool.eq_iff_iff, mvOk_iff]; simp; omega)), fun h => by have z := mvOk_iff.1 h; omega⟩, (Below.refl _ _)⟩

set_option maxRecDepth 100000 in
theorem rmove_any (m : Int) (hm : I64 m) : ∀ (t : T) (w : World) (v : Value), t.size ≤ 4294967296 → IsT w t v → Calls Try.prog 22 #[v, .int .i64 m] w (Ret fun v' w' => NewT w w' (t.mv m) v' ∧ Below w.heap.size w w') := by
  refine T.ind (fun f l ih => ?_)
  intro w v hz hv 
  have hlen := len_le_sizeL l
  have hz' := hz
  simp only [T.size] at hz'
  obtain ⟨hf, a, c, rfl, hc, hmx, hl⟩ := hv
  have hf' := hf
  unfold I64 at hf'

  refine Calls.walk (l := [.agg #[.int .i64 f, .slice a l.length c], .int .i64 m]) Try.func22 rfl (by kernel_rfl) ?_
  refine WC.sub (K' := [(0, .agg #[.int .i64 f, .slice a l.length c]), (1, .int .i64 m)]) ⟨rfl, rfl, trivial⟩ ?_
  refine WC.seq ?_
  refine WC.region ?_
  refine WL.step (post := NewBlk w 32 #[.int .i64 f, .slice a l.length c]) rfl rfl rfl (fun za zC zh zk => box_32 rfl (zh.ev rfl) (zk _ _ (newBlk _ _ _))) ?_
  rintro _ w1 ⟨g2, rfl, hg3, hB4, hb5, hz6⟩
  have hl7 : w.heap.size ≤ g2 := by omega
  refine WL.step (post := NewBlk w1 32 #[.int .i64 0, .slice none 0 0]) rfl rfl rfl (fun za zC zh zk => alloc_32 rfl (zk _ _ (newBlk _ _ _))) ?_
  rintro _ w8 ⟨g9, rfl, hg10, hB11, hb12, hz13⟩
  have hl14 : g2 < g9 := by have z1 := hB4.lt; omega
  have hl15 : w.heap.size ≤ g9 := by have z2 := (hb5).size; omega
  refine WL.nil (WE.sub (K' := [(0, .agg #[.int .i64 f, .slice a l.length c]), (1, .int .i64 m), (2, .pointer (some ⟨g2, 0, none⟩)), (4, .pointer (some ⟨g9, 0, none⟩))]) ⟨rfl, rfl, rfl, rfl, trivial⟩ ?_)
  refine WE.next ?_
  refine WC.seq ?_
  refine WC.region ?_
  refine WL.val (.pointer (some ⟨g2, 0, none⟩)) rfl rfl rfl (fun za zC zh zk => fld_32_0 rfl (zh.ev rfl) zk) ?_
  have hB16 := hB4.below hb12
  refine WL.val (.int .i64 f) rfl rfl rfl (fun za zC zh zk => ld_3 rfl (zh.ev rfl) ((hB16.cell 0).trans rfl) zk) ?_
  refine WL.val (.agg #[.int .i64 f, .slice none 0 0]) rfl rfl rfl (fun za zC zh zk => build_32_0 rfl (zh.ev rfl) zk) ?_
  refine WL.step (post := NewBlk w8 32 #[.int .i64 0, .slice none 0 0]) rfl rfl rfl (fun za zC zh zk => alloc_32 rfl (zk _ _ (newBlk _ _ _))) ?_
  rintro _ w17 ⟨g18, rfl, hg19, hB20, hb21, hz22⟩
  have hl23 : g2 < g18 := by have z1 := hB16.lt; omega
  have hl24 : g9 < g18 := by have z1 := hB11.lt; omega
  have hb25 : Below w.heap.size w w8 := (bstep hb5 hb12)
  have hl26 : w.heap.size ≤ g18 := by have z2 := (hb25).size; omega
  refine WL.step (post := fun _ w' => Upd g18 w17 w' ∧ Blk w' g18 32 #[.int .i64 f, .slice none 0 0]) rfl rfl rfl (fun za zC zh zk => st_32 rfl (zh.ev rfl) (zh.ev rfl) rfl rfl hB20 (by first | decide | simp) (fun v => zk v _ ⟨(Upd.at_ _ _ _ _).trans (Upd.at_ _ _ _ _), (hB20.set_ 0 _).set_ 1 _⟩)) ?_
  rintro v30 w27 ⟨hu28, hB29⟩
  have hb31 : Below w.heap.size w w17 := (bstep hb25 hb21)
  have hb32 := upd_below hb31 hu28 (by omega)
  have hB33 := hB16.below hb21
  have hB34 := upd_blk hB33 hu28 (by omega)
  have hB35 := hB11.below hb21
  have hB36 := upd_blk hB35 hu28 (by omega)
  refine WL.nil (WE.sub (K' := [(0, .agg #[.int .i64 f, .slice a l.length c]), (1, .int .i64 m), (2, .pointer (some ⟨g2, 0, none⟩)), (4, .pointer (some ⟨g9, 0, none⟩)), (5, .pointer (some ⟨g18, 0, none⟩))]) ⟨rfl, rfl, rfl, rfl, rfl, trivial⟩ ?_)
  refine WE.next ?_
  refine WC.seq ?_
  refine WC.seq ?_
  refine WC.region ?_
  refine WL.val (.pointer (some ⟨g2, 0, none⟩)) rfl rfl rfl (fun za zC zh zk => fld_32_0 rfl (zh.ev rfl) zk) ?_
  refine WL.val (.int .i64 f) rfl rfl rfl (fun za zC zh zk => ld_3 rfl (zh.ev rfl) ((hB34.cell 0).trans rfl) zk) ?_
  refine WL.val (.bool ((decide ((f : Int) < (0 : Int))))) rfl rfl rfl (fun za zC zh zk => lss_3 rfl (zh.ev rfl) (zh.ev rfl) zk) ?_
  refine WL.nil (WE.sub (K' := [(0, .agg #[.int .i64 f, .slice a l.length c]), (1, .int .i64 m), (2, .pointer (some ⟨g2, 0, none⟩)), (4, .pointer (some ⟨g9, 0, none⟩)), (5, .pointer (some ⟨g18, 0, none⟩)), (14, .bool ((decide ((f : Int) < (0 : Int)))))]) ⟨rfl, rfl, rfl, rfl, rfl, rfl, trivial⟩ ?_)
  refine WE.next ?_
  refine WC.cond rfl (fun h37 => ?_) (fun h37 => ?_)
  · have h37 : (f : Int) < (0 : Int) := by simpa using h37
    refine WC.seq ?_
    refine WC.region ?_
    refine WL.val (.pointer (some ⟨g2, 0, none⟩)) rfl rfl rfl (fun za zC zh zk => fld_32_0 rfl (zh.ev rfl) zk) ?_
    refine WL.val (.int .i64 f) rfl rfl rfl (fun za zC zh zk => ld_3 rfl (zh.ev rfl) ((hB34.cell 0).trans rfl) zk) ?_
    refine WL.val (.int .i64 ((-1 - f))) rfl rfl rfl (fun za zC zh zk => subb_3 rfl (zh.ev rfl) (zh.ev rfl) (wrap_eq rfl (by omega) (by omega)) zk) ?_
    refine WL.val (.int .i64 m) rfl rfl rfl (fun za zC zh zk => wp_move rfl (zh.ev rfl) zk) ?_
    refine WL.call rfl rfl rfl (fun za zh zC => wp_call (by kernel_rfl) rfl (hv2 (zh.ev rfl) (zh.ev rfl))) (to_any (-1 - f) m _ (by omega) (by omega) hm) ?_
    rintro _ w39 ⟨⟨mn, rfl, hmn⟩, hq38⟩
    refine WL.val (.tuple #[.int .i64 mn, .bool ((mvOk (-1 - f) m))]) rfl rfl rfl (fun za zC zh zk => wp_move rfl (zh.ev rfl) zk) ?_
    refine WL.val (.int .i64 mn) rfl rfl rfl (fun za zC zh zk => ext2_0 rfl (zh.ev rfl) zk) ?_
    refine WL.val (.bool ((mvOk (-1 - f) m))) rfl rfl rfl (fun za zC zh zk => ext2_1 rfl (zh.ev rfl) zk) ?_
    refine WL.val (.int .i64 mn) rfl rfl rfl (fun za zC zh zk => wp_assign rfl (zh.ev rfl) zk) ?_
    refine WL.val (.bool ((mvOk (-1 - f) m))) rfl rfl rfl (fun za zC zh zk => wp_assign rfl (zh.ev rfl) zk) ?_
    refine WL.nil (WE.sub (K' := [(0, .agg #[.int .i64 f, .slice a l.length c]), (1, .int .i64 m), (2, .pointer (some ⟨g2, 0, none⟩)), (4, .pointer (some ⟨g9, 0, none⟩)), (5, .pointer (some ⟨g18, 0, none⟩)), (6, .int .i64 mn), (7, .bool ((mvOk (-1 - f) m))), (14, .bool ((decide ((f : Int) < (0 : Int)))))]) ⟨rfl, rfl, rfl, rfl, rfl, rfl, rfl, rfl, trivial⟩ ?_)
    refine WE.next ?_
    refine WC.seq ?_
    refine WC.region ?_
    refine WL.val (.bool ((mvOk (-1 - f) m))) rfl rfl rfl (fun za zC zh zk => wp_move rfl (zh.ev rfl) zk) ?_
    refine WL.nil (WE.sub (K' := [(0, .agg #[.int .i64 f, .slice a l.length c]), (1, .int .i64 m), (2, .pointer (some ⟨g2, 0, none⟩)), (4, .pointer (some ⟨g9, 0, none⟩)), (5, .pointer (some ⟨g18, 0, none⟩)), (6, .int .i64 mn), (7, .bool ((mvOk (-1 - f) m))), (14, .bool ((decide ((f : Int) < (0 : Int))))), (23, .bool ((mvOk (-1 - f) m)))]) ⟨rfl, rfl, rfl, rfl, rfl, rfl, rfl, rfl, rfl, trivial⟩ ?_)
    refine WE.next ?_
    refine WC.cond rfl (fun h40 => ?_) (fun h40 => ?_)
    · skip
      have hmn1 := hmn h40
      have hrg := mvTo_range (v := -1 - f) (m := m) (by omega) (by omega)
      rw [mvTo_yes h40] at hrg
      refine WC.region ?_
      refine WL.val (.int .i64 mn) rfl rfl rfl (fun za zC zh zk => wp_move rfl (zh.ev rfl) zk) ?_
      refine WL.val (.int .i64 ((-1 - mn))) rfl rfl rfl (fun za zC zh zk => subb_3 rfl (zh.ev rfl) (zh.ev rfl) (wrap_eq rfl (by omega) (by omega)) zk) ?_
      refine WL.val (.pointer (some ⟨g18, 0, none⟩)) rfl rfl rfl (fun za zC zh zk => fld_32_0 rfl (zh.ev rfl) zk) ?_
      have hB41 := hB29.below hq38
      refine WL.step (post := fun _ w' => Upd g18 w39 w' ∧ Blk w' g18 32 #[.int .i64 ((-1 - mn)), .slice none 0 0]) rfl rfl rfl (fun za zC zh zk => st_3 rfl (zh.ev rfl) (zh.ev rfl) hB41 (by first | decide | simp) (fun v => zk v _ ⟨Upd.at_ _ _ _ _, hB41.set_ 0 _⟩)) ?_
      rintro v45 w42 ⟨hu43, hB44⟩
      have hb46 : Below w.heap.size w w39 := (bstep hb32 hq38)
      have hb47 := upd_below hb46 hu43 (by omega)
      have hB48 := hB34.below hq38
      have hB49 := upd_blk hB48 hu43 (by omega)
      have hB50 := hB36.below hq38
      have hB51 := upd_blk hB50 hu43 (by omega)
      refine WL.nil (WE.sub (K' := [(0, .agg #[.int .i64 f, .slice a l.length c]), (1, .int .i64 m), (2, .pointer (some ⟨g2, 0, none⟩)), (4, .pointer (some ⟨g9, 0, none⟩)), (5, .pointer (some ⟨g18, 0, none⟩)), (6, .int .i64 mn), (7, .bool ((mvOk (-1 - f) m))), (14, .bool ((decide ((f : Int) < (0 : Int))))), (23, .bool ((mvOk (-1 - f) m)))]) ⟨rfl, rfl, rfl, rfl, rfl, rfl, rfl, rfl, rfl, trivial⟩ ?_)
      refine WE.next ?_
      refine WC.seq ?_
      refine WC.seq ?_
      refine WC.region ?_
      refine WL.val (.int .i64 0) rfl rfl rfl (fun za zC zh zk => wp_assign rfl (zh.ev rfl) zk) ?_
      refine WL.nil (WE.sub (K' := [(0, .agg #[.int .i64 f, .slice a l.length c]), (1, .int .i64 m), (2, .pointer (some ⟨g2, 0, none⟩)), (4, .pointer (some ⟨g9, 0, none⟩)), (5, .pointer (some ⟨g18, 0, none⟩)), (6, .int .i64 mn), (7, .bool ((mvOk (-1 - f) m))), (8, .int .i64 0), (14, .bool ((decide ((f : Int) < (0 : Int))))), (23, .bool ((mvOk (-1 - f) m)))]) ⟨rfl, rfl, rfl, rfl, rfl, rfl, rfl, rfl, rfl, rfl, trivial⟩ ?_)
      refine WE.next ?_
      refine WC.block ?_
      have hmf : mvF f m = -1 - mn := by rw [mvF_neg (by omega), mvTo_yes h40]; omega
      have hl52 : g2 < w42.heap.size := by have z1 := hB49.lt; omega
      have hl53 : g9 < w42.heap.size := by have z1 := hB51.lt; omega
      have hl54 : g18 < w42.heap.size := by have z1 := hB44.lt; omega
      have hl55 : w.heap.size ≤ w42.heap.size := (hb47).size
      have hR56 : RowE eltT w42 w42.heap.size 32 none 0 0 [] := RowE.nil
      refine WC.loop (X := Option Addr × Nat × Nat) (fun x => l.length - x.2.2) (fun x => [(0, .agg #[.int .i64 f, .slice a l.length c]), (1, .int .i64 m), (2, .pointer (some ⟨g2, 0, none⟩)), (4, .pointer (some ⟨g9, 0, none⟩)), (5, .pointer (some ⟨g18, 0, none⟩)), (6, .int .i64 mn), (7, .bool ((mvOk (-1 - f) m))), (8, .int .i64 (((x.2.2 : Nat) : Int))), (14, .bool ((decide ((f : Int) < (0 : Int))))), (23, .bool ((mvOk (-1 - f) m)))]) (fun x w57 => x.2.2 ≤ l.length ∧ w42.heap.size ≤ (w57).heap.size ∧ Below w.heap.size w w57 ∧ Blk w57 g2 32 #[.int .i64 f, .slice a l.length c] ∧ Blk w57 g9 32 #[.int .i64 0, .slice none 0 0] ∧ Blk w57 g18 32 #[.int .i64 ((-1 - mn)), .slice x.1 x.2.2 x.2.1] ∧ RowE eltT (w57) w42.heap.size 32 x.1 x.2.1 x.2.2 ((l.take x.2.2).map (T.mv m))) ((none, 0, 0)) ⟨rfl, rfl, rfl, rfl, rfl, rfl, rfl, rfl, rfl, rfl, trivial⟩ ?_ ?_
      · exact ⟨Nat.zero_le _, Nat.le_refl _, hb47, hB49, hB51, hB44, (by simpa using hR56)⟩
      · rintro x w57 ⟨hk, hBw, hb58, hB59, hB60, hB61, ho62⟩
        refine WC.seq ?_
        refine WC.seq ?_
        refine WC.region ?_
        refine WL.val (.int .i64 (((x.2.2 : Nat) : Int))) rfl rfl rfl (fun za zC zh zk => wp_move rfl (zh.ev rfl) zk) ?_
        refine WL.val (.pointer (some ⟨g2, 1, none⟩)) rfl rfl rfl (fun za zC zh zk => fld_32_1 rfl (zh.ev rfl) zk) ?_
        refine WL.val (.slice a l.length c) rfl rfl rfl (fun za zC zh zk => ld_30 rfl (zh.ev rfl) ((hB59.cell 1).trans rfl) zk) ?_
        refine WL.val (.int .i64 (((l.length : Nat) : Int))) rfl rfl rfl (fun za zC zh zk => len_30 rfl (zh.ev rfl) zk) ?_
        refine WL.val (.bool ((decide ((((x.2.2 : Nat) : Int) : Int) < (((l.length : Nat) : Int) : Int))))) rfl rfl rfl (fun za zC zh zk => lss_3 rfl (zh.ev rfl) (zh.ev rfl) zk) ?_
        refine WL.nil (WE.sub (K' := [(0, .agg #[.int .i64 f, .slice a l.length c]), (1, .int .i64 m), (2, .pointer (some ⟨g2, 0, none⟩)), (4, .pointer (some ⟨g9, 0, none⟩)), (5, .pointer (some ⟨g18, 0, none⟩)), (6, .int .i64 mn), (7, .bool ((mvOk (-1 - f) m))), (8, .int .i64 (((x.2.2 : Nat) : Int))), (14, .bool ((decide ((f : Int) < (0 : Int))))), (23, .bool ((mvOk (-1 - f) m))), (31, .bool ((decide ((((x.2.2 : Nat) : Int) : Int) < (((l.length : Nat) : Int) : Int)))))]) ⟨rfl, rfl, rfl, rfl, rfl, rfl, rfl, rfl, rfl, rfl, rfl, trivial⟩ ?_)
        refine WE.next ?_
        refine WC.cond rfl (fun h63 => ?_) (fun h63 => ?_)
        · have h63 : (((x.2.2 : Nat) : Int) : Int) < (((l.length : Nat) : Int) : Int) := by simpa using h63
          refine WC.skip ?_
          refine WE.next ?_
          refine WC.seq ?_
          refine WC.block ?_
          obtain ⟨b64, o65, A66, C67, ha68, hc69⟩ := IsTs.open hl
          have hSlt : ∀ b, (fun b => b = g18 ∨ (Value.slice x.1 x.2.2 x.2.1).ownBlock = some b) b → b < w57.heap.size := fun b h => h.elim (fun e => e ▸ hB61.lt) (fun h => (ho62.lt b h).2)
          have hSlo : ∀ b, (fun b => b = g18 ∨ (Value.slice x.1 x.2.2 x.2.1).ownBlock = some b) b → b = g18 ∨ (w42.heap.size ≤ b ∧ b < w57.heap.size) := fun b h => h.imp id (fun h => ho62.lt b h)
          have hBW : w42.heap.size ≤ w57.heap.size := by have z1 := hBw; omega
          have hlL : x.2.2 = (((l.take x.2.2).map (T.mv m))).length := ho62.len
          refine WC.tail2 (S := ((fun b => b = g18 ∨ (Value.slice x.1 x.2.2 x.2.1).ownBlock = some b))) [(true, .val (.pointer (some ⟨g18, 1, none⟩))), (true, .val (.slice x.1 x.2.2 x.2.1)), (true, .val (.pointer (some ⟨g2, 1, none⟩))), (true, .val (.slice a l.length c)), (true, .val (.int .i64 (((x.2.2 : Nat) : Int)))), (true, .val (.pointer (some ⟨b64, o65 + x.2.2 * 2, none⟩))), (true, .val (.agg #[.int .i64 ((tget l x.2.2).f), .slice ((A66 x.2.2)) ((tget l x.2.2).args.length) ((C67 x.2.2))])), (true, .val (.int .i64 m)), (true, .mem (fun v w' => NewT w57 w' (((tget l x.2.2).mv m)) v) (fun v w w' hc h => InT.chg h hc (fun b hb hs => by have z := hSlt b hs; omega))), (true, .mem (fun v w' => OneRow eltT w57 32 (((tget l x.2.2).mv m)) v w') (fun v w w' hc h => h.chg hc hSlt)), (true, .val undef), (true, .val (.pointer (some ⟨g18, 1, none⟩))), (true, .val undef)] [(0, .agg #[.int .i64 f, .slice a l.length c]), (1, .int .i64 m), (2, .pointer (some ⟨g2, 0, none⟩)), (4, .pointer (some ⟨g9, 0, none⟩)), (5, .pointer (some ⟨g18, 0, none⟩)), (6, .int .i64 mn), (7, .bool ((mvOk (-1 - f) m))), (8, .int .i64 (((x.2.2 : Nat) : Int))), (14, .bool ((decide ((f : Int) < (0 : Int))))), (23, .bool ((mvOk (-1 - f) m))), (31, .bool ((decide ((((x.2.2 : Nat) : Int) : Int) < (((l.length : Nat) : Int) : Int)))))] 10 12 ((x.2.2 + 1)) 44 (fun ra rc w => RowE eltT w w42.heap.size 32 ra rc (x.2.2 + 1) (((l.take x.2.2).map (T.mv m) ++ [((tget l x.2.2).mv m)])) ∧ Blk w g18 32 #[.int .i64 ((-1 - mn)), .slice x.1 x.2.2 x.2.1]) (fun ra rc w => RowE eltT w w42.heap.size 32 ra rc (x.2.2 + 1) (((l.take x.2.2).map (T.mv m) ++ [((tget l x.2.2).mv m)])) ∧ Blk w g18 32 #[.int .i64 ((-1 - mn)), .slice ra ((x.2.2 + 1)) rc]) (by decide) (fun ra rc w w' hb h => ⟨h.1.below hb, h.2.below hb⟩) (fun ra rc w w' hb h => ⟨h.1.below hb, h.2.below hb⟩) ⟨rfl, rfl, rfl, rfl, rfl, rfl, rfl, rfl, rfl, rfl, rfl, trivial⟩ (by kernel_rfl) (by kernel_rfl) (by kernel_rfl) (by kernel_rfl) (by kernel_rfl) ?_ ?_
          · refine ⟨.inl ⟨rfl, true, .none rfl, (fun gg b h => by cases h), fun h w => optUndef h, fun zβ za zw zc => ?_⟩, ?_⟩
            · exact fld_32_1 rfl (zc.kn.ev rfl) ⟨_, rfl, Below.refl _ _, optDef zβ rfl⟩
            refine ⟨.inl ⟨rfl, true, .none rfl, (fun gg b h => by cases h), fun h w => optUndef h, fun zβ za zw zc => ?_⟩, ?_⟩
            · exact ld_30 rfl ((show za.eval (.tmp 34) = za.tmps.getD 34 undef from rfl).trans (optSVal (zc.dep 0 34 (by kernel_rfl) (by decide)) rfl rfl)) (bkeeps (zc.early (by kernel_rfl)) _ _ ((hB61.cell 1).trans rfl)) ⟨_, rfl, Below.refl _ _, optDef zβ rfl⟩
            refine ⟨.inl ⟨rfl, true, .none rfl, (fun gg b h => by cases h), fun h w => optUndef h, fun zβ za zw zc => ?_⟩, ?_⟩
            · exact fld_32_1 rfl (zc.kn.ev rfl) ⟨_, rfl, Below.refl _ _, optDef zβ rfl⟩
            refine ⟨.inl ⟨rfl, true, .none rfl, (fun gg b h => by cases h), fun h w => optUndef h, fun zβ za zw zc => ?_⟩, ?_⟩
            · exact ld_30 rfl ((show za.eval (.tmp 36) = za.tmps.getD 36 undef from rfl).trans (optSVal (zc.dep 2 36 (by kernel_rfl) (by decide)) rfl rfl)) (bkeeps (zc.early (by kernel_rfl)) _ _ ((hB59.cell 1).trans rfl)) ⟨_, rfl, Below.refl _ _, optDef zβ rfl⟩
            refine ⟨.inl ⟨rfl, true, .none rfl, (fun gg b h => by cases h), fun h w => optUndef h, fun zβ za zw zc => ?_⟩, ?_⟩
            · exact wp_move rfl (zc.kn.ev rfl) ⟨_, rfl, Below.refl _ _, optDef zβ rfl⟩
            refine ⟨.inl ⟨rfl, true, .none rfl, (fun gg b h => by cases h), fun h w => optUndef h, fun zβ za zw zc => ?_⟩, ?_⟩
            · exact ix_30 (k := x.2.2) rfl ((show za.eval (.tmp 37) = za.tmps.getD 37 undef from rfl).trans (optSVal (zc.dep 3 37 (by kernel_rfl) (by decide)) rfl rfl)) (ha68 x.2.2 (by first | omega | (simp; omega))) ((show za.eval (.tmp 38) = za.tmps.getD 38 undef from rfl).trans (optSVal (zc.dep 4 38 (by kernel_rfl) (by decide)) rfl rfl)) (by first | omega | (simp; omega)) ⟨_, rfl, Below.refl _ _, optDef zβ rfl⟩
            refine ⟨.inl ⟨rfl, true, .none rfl, (fun gg b h => by cases h), fun h w => optUndef h, fun zβ za zw zc => ?_⟩, ?_⟩
            · exact ld_32 rfl ((show za.eval (.tmp 39) = za.tmps.getD 39 undef from rfl).trans (optSVal (zc.dep 5 39 (by kernel_rfl) (by decide)) rfl rfl)) (bkeeps (bstep hb58 (zc.early (by kernel_rfl))) _ _ (hc69 x.2.2 (by first | omega | (simp; omega))).1) (bkeeps (bstep hb58 (zc.early (by kernel_rfl))) _ _ (hc69 x.2.2 (by first | omega | (simp; omega))).2.1) ⟨_, rfl, Below.refl _ _, optDef zβ rfl⟩
            refine ⟨.inl ⟨rfl, true, .none rfl, (fun gg b h => by cases h), fun h w => optUndef h, fun zβ za zw zc => ?_⟩, ?_⟩
            · exact wp_move rfl (zc.kn.ev rfl) ⟨_, rfl, Below.refl _ _, optDef zβ rfl⟩
            refine ⟨.inl ⟨rfl, true, .none rfl, (fun gg b h => by cases h), fun h w => optUndef h, fun zβ za zw zc => ?_⟩, ?_⟩
            · exact wp_call (by kernel_rfl) rfl (hv2 ((show za.eval (.tmp 40) = za.tmps.getD 40 undef from rfl).trans (optSVal (zc.dep 6 40 (by kernel_rfl) (by decide)) rfl rfl)) ((show za.eval (.tmp 41) = za.tmps.getD 41 undef from rfl).trans (optSVal (zc.dep 7 41 (by kernel_rfl) (by decide)) rfl rfl))) (ih _ (tget_mem (by omega)) _ _ (size_at (by omega) hz) (IsT.below (bstep hb58 (zc.early (by kernel_rfl))) (hc69 x.2.2 (by first | omega | (simp; omega))).2.2)) (fun v w' h => ⟨v, rfl, h.2, optDef zβ (InT.mono (fun b hb _ => Nat.le_trans (zc.early (by kernel_rfl)).size hb) h.1)⟩)
            refine ⟨.inl ⟨rfl, true, .none rfl, (fun gg b h => by cases h), fun h w => optUndef h, fun zβ za zw zc => ?_⟩, ?_⟩
            · have zv := (optSMem (zc.dep 8 42 (by kernel_rfl) (by decide)) rfl rfl)
              obtain ⟨_, a1, c1, e1, _⟩ := zv.form
              rw [e1] at zv
              exact row_30_1 rfl ((show za.eval (.tmp 42) = za.tmps.getD 42 undef from rfl).trans e1) ⟨_, rfl, balloc _ _, optDef zβ ⟨_, _, rfl, zc.chg.size, Blk.new' rfl, _, _, rfl, zv.below (balloc _ _)⟩⟩
            refine ⟨.inr (.inl ⟨rfl, rfl, fun za zw zc => ?_⟩), ?_⟩
            · obtain ⟨g1, cs, e1, hg1, hB1, hin⟩ := (optSMem (zc.dep 9 43 (by kernel_rfl) (by decide)) rfl rfl)
              exact wp_appE (E := eltT) (size := 2) (bytes := 32) (z := .agg #[.int .i64 0, .slice none 0 0]) rfl Try.underlying30 (by kernel_rfl) rfl (by decide) rfl ((show za.eval (.tmp 35) = za.tmps.getD 35 undef from rfl).trans (optSVal (zc.dep 1 35 (by kernel_rfl) (by decide)) rfl rfl)) ((show za.eval (.tmp 43) = za.tmps.getD 43 undef from rfl).trans e1) (ho62.below zc.below) hB1 (eltT.mono (fun b hb _ => ⟨by omega, fun e => by have z := (ho62.lt b e).2; omega⟩) hin) (by omega) (by omega) (by have z := zc.below.size; omega) (fun ra rc w' h1 h2 _ => ⟨ra, rc, rfl, ⟨h1, chg_blk (hB61.below zc.below) h2 (fun e => by have z := (ho62.lt _ e).1; omega)⟩, h2.mono (fun b hb => .inr hb)⟩)
            refine ⟨.inl ⟨rfl, true, .none rfl, (fun gg b h => by cases h), fun h w => optUndef h, fun zβ za zw zc => ?_⟩, ?_⟩
            · exact fld_32_1 rfl (zc.kn.ev rfl) ⟨_, rfl, Below.refl _ _, optDef zβ rfl⟩
            refine ⟨.inr (.inr ⟨rfl, rfl, 44, by kernel_rfl, fun za zw ra rc zk zd zv zg => ?_⟩), ?_⟩
            · exact st_30 rfl ((show za.eval (.tmp 45) = za.tmps.getD 45 undef from rfl).trans (optSVal (zd 11 45 (by kernel_rfl) (by decide)) rfl rfl)) ((show za.eval (.tmp 44) = za.tmps.getD 44 undef from rfl).trans zv) zg.2 (by first | decide | simp) (fun v => ⟨v, rfl, ⟨zg.1.upd (Upd.at_ _ _ _ _) (by omega), zg.2.set_ 1 _⟩, .ofUpd (Upd.at_ _ _ _ _) (.inl rfl)⟩)
            exact trivial
          · intro za w70 ra73 rc74 zh zv hG71 hc72 zu
            have hb75 := chg_below hb58 hc72 (fun b hb => (fun h => by rcases hSlo _ h with h | h <;> omega))
            have hB76 := chg_blk hB59 hc72 (fun h => by rcases hSlo _ h with h | h <;> omega)
            have hB77 := chg_blk hB60 hc72 (fun h => by rcases hSlo _ h with h | h <;> omega)
            clear zu
            refine (show WE _ [(0, .agg #[.int .i64 f, .slice a l.length c]), (1, .int .i64 m), (2, .pointer (some ⟨g2, 0, none⟩)), (4, .pointer (some ⟨g9, 0, none⟩)), (5, .pointer (some ⟨g18, 0, none⟩)), (6, .int .i64 mn), (7, .bool ((mvOk (-1 - f) m))), (8, .int .i64 (((x.2.2 : Nat) : Int))), (14, .bool ((decide ((f : Int) < (0 : Int))))), (23, .bool ((mvOk (-1 - f) m))), (31, .bool ((decide ((((x.2.2 : Nat) : Int) : Int) < (((l.length : Nat) : Int) : Int)))))] w70 _ .normal from ?_) za (zh.sub ⟨rfl, rfl, rfl, rfl, rfl, rfl, rfl, rfl, rfl, rfl, rfl, trivial⟩)
            refine WE.blockNormal ?_
            refine WE.next ?_
            refine WC.region ?_
            refine WL.val (.int .i64 (((x.2.2 : Nat) : Int))) rfl rfl rfl (fun za zC zh zk => wp_move rfl (zh.ev rfl) zk) ?_
            refine WL.val (.int .i64 ((((x.2.2 + 1) : Nat) : Int))) rfl rfl rfl (fun za zC zh zk => addb_3 rfl (zh.ev rfl) (zh.ev rfl) (wrap_eq (by omega) (by omega) (by omega)) zk) ?_
            refine WL.val (.int .i64 ((((x.2.2 + 1) : Nat) : Int))) rfl rfl rfl (fun za zC zh zk => wp_assign rfl (zh.ev rfl) zk) ?_
            refine WL.nil (WE.sub (K' := [(0, .agg #[.int .i64 f, .slice a l.length c]), (1, .int .i64 m), (2, .pointer (some ⟨g2, 0, none⟩)), (4, .pointer (some ⟨g9, 0, none⟩)), (5, .pointer (some ⟨g18, 0, none⟩)), (6, .int .i64 mn), (7, .bool ((mvOk (-1 - f) m))), (8, .int .i64 ((((x.2.2 + 1) : Nat) : Int))), (14, .bool ((decide ((f : Int) < (0 : Int))))), (23, .bool ((mvOk (-1 - f) m))), (31, .bool ((decide ((((x.2.2 : Nat) : Int) : Int) < (((l.length : Nat) : Int) : Int)))))]) ⟨rfl, rfl, rfl, rfl, rfl, rfl, rfl, rfl, rfl, rfl, rfl, trivial⟩ ?_)
            refine WE.round ((ra73, rc74, x.2.2 + 1)) ⟨rfl, rfl, rfl, rfl, rfl, rfl, rfl, rfl, rfl, rfl, trivial⟩ ?_ ?_
            · exact ⟨by (try dsimp only at *); omega, (Nat.le_trans hBw hc72.size), hb75, hB76, hB77, hG71.2, (by rw [← take_mv (by (try dsimp only at *); omega)]; exact hG71.1)⟩
            · dsimp only; omega
        · have h63 : ¬ ((((x.2.2 : Nat) : Int) : Int) < (((l.length : Nat) : Int) : Int)) := by simpa using h63
          refine WC.exit ?_
          refine WE.thenExit ?_
          refine WE.thenExit ?_
          refine WE.blockIs rfl ?_
          refine WE.next ?_
          refine WC.seq ?_
          refine WC.region ?_
          refine WL.val (.agg #[.int .i64 ((-1 - mn)), .slice x.1 x.2.2 x.2.1]) rfl rfl rfl (fun za zC zh zk => ld_32 rfl (zh.ev rfl) ((hB61.cell 0).trans rfl) ((hB61.cell 1).trans rfl) zk) ?_
          refine WL.step (post := fun _ w' => Upd g9 w57 w' ∧ Blk w' g9 32 #[.int .i64 ((-1 - mn)), .slice x.1 x.2.2 x.2.1]) rfl rfl rfl (fun za zC zh zk => st_32 rfl (zh.ev rfl) (zh.ev rfl) rfl rfl hB60 (by first | decide | simp) (fun v => zk v _ ⟨(Upd.at_ _ _ _ _).trans (Upd.at_ _ _ _ _), (hB60.set_ 0 _).set_ 1 _⟩)) ?_
          rintro v81 w78 ⟨hu79, hB80⟩
          have hb82 := upd_below hb58 hu79 (by omega)
          have hB83 := upd_blk hB59 hu79 (by omega)
          have hB84 := upd_blk hB61 hu79 (by omega)
          have ho85 := ho62.upd hu79 (by omega)
          refine WL.nil (WE.sub (K' := [(0, .agg #[.int .i64 f, .slice a l.length c]), (1, .int .i64 m), (2, .pointer (some ⟨g2, 0, none⟩)), (4, .pointer (some ⟨g9, 0, none⟩)), (5, .pointer (some ⟨g18, 0, none⟩)), (6, .int .i64 mn), (7, .bool ((mvOk (-1 - f) m))), (8, .int .i64 (((x.2.2 : Nat) : Int))), (14, .bool ((decide ((f : Int) < (0 : Int))))), (23, .bool ((mvOk (-1 - f) m))), (31, .bool ((decide ((((x.2.2 : Nat) : Int) : Int) < (((l.length : Nat) : Int) : Int)))))]) ⟨rfl, rfl, rfl, rfl, rfl, rfl, rfl, rfl, rfl, rfl, rfl, trivial⟩ ?_)
          refine WE.next ?_
          refine WC.ret ?_
          refine WE.retAny (v := .agg #[.int .i64 ((-1 - mn)), .slice x.1 x.2.2 x.2.1]) (fun za zh => ?_) ?_
          · have z0 : za.tmps[4]?.getD undef = .pointer (some ⟨g9, 0, none⟩) := by rw [← Array.getD_eq_getD_getElem?]; exact zh.knows 4 _ rfl
            have y0 : w78.cell? ⟨g9, 0, none⟩ = some (.int .i64 ((-1 - mn))) := ((hB80.cell 0).trans rfl)
            have y1 : w78.cell? ⟨g9, 1, none⟩ = some (.slice x.1 x.2.2 x.2.1) := ((hB80.cell 1).trans rfl)
            simp [results, Try.results22, z0, y0, y1, go_sem]
          · have z := ho85
            rw [List.take_of_length_le (by omega)] at z
            exact ⟨_, rfl, by rw [mv_mk, hmf]; exact newT_row (hmf ▸ mvF_i64 hf) z (by omega), hb82⟩
    · skip
      refine WC.skip ?_
      refine WE.next ?_
      refine WC.seq ?_
      refine WC.seq ?_
      refine WC.region ?_
      refine WL.val (.int .i64 0) rfl rfl rfl (fun za zC zh zk => wp_assign rfl (zh.ev rfl) zk) ?_
      refine WL.nil (WE.sub (K' := [(0, .agg #[.int .i64 f, .slice a l.length c]), (1, .int .i64 m), (2, .pointer (some ⟨g2, 0, none⟩)), (4, .pointer (some ⟨g9, 0, none⟩)), (5, .pointer (some ⟨g18, 0, none⟩)), (6, .int .i64 mn), (7, .bool ((mvOk (-1 - f) m))), (8, .int .i64 0), (14, .bool ((decide ((f : Int) < (0 : Int))))), (23, .bool ((mvOk (-1 - f) m)))]) ⟨rfl, rfl, rfl, rfl, rfl, rfl, rfl, rfl, rfl, rfl, trivial⟩ ?_)
      refine WE.next ?_
      refine WC.block ?_
      have hmf : mvF f m = f := by rw [mvF_neg (by omega), mvTo_no (by rw [h40]; decide)]; omega
      have hl86 : g2 < w39.heap.size := by have z1 := hB34.lt; have z2 := (hq38).size; omega
      have hl87 : g9 < w39.heap.size := by have z1 := hB36.lt; have z2 := (hq38).size; omega
      have hl88 : g18 < w39.heap.size := by have z1 := hB29.lt; have z2 := (hq38).size; omega
      have hb90 : Below w.heap.size w w39 := (bstep hb32 hq38)
      have hl89 : w.heap.size ≤ w39.heap.size := (hb90).size
      have hR91 : RowE eltT w39 w39.heap.size 32 none 0 0 [] := RowE.nil
      refine WC.loop (X := Option Addr × Nat × Nat) (fun x => l.length - x.2.2) (fun x => [(0, .agg #[.int .i64 f, .slice a l.length c]), (1, .int .i64 m), (2, .pointer (some ⟨g2, 0, none⟩)), (4, .pointer (some ⟨g9, 0, none⟩)), (5, .pointer (some ⟨g18, 0, none⟩)), (6, .int .i64 mn), (7, .bool ((mvOk (-1 - f) m))), (8, .int .i64 (((x.2.2 : Nat) : Int))), (14, .bool ((decide ((f : Int) < (0 : Int))))), (23, .bool ((mvOk (-1 - f) m)))]) (fun x w92 => x.2.2 ≤ l.length ∧ w39.heap.size ≤ (w92).heap.size ∧ Below w.heap.size w w92 ∧ Blk w92 g2 32 #[.int .i64 f, .slice a l.length c] ∧ Blk w92 g9 32 #[.int .i64 0, .slice none 0 0] ∧ Blk w92 g18 32 #[.int .i64 f, .slice x.1 x.2.2 x.2.1] ∧ RowE eltT (w92) w39.heap.size 32 x.1 x.2.1 x.2.2 ((l.take x.2.2).map (T.mv m))) ((none, 0, 0)) ⟨rfl, rfl, rfl, rfl, rfl, rfl, rfl, rfl, rfl, rfl, trivial⟩ ?_ ?_
      · have hB93 := hB34.below hq38
        have hB94 := hB36.below hq38
        have hB95 := hB29.below hq38
        exact ⟨Nat.zero_le _, Nat.le_refl _, hb90, hB93, hB94, hB95, (by simpa using hR91)⟩
      · rintro x w92 ⟨hk, hBw, hb96, hB97, hB98, hB99, ho100⟩
        refine WC.seq ?_
        refine WC.seq ?_
        refine WC.region ?_
        refine WL.val (.int .i64 (((x.2.2 : Nat) : Int))) rfl rfl rfl (fun za zC zh zk => wp_move rfl (zh.ev rfl) zk) ?_
        refine WL.val (.pointer (some ⟨g2, 1, none⟩)) rfl rfl rfl (fun za zC zh zk => fld_32_1 rfl (zh.ev rfl) zk) ?_
        refine WL.val (.slice a l.length c) rfl rfl rfl (fun za zC zh zk => ld_30 rfl (zh.ev rfl) ((hB97.cell 1).trans rfl) zk) ?_
        refine WL.val (.int .i64 (((l.length : Nat) : Int))) rfl rfl rfl (fun za zC zh zk => len_30 rfl (zh.ev rfl) zk) ?_
        refine WL.val (.bool ((decide ((((x.2.2 : Nat) : Int) : Int) < (((l.length : Nat) : Int) : Int))))) rfl rfl rfl (fun za zC zh zk => lss_3 rfl (zh.ev rfl) (zh.ev rfl) zk) ?_
        refine WL.nil (WE.sub (K' := [(0, .agg #[.int .i64 f, .slice a l.length c]), (1, .int .i64 m), (2, .pointer (some ⟨g2, 0, none⟩)), (4, .pointer (some ⟨g9, 0, none⟩)), (5, .pointer (some ⟨g18, 0, none⟩)), (6, .int .i64 mn), (7, .bool ((mvOk (-1 - f) m))), (8, .int .i64 (((x.2.2 : Nat) : Int))), (14, .bool ((decide ((f : Int) < (0 : Int))))), (23, .bool ((mvOk (-1 - f) m))), (31, .bool ((decide ((((x.2.2 : Nat) : Int) : Int) < (((l.length : Nat) : Int) : Int)))))]) ⟨rfl, rfl, rfl, rfl, rfl, rfl, rfl, rfl, rfl, rfl, rfl, trivial⟩ ?_)
        refine WE.next ?_
        refine WC.cond rfl (fun h101 => ?_) (fun h101 => ?_)
        · have h101 : (((x.2.2 : Nat) : Int) : Int) < (((l.length : Nat) : Int) : Int) := by simpa using h101
          refine WC.skip ?_
          refine WE.next ?_
          refine WC.seq ?_
          refine WC.block ?_
          obtain ⟨b102, o103, A104, C105, ha106, hc107⟩ := IsTs.open hl
          have hSlt : ∀ b, (fun b => b = g18 ∨ (Value.slice x.1 x.2.2 x.2.1).ownBlock = some b) b → b < w92.heap.size := fun b h => h.elim (fun e => e ▸ hB99.lt) (fun h => (ho100.lt b h).2)
          have hSlo : ∀ b, (fun b => b = g18 ∨ (Value.slice x.1 x.2.2 x.2.1).ownBlock = some b) b → b = g18 ∨ (w39.heap.size ≤ b ∧ b < w92.heap.size) := fun b h => h.imp id (fun h => ho100.lt b h)
          have hBW : w39.heap.size ≤ w92.heap.size := by have z1 := hBw; omega
          have hlL : x.2.2 = (((l.take x.2.2).map (T.mv m))).length := ho100.len
          refine WC.tail2 (S := ((fun b => b = g18 ∨ (Value.slice x.1 x.2.2 x.2.1).ownBlock = some b))) [(true, .val (.pointer (some ⟨g18, 1, none⟩))), (true, .val (.slice x.1 x.2.2 x.2.1)), (true, .val (.pointer (some ⟨g2, 1, none⟩))), (true, .val (.slice a l.length c)), (true, .val (.int .i64 (((x.2.2 : Nat) : Int)))), (true, .val (.pointer (some ⟨b102, o103 + x.2.2 * 2, none⟩))), (true, .val (.agg #[.int .i64 ((tget l x.2.2).f), .slice ((A104 x.2.2)) ((tget l x.2.2).args.length) ((C105 x.2.2))])), (true, .val (.int .i64 m)), (true, .mem (fun v w' => NewT w92 w' (((tget l x.2.2).mv m)) v) (fun v w w' hc h => InT.chg h hc (fun b hb hs => by have z := hSlt b hs; omega))), (true, .mem (fun v w' => OneRow eltT w92 32 (((tget l x.2.2).mv m)) v w') (fun v w w' hc h => h.chg hc hSlt)), (true, .val undef), (true, .val (.pointer (some ⟨g18, 1, none⟩))), (true, .val undef)] [(0, .agg #[.int .i64 f, .slice a l.length c]), (1, .int .i64 m), (2, .pointer (some ⟨g2, 0, none⟩)), (4, .pointer (some ⟨g9, 0, none⟩)), (5, .pointer (some ⟨g18, 0, none⟩)), (6, .int .i64 mn), (7, .bool ((mvOk (-1 - f) m))), (8, .int .i64 (((x.2.2 : Nat) : Int))), (14, .bool ((decide ((f : Int) < (0 : Int))))), (23, .bool ((mvOk (-1 - f) m))), (31, .bool ((decide ((((x.2.2 : Nat) : Int) : Int) < (((l.length : Nat) : Int) : Int)))))] 10 12 ((x.2.2 + 1)) 44 (fun ra rc w => RowE eltT w w39.heap.size 32 ra rc (x.2.2 + 1) (((l.take x.2.2).map (T.mv m) ++ [((tget l x.2.2).mv m)])) ∧ Blk w g18 32 #[.int .i64 f, .slice x.1 x.2.2 x.2.1]) (fun ra rc w => RowE eltT w w39.heap.size 32 ra rc (x.2.2 + 1) (((l.take x.2.2).map (T.mv m) ++ [((tget l x.2.2).mv m)])) ∧ Blk w g18 32 #[.int .i64 f, .slice ra ((x.2.2 + 1)) rc]) (by decide) (fun ra rc w w' hb h => ⟨h.1.below hb, h.2.below hb⟩) (fun ra rc w w' hb h => ⟨h.1.below hb, h.2.below hb⟩) ⟨rfl, rfl, rfl, rfl, rfl, rfl, rfl, rfl, rfl, rfl, rfl, trivial⟩ (by kernel_rfl) (by kernel_rfl) (by kernel_rfl) (by kernel_rfl) (by kernel_rfl) ?_ ?_
          · refine ⟨.inl ⟨rfl, true, .none rfl, (fun gg b h => by cases h), fun h w => optUndef h, fun zβ za zw zc => ?_⟩, ?_⟩
            · exact fld_32_1 rfl (zc.kn.ev rfl) ⟨_, rfl, Below.refl _ _, optDef zβ rfl⟩
            refine ⟨.inl ⟨rfl, true, .none rfl, (fun gg b h => by cases h), fun h w => optUndef h, fun zβ za zw zc => ?_⟩, ?_⟩
            · exact ld_30 rfl ((show za.eval (.tmp 34) = za.tmps.getD 34 undef from rfl).trans (optSVal (zc.dep 0 34 (by kernel_rfl) (by decide)) rfl rfl)) (bkeeps (zc.early (by kernel_rfl)) _ _ ((hB99.cell 1).trans rfl)) ⟨_, rfl, Below.refl _ _, optDef zβ rfl⟩
            refine ⟨.inl ⟨rfl, true, .none rfl, (fun gg b h => by cases h), fun h w => optUndef h, fun zβ za zw zc => ?_⟩, ?_⟩
            · exact fld_32_1 rfl (zc.kn.ev rfl) ⟨_, rfl, Below.refl _ _, optDef zβ rfl⟩
            refine ⟨.inl ⟨rfl, true, .none rfl, (fun gg b h => by cases h), fun h w => optUndef h, fun zβ za zw zc => ?_⟩, ?_⟩
            · exact ld_30 rfl ((show za.eval (.tmp 36) = za.tmps.getD 36 undef from rfl).trans (optSVal (zc.dep 2 36 (by kernel_rfl) (by decide)) rfl rfl)) (bkeeps (zc.early (by kernel_rfl)) _ _ ((hB97.cell 1).trans rfl)) ⟨_, rfl, Below.refl _ _, optDef zβ rfl⟩
            refine ⟨.inl ⟨rfl, true, .none rfl, (fun gg b h => by cases h), fun h w => optUndef h, fun zβ za zw zc => ?_⟩, ?_⟩
            · exact wp_move rfl (zc.kn.ev rfl) ⟨_, rfl, Below.refl _ _, optDef zβ rfl⟩
            refine ⟨.inl ⟨rfl, true, .none rfl, (fun gg b h => by cases h), fun h w => optUndef h, fun zβ za zw zc => ?_⟩, ?_⟩
            · exact ix_30 (k := x.2.2) rfl ((show za.eval (.tmp 37) = za.tmps.getD 37 undef from rfl).trans (optSVal (zc.dep 3 37 (by kernel_rfl) (by decide)) rfl rfl)) (ha106 x.2.2 (by first | omega | (simp; omega))) ((show za.eval (.tmp 38) = za.tmps.getD 38 undef from rfl).trans (optSVal (zc.dep 4 38 (by kernel_rfl) (by decide)) rfl rfl)) (by first | omega | (simp; omega)) ⟨_, rfl, Below.refl _ _, optDef zβ rfl⟩
            refine ⟨.inl ⟨rfl, true, .none rfl, (fun gg b h => by cases h), fun h w => optUndef h, fun zβ za zw zc => ?_⟩, ?_⟩
            · exact ld_32 rfl ((show za.eval (.tmp 39) = za.tmps.getD 39 undef from rfl).trans (optSVal (zc.dep 5 39 (by kernel_rfl) (by decide)) rfl rfl)) (bkeeps (bstep hb96 (zc.early (by kernel_rfl))) _ _ (hc107 x.2.2 (by first | omega | (simp; omega))).1) (bkeeps (bstep hb96 (zc.early (by kernel_rfl))) _ _ (hc107 x.2.2 (by first | omega | (simp; omega))).2.1) ⟨_, rfl, Below.refl _ _, optDef zβ rfl⟩
            refine ⟨.inl ⟨rfl, true, .none rfl, (fun gg b h => by cases h), fun h w => optUndef h, fun zβ za zw zc => ?_⟩, ?_⟩
            · exact wp_move rfl (zc.kn.ev rfl) ⟨_, rfl, Below.refl _ _, optDef zβ rfl⟩
            refine ⟨.inl ⟨rfl, true, .none rfl, (fun gg b h => by cases h), fun h w => optUndef h, fun zβ za zw zc => ?_⟩, ?_⟩
            · exact wp_call (by kernel_rfl) rfl (hv2 ((show za.eval (.tmp 40) = za.tmps.getD 40 undef from rfl).trans (optSVal (zc.dep 6 40 (by kernel_rfl) (by decide)) rfl rfl)) ((show za.eval (.tmp 41) = za.tmps.getD 41 undef from rfl).trans (optSVal (zc.dep 7 41 (by kernel_rfl) (by decide)) rfl rfl))) (ih _ (tget_mem (by omega)) _ _ (size_at (by omega) hz) (IsT.below (bstep hb96 (zc.early (by kernel_rfl))) (hc107 x.2.2 (by first | omega | (simp; omega))).2.2)) (fun v w' h => ⟨v, rfl, h.2, optDef zβ (InT.mono (fun b hb _ => Nat.le_trans (zc.early (by kernel_rfl)).size hb) h.1)⟩)
            refine ⟨.inl ⟨rfl, true, .none rfl, (fun gg b h => by cases h), fun h w => optUndef h, fun zβ za zw zc => ?_⟩, ?_⟩
            · have zv := (optSMem (zc.dep 8 42 (by kernel_rfl) (by decide)) rfl rfl)
              obtain ⟨_, a1, c1, e1, _⟩ := zv.form
              rw [e1] at zv
              exact row_30_1 rfl ((show za.eval (.tmp 42) = za.tmps.getD 42 undef from rfl).trans e1) ⟨_, rfl, balloc _ _, optDef zβ ⟨_, _, rfl, zc.chg.size, Blk.new' rfl, _, _, rfl, zv.below (balloc _ _)⟩⟩
            refine ⟨.inr (.inl ⟨rfl, rfl, fun za zw zc => ?_⟩), ?_⟩
            · obtain ⟨g1, cs, e1, hg1, hB1, hin⟩ := (optSMem (zc.dep 9 43 (by kernel_rfl) (by decide)) rfl rfl)
              exact wp_appE (E := eltT) (size := 2) (bytes := 32) (z := .agg #[.int .i64 0, .slice none 0 0]) rfl Try.underlying30 (by kernel_rfl) rfl (by decide) rfl ((show za.eval (.tmp 35) = za.tmps.getD 35 undef from rfl).trans (optSVal (zc.dep 1 35 (by kernel_rfl) (by decide)) rfl rfl)) ((show za.eval (.tmp 43) = za.tmps.getD 43 undef from rfl).trans e1) (ho100.below zc.below) hB1 (eltT.mono (fun b hb _ => ⟨by omega, fun e => by have z := (ho100.lt b e).2; omega⟩) hin) (by omega) (by omega) (by have z := zc.below.size; omega) (fun ra rc w' h1 h2 _ => ⟨ra, rc, rfl, ⟨h1, chg_blk (hB99.below zc.below) h2 (fun e => by have z := (ho100.lt _ e).1; omega)⟩, h2.mono (fun b hb => .inr hb)⟩)
            refine ⟨.inl ⟨rfl, true, .none rfl, (fun gg b h => by cases h), fun h w => optUndef h, fun zβ za zw zc => ?_⟩, ?_⟩
            · exact fld_32_1 rfl (zc.kn.ev rfl) ⟨_, rfl, Below.refl _ _, optDef zβ rfl⟩
            refine ⟨.inr (.inr ⟨rfl, rfl, 44, by kernel_rfl, fun za zw ra rc zk zd zv zg => ?_⟩), ?_⟩
            · exact st_30 rfl ((show za.eval (.tmp 45) = za.tmps.getD 45 undef from rfl).trans (optSVal (zd 11 45 (by kernel_rfl) (by decide)) rfl rfl)) ((show za.eval (.tmp 44) = za.tmps.getD 44 undef from rfl).trans zv) zg.2 (by first | decide | simp) (fun v => ⟨v, rfl, ⟨zg.1.upd (Upd.at_ _ _ _ _) (by omega), zg.2.set_ 1 _⟩, .ofUpd (Upd.at_ _ _ _ _) (.inl rfl)⟩)
            exact trivial
          · intro za w108 ra111 rc112 zh zv hG109 hc110 zu
            have hb113 := chg_below hb96 hc110 (fun b hb => (fun h => by rcases hSlo _ h with h | h <;> omega))
            have hB114 := chg_blk hB97 hc110 (fun h => by rcases hSlo _ h with h | h <;> omega)
            have hB115 := chg_blk hB98 hc110 (fun h => by rcases hSlo _ h with h | h <;> omega)
            clear zu
            refine (show WE _ [(0, .agg #[.int .i64 f, .slice a l.length c]), (1, .int .i64 m), (2, .pointer (some ⟨g2, 0, none⟩)), (4, .pointer (some ⟨g9, 0, none⟩)), (5, .pointer (some ⟨g18, 0, none⟩)), (6, .int .i64 mn), (7, .bool ((mvOk (-1 - f) m))), (8, .int .i64 (((x.2.2 : Nat) : Int))), (14, .bool ((decide ((f : Int) < (0 : Int))))), (23, .bool ((mvOk (-1 - f) m))), (31, .bool ((decide ((((x.2.2 : Nat) : Int) : Int) < (((l.length : Nat) : Int) : Int)))))] w108 _ .normal from ?_) za (zh.sub ⟨rfl, rfl, rfl, rfl, rfl, rfl, rfl, rfl, rfl, rfl, rfl, trivial⟩)
            refine WE.blockNormal ?_
            refine WE.next ?_
            refine WC.region ?_
            refine WL.val (.int .i64 (((x.2.2 : Nat) : Int))) rfl rfl rfl (fun za zC zh zk => wp_move rfl (zh.ev rfl) zk) ?_
            refine WL.val (.int .i64 ((((x.2.2 + 1) : Nat) : Int))) rfl rfl rfl (fun za zC zh zk => addb_3 rfl (zh.ev rfl) (zh.ev rfl) (wrap_eq (by omega) (by omega) (by omega)) zk) ?_
            refine WL.val (.int .i64 ((((x.2.2 + 1) : Nat) : Int))) rfl rfl rfl (fun za zC zh zk => wp_assign rfl (zh.ev rfl) zk) ?_
            refine WL.nil (WE.sub (K' := [(0, .agg #[.int .i64 f, .slice a l.length c]), (1, .int .i64 m), (2, .pointer (some ⟨g2, 0, none⟩)), (4, .pointer (some ⟨g9, 0, none⟩)), (5, .pointer (some ⟨g18, 0, none⟩)), (6, .int .i64 mn), (7, .bool ((mvOk (-1 - f) m))), (8, .int .i64 ((((x.2.2 + 1) : Nat) : Int))), (14, .bool ((decide ((f : Int) < (0 : Int))))), (23, .bool ((mvOk (-1 - f) m))), (31, .bool ((decide ((((x.2.2 : Nat) : Int) : Int) < (((l.length : Nat) : Int) : Int)))))]) ⟨rfl, rfl, rfl, rfl, rfl, rfl, rfl, rfl, rfl, rfl, rfl, trivial⟩ ?_)
            refine WE.round ((ra111, rc112, x.2.2 + 1)) ⟨rfl, rfl, rfl, rfl, rfl, rfl, rfl, rfl, rfl, rfl, trivial⟩ ?_ ?_
            · exact ⟨by (try dsimp only at *); omega, (Nat.le_trans hBw hc110.size), hb113, hB114, hB115, hG109.2, (by rw [← take_mv (by (try dsimp only at *); omega)]; exact hG109.1)⟩
            · dsimp only; omega
        · have h101 : ¬ ((((x.2.2 : Nat) : Int) : Int) < (((l.length : Nat) : Int) : Int)) := by simpa using h101
          refine WC.exit ?_
          refine WE.thenExit ?_
          refine WE.thenExit ?_
          refine WE.blockIs rfl ?_
          refine WE.next ?_
          refine WC.seq ?_
          refine WC.region ?_
          refine WL.val (.agg #[.int .i64 f, .slice x.1 x.2.2 x.2.1]) rfl rfl rfl (fun za zC zh zk => ld_32 rfl (zh.ev rfl) ((hB99.cell 0).trans rfl) ((hB99.cell 1).trans rfl) zk) ?_
          refine WL.step (post := fun _ w' => Upd g9 w92 w' ∧ Blk w' g9 32 #[.int .i64 f, .slice x.1 x.2.2 x.2.1]) rfl rfl rfl (fun za zC zh zk => st_32 rfl (zh.ev rfl) (zh.ev rfl) rfl rfl hB98 (by first | decide | simp) (fun v => zk v _ ⟨(Upd.at_ _ _ _ _).trans (Upd.at_ _ _ _ _), (hB98.set_ 0 _).set_ 1 _⟩)) ?_
          rintro v119 w116 ⟨hu117, hB118⟩
          have hb120 := upd_below hb96 hu117 (by omega)
          have hB121 := upd_blk hB97 hu117 (by omega)
          have hB122 := upd_blk hB99 hu117 (by omega)
          have ho123 := ho100.upd hu117 (by omega)
          refine WL.nil (WE.sub (K' := [(0, .agg #[.int .i64 f, .slice a l.length c]), (1, .int .i64 m), (2, .pointer (some ⟨g2, 0, none⟩)), (4, .pointer (some ⟨g9, 0, none⟩)), (5, .pointer (some ⟨g18, 0, none⟩)), (6, .int .i64 mn), (7, .bool ((mvOk (-1 - f) m))), (8, .int .i64 (((x.2.2 : Nat) : Int))), (14, .bool ((decide ((f : Int) < (0 : Int))))), (23, .bool ((mvOk (-1 - f) m))), (31, .bool ((decide ((((x.2.2 : Nat) : Int) : Int) < (((l.length : Nat) : Int) : Int)))))]) ⟨rfl, rfl, rfl, rfl, rfl, rfl, rfl, rfl, rfl, rfl, rfl, trivial⟩ ?_)
          refine WE.next ?_
          refine WC.ret ?_
          refine WE.retAny (v := .agg #[.int .i64 f, .slice x.1 x.2.2 x.2.1]) (fun za zh => ?_) ?_
          · have z0 : za.tmps[4]?.getD undef = .pointer (some ⟨g9, 0, none⟩) := by rw [← Array.getD_eq_getD_getElem?]; exact zh.knows 4 _ rfl
            have y0 : w116.cell? ⟨g9, 0, none⟩ = some (.int .i64 f) := ((hB118.cell 0).trans rfl)
            have y1 : w116.cell? ⟨g9, 1, none⟩ = some (.slice x.1 x.2.2 x.2.1) := ((hB118.cell 1).trans rfl)
            simp [results, Try.results22, z0, y0, y1, go_sem]
          · have z := ho123
            rw [List.take_of_length_le (by omega)] at z
            exact ⟨_, rfl, by rw [mv_mk, hmf]; exact newT_row hf z (by omega), hb120⟩
  · have h37 : ¬ ((f : Int) < (0 : Int)) := by simpa using h37
    refine WC.skip ?_
    refine WE.next ?_
    refine WC.seq ?_
    refine WC.seq ?_
    refine WC.region ?_
    refine WL.val (.int .i64 0) rfl rfl rfl (fun za zC zh zk => wp_assign rfl (zh.ev rfl) zk) ?_
    refine WL.nil (WE.sub (K' := [(0, .agg #[.int .i64 f, .slice a l.length c]), (1, .int .i64 m), (2, .pointer (some ⟨g2, 0, none⟩)), (4, .pointer (some ⟨g9, 0, none⟩)), (5, .pointer (some ⟨g18, 0, none⟩)), (8, .int .i64 0), (14, .bool ((decide ((f : Int) < (0 : Int)))))]) ⟨rfl, rfl, rfl, rfl, rfl, rfl, rfl, trivial⟩ ?_)
    refine WE.next ?_
    refine WC.block ?_
    have hl124 : g2 < w27.heap.size := by have z1 := hB34.lt; omega
    have hl125 : g9 < w27.heap.size := by have z1 := hB36.lt; omega
    have hl126 : g18 < w27.heap.size := by have z1 := hB29.lt; omega
    have hl127 : w.heap.size ≤ w27.heap.size := (hb32).size
    have hR128 : RowE eltT w27 w27.heap.size 32 none 0 0 [] := RowE.nil
    refine WC.loop (X := Option Addr × Nat × Nat) (fun x => l.length - x.2.2) (fun x => [(0, .agg #[.int .i64 f, .slice a l.length c]), (1, .int .i64 m), (2, .pointer (some ⟨g2, 0, none⟩)), (4, .pointer (some ⟨g9, 0, none⟩)), (5, .pointer (some ⟨g18, 0, none⟩)), (8, .int .i64 (((x.2.2 : Nat) : Int))), (14, .bool ((decide ((f : Int) < (0 : Int)))))]) (fun x w129 => x.2.2 ≤ l.length ∧ w27.heap.size ≤ (w129).heap.size ∧ Below w.heap.size w w129 ∧ Blk w129 g2 32 #[.int .i64 f, .slice a l.length c] ∧ Blk w129 g9 32 #[.int .i64 0, .slice none 0 0] ∧ Blk w129 g18 32 #[.int .i64 f, .slice x.1 x.2.2 x.2.1] ∧ RowE eltT (w129) w27.heap.size 32 x.1 x.2.1 x.2.2 ((l.take x.2.2).map (T.mv m))) ((none, 0, 0)) ⟨rfl, rfl, rfl, rfl, rfl, rfl, rfl, trivial⟩ ?_ ?_
    · exact ⟨Nat.zero_le _, Nat.le_refl _, hb32, hB34, hB36, hB29, (by simpa using hR128)⟩
    · rintro x w129 ⟨hk, hBw, hb130, hB131, hB132, hB133, ho134⟩
      refine WC.seq ?_
      refine WC.seq ?_
      refine WC.region ?_
      refine WL.val (.int .i64 (((x.2.2 : Nat) : Int))) rfl rfl rfl (fun za zC zh zk => wp_move rfl (zh.ev rfl) zk) ?_
      refine WL.val (.pointer (some ⟨g2, 1, none⟩)) rfl rfl rfl (fun za zC zh zk => fld_32_1 rfl (zh.ev rfl) zk) ?_
      refine WL.val (.slice a l.length c) rfl rfl rfl (fun za zC zh zk => ld_30 rfl (zh.ev rfl) ((hB131.cell 1).trans rfl) zk) ?_
      refine WL.val (.int .i64 (((l.length : Nat) : Int))) rfl rfl rfl (fun za zC zh zk => len_30 rfl (zh.ev rfl) zk) ?_
      refine WL.val (.bool ((decide ((((x.2.2 : Nat) : Int) : Int) < (((l.length : Nat) : Int) : Int))))) rfl rfl rfl (fun za zC zh zk => lss_3 rfl (zh.ev rfl) (zh.ev rfl) zk) ?_
      refine WL.nil (WE.sub (K' := [(0, .agg #[.int .i64 f, .slice a l.length c]), (1, .int .i64 m), (2, .pointer (some ⟨g2, 0, none⟩)), (4, .pointer (some ⟨g9, 0, none⟩)), (5, .pointer (some ⟨g18, 0, none⟩)), (8, .int .i64 (((x.2.2 : Nat) : Int))), (14, .bool ((decide ((f : Int) < (0 : Int))))), (31, .bool ((decide ((((x.2.2 : Nat) : Int) : Int) < (((l.length : Nat) : Int) : Int)))))]) ⟨rfl, rfl, rfl, rfl, rfl, rfl, rfl, rfl, trivial⟩ ?_)
      refine WE.next ?_
      refine WC.cond rfl (fun h135 => ?_) (fun h135 => ?_)
      · have h135 : (((x.2.2 : Nat) : Int) : Int) < (((l.length : Nat) : Int) : Int) := by simpa using h135
        refine WC.skip ?_
        refine WE.next ?_
        refine WC.seq ?_
        refine WC.block ?_
        obtain ⟨b136, o137, A138, C139, ha140, hc141⟩ := IsTs.open hl
        have hSlt : ∀ b, (fun b => b = g18 ∨ (Value.slice x.1 x.2.2 x.2.1).ownBlock = some b) b → b < w129.heap.size := fun b h => h.elim (fun e => e ▸ hB133.lt) (fun h => (ho134.lt b h).2)
        have hSlo : ∀ b, (fun b => b = g18 ∨ (Value.slice x.1 x.2.2 x.2.1).ownBlock = some b) b → b = g18 ∨ (w27.heap.size ≤ b ∧ b < w129.heap.size) := fun b h => h.imp id (fun h => ho134.lt b h)
        have hBW : w27.heap.size ≤ w129.heap.size := by have z1 := hBw; omega
        have hlL : x.2.2 = (((l.take x.2.2).map (T.mv m))).length := ho134.len
        refine WC.tail2 (S := ((fun b => b = g18 ∨ (Value.slice x.1 x.2.2 x.2.1).ownBlock = some b))) [(true, .val (.pointer (some ⟨g18, 1, none⟩))), (true, .val (.slice x.1 x.2.2 x.2.1)), (true, .val (.pointer (some ⟨g2, 1, none⟩))), (true, .val (.slice a l.length c)), (true, .val (.int .i64 (((x.2.2 : Nat) : Int)))), (true, .val (.pointer (some ⟨b136, o137 + x.2.2 * 2, none⟩))), (true, .val (.agg #[.int .i64 ((tget l x.2.2).f), .slice ((A138 x.2.2)) ((tget l x.2.2).args.length) ((C139 x.2.2))])), (true, .val (.int .i64 m)), (true, .mem (fun v w' => NewT w129 w' (((tget l x.2.2).mv m)) v) (fun v w w' hc h => InT.chg h hc (fun b hb hs => by have z := hSlt b hs; omega))), (true, .mem (fun v w' => OneRow eltT w129 32 (((tget l x.2.2).mv m)) v w') (fun v w w' hc h => h.chg hc hSlt)), (true, .val undef), (true, .val (.pointer (some ⟨g18, 1, none⟩))), (true, .val undef)] [(0, .agg #[.int .i64 f, .slice a l.length c]), (1, .int .i64 m), (2, .pointer (some ⟨g2, 0, none⟩)), (4, .pointer (some ⟨g9, 0, none⟩)), (5, .pointer (some ⟨g18, 0, none⟩)), (8, .int .i64 (((x.2.2 : Nat) : Int))), (14, .bool ((decide ((f : Int) < (0 : Int))))), (31, .bool ((decide ((((x.2.2 : Nat) : Int) : Int) < (((l.length : Nat) : Int) : Int)))))] 10 12 ((x.2.2 + 1)) 44 (fun ra rc w => RowE eltT w w27.heap.size 32 ra rc (x.2.2 + 1) (((l.take x.2.2).map (T.mv m) ++ [((tget l x.2.2).mv m)])) ∧ Blk w g18 32 #[.int .i64 f, .slice x.1 x.2.2 x.2.1]) (fun ra rc w => RowE eltT w w27.heap.size 32 ra rc (x.2.2 + 1) (((l.take x.2.2).map (T.mv m) ++ [((tget l x.2.2).mv m)])) ∧ Blk w g18 32 #[.int .i64 f, .slice ra ((x.2.2 + 1)) rc]) (by decide) (fun ra rc w w' hb h => ⟨h.1.below hb, h.2.below hb⟩) (fun ra rc w w' hb h => ⟨h.1.below hb, h.2.below hb⟩) ⟨rfl, rfl, rfl, rfl, rfl, rfl, rfl, rfl, trivial⟩ (by kernel_rfl) (by kernel_rfl) (by kernel_rfl) (by kernel_rfl) (by kernel_rfl) ?_ ?_
        · refine ⟨.inl ⟨rfl, true, .none rfl, (fun gg b h => by cases h), fun h w => optUndef h, fun zβ za zw zc => ?_⟩, ?_⟩
          · exact fld_32_1 rfl (zc.kn.ev rfl) ⟨_, rfl, Below.refl _ _, optDef zβ rfl⟩
          refine ⟨.inl ⟨rfl, true, .none rfl, (fun gg b h => by cases h), fun h w => optUndef h, fun zβ za zw zc => ?_⟩, ?_⟩
          · exact ld_30 rfl ((show za.eval (.tmp 34) = za.tmps.getD 34 undef from rfl).trans (optSVal (zc.dep 0 34 (by kernel_rfl) (by decide)) rfl rfl)) (bkeeps (zc.early (by kernel_rfl)) _ _ ((hB133.cell 1).trans rfl)) ⟨_, rfl, Below.refl _ _, optDef zβ rfl⟩
          refine ⟨.inl ⟨rfl, true, .none rfl, (fun gg b h => by cases h), fun h w => optUndef h, fun zβ za zw zc => ?_⟩, ?_⟩
          · exact fld_32_1 rfl (zc.kn.ev rfl) ⟨_, rfl, Below.refl _ _, optDef zβ rfl⟩
          refine ⟨.inl ⟨rfl, true, .none rfl, (fun gg b h => by cases h), fun h w => optUndef h, fun zβ za zw zc => ?_⟩, ?_⟩
          · exact ld_30 rfl ((show za.eval (.tmp 36) = za.tmps.getD 36 undef from rfl).trans (optSVal (zc.dep 2 36 (by kernel_rfl) (by decide)) rfl rfl)) (bkeeps (zc.early (by kernel_rfl)) _ _ ((hB131.cell 1).trans rfl)) ⟨_, rfl, Below.refl _ _, optDef zβ rfl⟩
          refine ⟨.inl ⟨rfl, true, .none rfl, (fun gg b h => by cases h), fun h w => optUndef h, fun zβ za zw zc => ?_⟩, ?_⟩
          · exact wp_move rfl (zc.kn.ev rfl) ⟨_, rfl, Below.refl _ _, optDef zβ rfl⟩
          refine ⟨.inl ⟨rfl, true, .none rfl, (fun gg b h => by cases h), fun h w => optUndef h, fun zβ za zw zc => ?_⟩, ?_⟩
          · exact ix_30 (k := x.2.2) rfl ((show za.eval (.tmp 37) = za.tmps.getD 37 undef from rfl).trans (optSVal (zc.dep 3 37 (by kernel_rfl) (by decide)) rfl rfl)) (ha140 x.2.2 (by first | omega | (simp; omega))) ((show za.eval (.tmp 38) = za.tmps.getD 38 undef from rfl).trans (optSVal (zc.dep 4 38 (by kernel_rfl) (by decide)) rfl rfl)) (by first | omega | (simp; omega)) ⟨_, rfl, Below.refl _ _, optDef zβ rfl⟩
          refine ⟨.inl ⟨rfl, true, .none rfl, (fun gg b h => by cases h), fun h w => optUndef h, fun zβ za zw zc => ?_⟩, ?_⟩
          · exact ld_32 rfl ((show za.eval (.tmp 39) = za.tmps.getD 39 undef from rfl).trans (optSVal (zc.dep 5 39 (by kernel_rfl) (by decide)) rfl rfl)) (bkeeps (bstep hb130 (zc.early (by kernel_rfl))) _ _ (hc141 x.2.2 (by first | omega | (simp; omega))).1) (bkeeps (bstep hb130 (zc.early (by kernel_rfl))) _ _ (hc141 x.2.2 (by first | omega | (simp; omega))).2.1) ⟨_, rfl, Below.refl _ _, optDef zβ rfl⟩
          refine ⟨.inl ⟨rfl, true, .none rfl, (fun gg b h => by cases h), fun h w => optUndef h, fun zβ za zw zc => ?_⟩, ?_⟩
          · exact wp_move rfl (zc.kn.ev rfl) ⟨_, rfl, Below.refl _ _, optDef zβ rfl⟩
          refine ⟨.inl ⟨rfl, true, .none rfl, (fun gg b h => by cases h), fun h w => optUndef h, fun zβ za zw zc => ?_⟩, ?_⟩
          · exact wp_call (by kernel_rfl) rfl (hv2 ((show za.eval (.tmp 40) = za.tmps.getD 40 undef from rfl).trans (optSVal (zc.dep 6 40 (by kernel_rfl) (by decide)) rfl rfl)) ((show za.eval (.tmp 41) = za.tmps.getD 41 undef from rfl).trans (optSVal (zc.dep 7 41 (by kernel_rfl) (by decide)) rfl rfl))) (ih _ (tget_mem (by omega)) _ _ (size_at (by omega) hz) (IsT.below (bstep hb130 (zc.early (by kernel_rfl))) (hc141 x.2.2 (by first | omega | (simp; omega))).2.2)) (fun v w' h => ⟨v, rfl, h.2, optDef zβ (InT.mono (fun b hb _ => Nat.le_trans (zc.early (by kernel_rfl)).size hb) h.1)⟩)
          refine ⟨.inl ⟨rfl, true, .none rfl, (fun gg b h => by cases h), fun h w => optUndef h, fun zβ za zw zc => ?_⟩, ?_⟩
          · have zv := (optSMem (zc.dep 8 42 (by kernel_rfl) (by decide)) rfl rfl)
            obtain ⟨_, a1, c1, e1, _⟩ := zv.form
            rw [e1] at zv
            exact row_30_1 rfl ((show za.eval (.tmp 42) = za.tmps.getD 42 undef from rfl).trans e1) ⟨_, rfl, balloc _ _, optDef zβ ⟨_, _, rfl, zc.chg.size, Blk.new' rfl, _, _, rfl, zv.below (balloc _ _)⟩⟩
          refine ⟨.inr (.inl ⟨rfl, rfl, fun za zw zc => ?_⟩), ?_⟩
          · obtain ⟨g1, cs, e1, hg1, hB1, hin⟩ := (optSMem (zc.dep 9 43 (by kernel_rfl) (by decide)) rfl rfl)
            exact wp_appE (E := eltT) (size := 2) (bytes := 32) (z := .agg #[.int .i64 0, .slice none 0 0]) rfl Try.underlying30 (by kernel_rfl) rfl (by decide) rfl ((show za.eval (.tmp 35) = za.tmps.getD 35 undef from rfl).trans (optSVal (zc.dep 1 35 (by kernel_rfl) (by decide)) rfl rfl)) ((show za.eval (.tmp 43) = za.tmps.getD 43 undef from rfl).trans e1) (ho134.below zc.below) hB1 (eltT.mono (fun b hb _ => ⟨by omega, fun e => by have z := (ho134.lt b e).2; omega⟩) hin) (by omega) (by omega) (by have z := zc.below.size; omega) (fun ra rc w' h1 h2 _ => ⟨ra, rc, rfl, ⟨h1, chg_blk (hB133.below zc.below) h2 (fun e => by have z := (ho134.lt _ e).1; omega)⟩, h2.mono (fun b hb => .inr hb)⟩)
          refine ⟨.inl ⟨rfl, true, .none rfl, (fun gg b h => by cases h), fun h w => optUndef h, fun zβ za zw zc => ?_⟩, ?_⟩
          · exact fld_32_1 rfl (zc.kn.ev rfl) ⟨_, rfl, Below.refl _ _, optDef zβ rfl⟩
          refine ⟨.inr (.inr ⟨rfl, rfl, 44, by kernel_rfl, fun za zw ra rc zk zd zv zg => ?_⟩), ?_⟩
          · exact st_30 rfl ((show za.eval (.tmp 45) = za.tmps.getD 45 undef from rfl).trans (optSVal (zd 11 45 (by kernel_rfl) (by decide)) rfl rfl)) ((show za.eval (.tmp 44) = za.tmps.getD 44 undef from rfl).trans zv) zg.2 (by first | decide | simp) (fun v => ⟨v, rfl, ⟨zg.1.upd (Upd.at_ _ _ _ _) (by omega), zg.2.set_ 1 _⟩, .ofUpd (Upd.at_ _ _ _ _) (.inl rfl)⟩)
          exact trivial
        · intro za w142 ra145 rc146 zh zv hG143 hc144 zu
          have hb147 := chg_below hb130 hc144 (fun b hb => (fun h => by rcases hSlo _ h with h | h <;> omega))
          have hB148 := chg_blk hB131 hc144 (fun h => by rcases hSlo _ h with h | h <;> omega)
          have hB149 := chg_blk hB132 hc144 (fun h => by rcases hSlo _ h with h | h <;> omega)
          clear zu
          refine (show WE _ [(0, .agg #[.int .i64 f, .slice a l.length c]), (1, .int .i64 m), (2, .pointer (some ⟨g2, 0, none⟩)), (4, .pointer (some ⟨g9, 0, none⟩)), (5, .pointer (some ⟨g18, 0, none⟩)), (8, .int .i64 (((x.2.2 : Nat) : Int))), (14, .bool ((decide ((f : Int) < (0 : Int))))), (31, .bool ((decide ((((x.2.2 : Nat) : Int) : Int) < (((l.length : Nat) : Int) : Int)))))] w142 _ .normal from ?_) za (zh.sub ⟨rfl, rfl, rfl, rfl, rfl, rfl, rfl, rfl, trivial⟩)
          refine WE.blockNormal ?_
          refine WE.next ?_
          refine WC.region ?_
          refine WL.val (.int .i64 (((x.2.2 : Nat) : Int))) rfl rfl rfl (fun za zC zh zk => wp_move rfl (zh.ev rfl) zk) ?_
          refine WL.val (.int .i64 ((((x.2.2 + 1) : Nat) : Int))) rfl rfl rfl (fun za zC zh zk => addb_3 rfl (zh.ev rfl) (zh.ev rfl) (wrap_eq (by omega) (by omega) (by omega)) zk) ?_
          refine WL.val (.int .i64 ((((x.2.2 + 1) : Nat) : Int))) rfl rfl rfl (fun za zC zh zk => wp_assign rfl (zh.ev rfl) zk) ?_
          refine WL.nil (WE.sub (K' := [(0, .agg #[.int .i64 f, .slice a l.length c]), (1, .int .i64 m), (2, .pointer (some ⟨g2, 0, none⟩)), (4, .pointer (some ⟨g9, 0, none⟩)), (5, .pointer (some ⟨g18, 0, none⟩)), (8, .int .i64 ((((x.2.2 + 1) : Nat) : Int))), (14, .bool ((decide ((f : Int) < (0 : Int))))), (31, .bool ((decide ((((x.2.2 : Nat) : Int) : Int) < (((l.length : Nat) : Int) : Int)))))]) ⟨rfl, rfl, rfl, rfl, rfl, rfl, rfl, rfl, trivial⟩ ?_)
          refine WE.round ((ra145, rc146, x.2.2 + 1)) ⟨rfl, rfl, rfl, rfl, rfl, rfl, rfl, trivial⟩ ?_ ?_
          · exact ⟨by (try dsimp only at *); omega, (Nat.le_trans hBw hc144.size), hb147, hB148, hB149, hG143.2, (by rw [← take_mv (by (try dsimp only at *); omega)]; exact hG143.1)⟩
          · dsimp only; omega
      · have h135 : ¬ ((((x.2.2 : Nat) : Int) : Int) < (((l.length : Nat) : Int) : Int)) := by simpa using h135
        refine WC.exit ?_
        refine WE.thenExit ?_
        refine WE.thenExit ?_
        refine WE.blockIs rfl ?_
        refine WE.next ?_
        refine WC.seq ?_
        refine WC.region ?_
        refine WL.val (.agg #[.int .i64 f, .slice x.1 x.2.2 x.2.1]) rfl rfl rfl (fun za zC zh zk => ld_32 rfl (zh.ev rfl) ((hB133.cell 0).trans rfl) ((hB133.cell 1).trans rfl) zk) ?_
        refine WL.step (post := fun _ w' => Upd g9 w129 w' ∧ Blk w' g9 32 #[.int .i64 f, .slice x.1 x.2.2 x.2.1]) rfl rfl rfl (fun za zC zh zk => st_32 rfl (zh.ev rfl) (zh.ev rfl) rfl rfl hB132 (by first | decide | simp) (fun v => zk v _ ⟨(Upd.at_ _ _ _ _).trans (Upd.at_ _ _ _ _), (hB132.set_ 0 _).set_ 1 _⟩)) ?_
        rintro v153 w150 ⟨hu151, hB152⟩
        have hb154 := upd_below hb130 hu151 (by omega)
        have hB155 := upd_blk hB131 hu151 (by omega)
        have hB156 := upd_blk hB133 hu151 (by omega)
        have ho157 := ho134.upd hu151 (by omega)
        refine WL.nil (WE.sub (K' := [(0, .agg #[.int .i64 f, .slice a l.length c]), (1, .int .i64 m), (2, .pointer (some ⟨g2, 0, none⟩)), (4, .pointer (some ⟨g9, 0, none⟩)), (5, .pointer (some ⟨g18, 0, none⟩)), (8, .int .i64 (((x.2.2 : Nat) : Int))), (14, .bool ((decide ((f : Int) < (0 : Int))))), (31, .bool ((decide ((((x.2.2 : Nat) : Int) : Int) < (((l.length : Nat) : Int) : Int)))))]) ⟨rfl, rfl, rfl, rfl, rfl, rfl, rfl, rfl, trivial⟩ ?_)
        refine WE.next ?_
        refine WC.ret ?_
        refine WE.retAny (v := .agg #[.int .i64 f, .slice x.1 x.2.2 x.2.1]) (fun za zh => ?_) ?_
        · have z0 : za.tmps[4]?.getD undef = .pointer (some ⟨g9, 0, none⟩) := by rw [← Array.getD_eq_getD_getElem?]; exact zh.knows 4 _ rfl
          have y0 : w150.cell? ⟨g9, 0, none⟩ = some (.int .i64 f) := ((hB152.cell 0).trans rfl)
          have y1 : w150.cell? ⟨g9, 1, none⟩ = some (.slice x.1 x.2.2 x.2.1) := ((hB152.cell 1).trans rfl)
          simp [results, Try.results22, z0, y0, y1, go_sem]
        · have z := ho157
          rw [List.take_of_length_le (by omega)] at z
          exact ⟨_, rfl, by rw [mv_mk, mvF_pos ‹_›]; exact newT_row hf z (by omega), hb154⟩

end Go.Proofs.Ytgechlgdnnpoeaa
