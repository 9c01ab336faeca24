/- The walk through the law MatchNames. -/
import Derived.Test.YtcmfjnadjddboaaMNc
import Derived.Test.YtcmfjnadjddboaaMNe
import Derived.Test.YtcmfjnadjddboaaMNi
import Derived.Test.YtcmfjnadjddboaaMNh
import Derived.Test.YtcmfjnadjddboaaMNj

/- Variables moved: the program and the document. -/
namespace Go.Proofs.Ytcmfjnadjddboaa
open Go.RowKit Go
set_option linter.unusedVariables false
set_option linter.unusedSimpArgs false

/-- A variable's number, moved, where that may be. -/
def mvOk (v m : Int) : Bool := if 0 ≤ m then decide (m ≤ 2147483647) && decide (v ≤ 2147483647 - m) else decide (0 ≤ v + m) && decide (v + m ≤ 2147483647)
def mvTo (v m : Int) : Int := if mvOk v m then v + m else v
def mvF (f m : Int) : Int := if f < 0 then -1 - mvTo (-1 - f) m else f
mutual
def T.mv (m : Int) : T → T
  | .mk f l => .mk (mvF f m) (T.mvL m l)
def T.mvL (m : Int) : List T → List T
  | [] => []
  | t :: r => t.mv m :: T.mvL m r
end
theorem T.mvL_eq (m : Int) : ∀ l : List T, T.mvL m l = l.map (T.mv m)
  | [] => rfl
  | t :: r => by rw [T.mvL, T.mvL_eq m r]; rfl
theorem mv_mk (m f : Int) (l : List T) : (T.mk f l).mv m = .mk (mvF f m) (l.map (T.mv m)) := by rw [T.mv, T.mvL_eq]
theorem take_mv {m : Int} {l : List T} {k : Nat} (h : k < l.length) : (l.take k).map (T.mv m) ++ [(tget l k).mv m] = (l.take (k + 1)).map (T.mv m) := by
  rw [List.take_succ_eq_append_getElem h, List.map_append, tget_lt h]; rfl
theorem mvOk_iff {v m : Int} : mvOk v m = true ↔ (0 ≤ m ∧ m ≤ 2147483647 ∧ v ≤ 2147483647 - m) ∨ (m < 0 ∧ 0 ≤ v + m ∧ v + m ≤ 2147483647) := by
  unfold mvOk
  split <;> simp <;> omega
theorem mvTo_range {v m : Int} (h0 : 0 ≤ v) (h1 : v ≤ 9223372036854775807) : 0 ≤ mvTo v m ∧ mvTo v m ≤ 9223372036854775807 := by
  unfold mvTo
  split
  · have := mvOk_iff.1 ‹_›; omega
  · omega
theorem mvF_i64 {f m : Int} (h : I64 f) : I64 (mvF f m) := by
  unfold I64 at *
  unfold mvF
  split
  · have := mvTo_range (v := -1 - f) (m := m) (by omega) (by omega); omega
  · exact h
theorem mvF_neg {f m : Int} (h : f < 0) : mvF f m = -1 - mvTo (-1 - f) m := by unfold mvF; rw [if_pos h]
theorem mvF_pos {f m : Int} (h : ¬ f < 0) : mvF f m = f := by unfold mvF; rw [if_neg h]
theorem mvTo_yes {v m : Int} (h : mvOk v m = true) : mvTo v m = v + m := by unfold mvTo; rw [if_pos h]
theorem mvTo_no {v m : Int} (h : ¬ mvOk v m = true) : mvTo v m = v := by unfold mvTo; rw [if_neg h]
set_option maxRecDepth 100000 in
theorem move1_any (v m : Int) (w : World) (g : Nat) (h0 : 0 ≤ v) (h1 : v ≤ 9223372036854775807) (hm : I64 m) (hg : Blk w g 3 #[.int .i64 m]) : Calls Try.prog 50 #[.int .i64 v, .pointer (some ⟨g, 0, none⟩)] w (Ret fun v' w' => v' = .int .i64 (mvTo v m) ∧ Below w.heap.size w w') := by
  have hgl := hg.lt
  have hm' := hm
  unfold I64 at hm
  refine Calls.walk (l := [.int .i64 v, .pointer (some ⟨g, 0, none⟩)]) Try.func50 rfl (by kernel_rfl) ?_
  refine WC.sub (K' := [(0, .int .i64 v), (1, .pointer (some ⟨g, 0, none⟩))]) ⟨rfl, rfl, trivial⟩ ?_
  refine WC.seq ?_
  refine WC.region ?_
  refine WL.val (.int .i64 0) rfl rfl rfl (fun za zC zh zk => wp_assign rfl (zh.ev rfl) zk) ?_
  refine WL.nil (WE.sub (K' := [(0, .int .i64 v), (1, .pointer (some ⟨g, 0, none⟩)), (3, .int .i64 0)]) ⟨rfl, rfl, rfl, trivial⟩ ?_)
  refine WE.next ?_
  refine WC.seq ?_
  refine WC.block ?_
  refine WC.seq ?_
  refine WC.region ?_
  refine WL.val (.int .i64 m) rfl rfl rfl (fun za zC zh zk => ld_3 rfl (zh.ev rfl) ((hg.cell 0).trans rfl) zk) ?_
  refine WL.val (.bool ((decide ((0 : Int) ≤ (m : Int))))) rfl rfl rfl (fun za zC zh zk => geq_3 rfl (zh.ev rfl) (zh.ev rfl) zk) ?_
  refine WL.val (.bool ((decide ((0 : Int) ≤ (m : Int))))) rfl rfl rfl (fun za zC zh zk => wp_move rfl (zh.ev rfl) zk) ?_
  refine bool_split ((decide ((0 : Int) ≤ (m : Int)))) (fun h1 => ?_) (fun h1 => ?_)
  · refine WL.sub (K' := [(0, .int .i64 v), (1, .pointer (some ⟨g, 0, none⟩)), (3, .int .i64 0), (5, .int .i64 m), (6, .bool ((decide ((0 : Int) ≤ (m : Int))))), (7, .bool true)]) ⟨rfl, rfl, rfl, rfl, rfl, (by exact congrArg (fun z => some (Value.bool z)) h1), trivial⟩ ?_
    have h1 : (0 : Int) ≤ (m : Int) := by simpa using h1
    refine WL.want (d := 7) rfl rfl rfl ?_
    refine WL.val (.int .i64 m) rfl rfl rfl (fun za zC zh zk => ld_3 rfl (zh.ev rfl) ((hg.cell 0).trans rfl) zk) ?_
    refine WL.want (d := 7) rfl rfl rfl ?_
    refine WL.val (.bool ((decide ((2147483647 : Int) < (m : Int))))) rfl rfl rfl (fun za zC zh zk => gtr_3 rfl (zh.ev rfl) (zh.ev rfl) zk) ?_
    refine WL.want (d := 7) rfl rfl rfl ?_
    refine WL.val (.bool ((decide ((2147483647 : Int) < (m : Int))))) rfl rfl rfl (fun za zC zh zk => wp_move rfl (zh.ev rfl) zk) ?_
    refine bool_split ((decide ((2147483647 : Int) < (m : Int)))) (fun h2 => ?_) (fun h2 => ?_)
    · refine WL.sub (K' := [(0, .int .i64 v), (1, .pointer (some ⟨g, 0, none⟩)), (3, .int .i64 0), (5, .int .i64 m), (6, .bool ((decide ((0 : Int) ≤ (m : Int))))), (7, .bool true), (8, .int .i64 m), (9, .bool ((decide ((2147483647 : Int) < (m : Int))))), (10, .bool true)]) ⟨rfl, rfl, rfl, rfl, rfl, rfl, rfl, rfl, (by exact congrArg (fun z => some (Value.bool z)) h2), trivial⟩ ?_
      have h2 : (2147483647 : Int) < (m : Int) := by simpa using h2
      refine WL.skip (d := 10) rfl rfl rfl rfl rfl ?_
      refine WL.skip (d := 10) rfl rfl rfl rfl rfl ?_
      refine WL.skip (d := 10) rfl rfl rfl rfl rfl ?_
      refine WL.skip (d := 10) rfl rfl rfl rfl rfl ?_
      refine WL.want (d := 7) rfl rfl rfl ?_
      refine WL.val (.bool true) rfl rfl rfl (fun za zC zh zk => wp_pickT rfl (zh.ev rfl) (zh.ev rfl) zk) ?_
      refine WL.val (.bool true) rfl rfl rfl (fun za zC zh zk => wp_pickT rfl (zh.ev rfl) (zh.ev rfl) zk) ?_
      refine WL.val (.bool true) rfl rfl rfl (fun za zC zh zk => wp_assign rfl (zh.ev rfl) zk) ?_
      refine WL.nil (WE.sub (K' := [(0, .int .i64 v), (1, .pointer (some ⟨g, 0, none⟩)), (3, .int .i64 0), (4, .bool true)]) ⟨rfl, rfl, rfl, rfl, trivial⟩ ?_)
      refine WE.next ?_
      refine WC.condT rfl rfl ?_
      refine WC.seq ?_
      refine WC.region ?_
      refine WL.val (.int .i64 v) rfl rfl rfl (fun za zC zh zk => wp_move rfl (zh.ev rfl) zk) ?_
      refine WL.val (.int .i64 v) rfl rfl rfl (fun za zC zh zk => wp_assign rfl (zh.ev rfl) zk) ?_
      refine WL.nil (WE.sub (K' := [(0, .int .i64 v), (1, .pointer (some ⟨g, 0, none⟩)), (3, .int .i64 v), (4, .bool true)]) ⟨rfl, rfl, rfl, rfl, trivial⟩ ?_)
      refine WE.next ?_
      refine WC.ret ?_
      refine WE.blockRet ?_
      refine WE.thenRet ?_
      refine WE.ret1 rfl rfl ?_
      exact ⟨_, rfl, congrArg (Value.int .i64) (by rw [mvTo_no (fun h => by have z := mvOk_iff.1 h; omega)]), (Below.refl _ _)⟩
    · refine WL.sub (K' := [(0, .int .i64 v), (1, .pointer (some ⟨g, 0, none⟩)), (3, .int .i64 0), (5, .int .i64 m), (6, .bool ((decide ((0 : Int) ≤ (m : Int))))), (7, .bool true), (8, .int .i64 m), (9, .bool ((decide ((2147483647 : Int) < (m : Int))))), (10, .bool false)]) ⟨rfl, rfl, rfl, rfl, rfl, rfl, rfl, rfl, (by exact congrArg (fun z => some (Value.bool z)) h2), trivial⟩ ?_
      have h2 : ¬ ((2147483647 : Int) < (m : Int)) := by simpa using h2
      refine WL.want (d := 10) rfl rfl rfl ?_
      refine WL.val (.int .i64 v) rfl rfl rfl (fun za zC zh zk => wp_move rfl (zh.ev rfl) zk) ?_
      refine WL.want (d := 10) rfl rfl rfl ?_
      refine WL.val (.int .i64 m) rfl rfl rfl (fun za zC zh zk => ld_3 rfl (zh.ev rfl) ((hg.cell 0).trans rfl) zk) ?_
      refine WL.want (d := 10) rfl rfl rfl ?_
      refine WL.val (.int .i64 ((2147483647 - m))) rfl rfl rfl (fun za zC zh zk => subb_3 rfl (zh.ev rfl) (zh.ev rfl) (wrap_eq (by omega) (by omega) (by omega)) zk) ?_
      refine WL.want (d := 10) rfl rfl rfl ?_
      refine WL.val (.bool ((decide (((2147483647 - m) : Int) < (v : Int))))) rfl rfl rfl (fun za zC zh zk => gtr_3 rfl (zh.ev rfl) (zh.ev rfl) zk) ?_
      refine WL.want (d := 7) rfl rfl rfl ?_
      refine WL.val (.bool ((decide (((2147483647 - m) : Int) < (v : Int))))) rfl rfl rfl (fun za zC zh zk => wp_pickF rfl (zh.ev rfl) (zh.ev rfl) zk) ?_
      refine WL.val (.bool ((decide (((2147483647 - m) : Int) < (v : Int))))) rfl rfl rfl (fun za zC zh zk => wp_pickT rfl (zh.ev rfl) (zh.ev rfl) zk) ?_
      refine WL.val (.bool ((decide (((2147483647 - m) : Int) < (v : Int))))) rfl rfl rfl (fun za zC zh zk => wp_assign rfl (zh.ev rfl) zk) ?_
      refine WL.nil (WE.sub (K' := [(0, .int .i64 v), (1, .pointer (some ⟨g, 0, none⟩)), (3, .int .i64 0), (4, .bool ((decide (((2147483647 - m) : Int) < (v : Int)))))]) ⟨rfl, rfl, rfl, rfl, trivial⟩ ?_)
      refine WE.next ?_
      refine WC.cond rfl (fun h3 => ?_) (fun h3 => ?_)
      · have h3 : ((2147483647 - m) : Int) < (v : Int) := by simpa using h3
        refine WC.seq ?_
        refine WC.region ?_
        refine WL.val (.int .i64 v) rfl rfl rfl (fun za zC zh zk => wp_move rfl (zh.ev rfl) zk) ?_
        refine WL.val (.int .i64 v) rfl rfl rfl (fun za zC zh zk => wp_assign rfl (zh.ev rfl) zk) ?_
        refine WL.nil (WE.sub (K' := [(0, .int .i64 v), (1, .pointer (some ⟨g, 0, none⟩)), (3, .int .i64 v), (4, .bool ((decide (((2147483647 - m) : Int) < (v : Int)))))]) ⟨rfl, rfl, rfl, rfl, trivial⟩ ?_)
        refine WE.next ?_
        refine WC.ret ?_
        refine WE.blockRet ?_
        refine WE.thenRet ?_
        refine WE.ret1 rfl rfl ?_
        exact ⟨_, rfl, congrArg (Value.int .i64) (by rw [mvTo_no (fun h => by have z := mvOk_iff.1 h; omega)]), (Below.refl _ _)⟩
      · have h3 : ¬ (((2147483647 - m) : Int) < (v : Int)) := by simpa using h3
        refine WC.seq ?_
        refine WC.region ?_
        refine WL.val (.int .i64 m) rfl rfl rfl (fun za zC zh zk => ld_3 rfl (zh.ev rfl) ((hg.cell 0).trans rfl) zk) ?_
        refine WL.val (.bool ((decide ((m : Int) < (0 : Int))))) rfl rfl rfl (fun za zC zh zk => lss_3 rfl (zh.ev rfl) (zh.ev rfl) zk) ?_
        refine WL.val (.bool ((decide ((m : Int) < (0 : Int))))) rfl rfl rfl (fun za zC zh zk => wp_move rfl (zh.ev rfl) zk) ?_
        refine bool_split ((decide ((m : Int) < (0 : Int)))) (fun h4 => ?_) (fun h4 => ?_)
        · refine WL.sub (K' := [(0, .int .i64 v), (1, .pointer (some ⟨g, 0, none⟩)), (3, .int .i64 0), (4, .bool ((decide (((2147483647 - m) : Int) < (v : Int))))), (19, .int .i64 m), (20, .bool ((decide ((m : Int) < (0 : Int))))), (21, .bool true)]) ⟨rfl, rfl, rfl, rfl, rfl, rfl, (by exact congrArg (fun z => some (Value.bool z)) h4), trivial⟩ ?_
          have h4 : (m : Int) < (0 : Int) := by simpa using h4
          refine WL.want (d := 21) rfl rfl rfl ?_
          refine WL.val (.int .i64 v) rfl rfl rfl (fun za zC zh zk => wp_move rfl (zh.ev rfl) zk) ?_
          refine WL.want (d := 21) rfl rfl rfl ?_
          refine WL.val (.int .i64 m) rfl rfl rfl (fun za zC zh zk => ld_3 rfl (zh.ev rfl) ((hg.cell 0).trans rfl) zk) ?_
          refine WL.want (d := 21) rfl rfl rfl ?_
          refine WL.val (.int .i64 ((v + m))) rfl rfl rfl (fun za zC zh zk => addb_3 rfl (zh.ev rfl) (zh.ev rfl) (wrap_eq (by omega) (by omega) (by omega)) zk) ?_
          refine WL.want (d := 21) rfl rfl rfl ?_
          refine WL.val (.bool ((decide (((v + m) : Int) < (0 : Int))))) rfl rfl rfl (fun za zC zh zk => lss_3 rfl (zh.ev rfl) (zh.ev rfl) zk) ?_
          refine WL.want (d := 21) rfl rfl rfl ?_
          refine WL.val (.bool ((decide (((v + m) : Int) < (0 : Int))))) rfl rfl rfl (fun za zC zh zk => wp_move rfl (zh.ev rfl) zk) ?_
          refine bool_split ((decide (((v + m) : Int) < (0 : Int)))) (fun h5 => ?_) (fun h5 => ?_)
          · refine WL.sub (K' := [(0, .int .i64 v), (1, .pointer (some ⟨g, 0, none⟩)), (3, .int .i64 0), (4, .bool ((decide (((2147483647 - m) : Int) < (v : Int))))), (19, .int .i64 m), (20, .bool ((decide ((m : Int) < (0 : Int))))), (21, .bool true), (22, .int .i64 v), (23, .int .i64 m), (24, .int .i64 ((v + m))), (25, .bool ((decide (((v + m) : Int) < (0 : Int))))), (26, .bool true)]) ⟨rfl, rfl, rfl, rfl, rfl, rfl, rfl, rfl, rfl, rfl, rfl, (by exact congrArg (fun z => some (Value.bool z)) h5), trivial⟩ ?_
            have h5 : ((v + m) : Int) < (0 : Int) := by simpa using h5
            refine WL.skip (d := 26) rfl rfl rfl rfl rfl ?_
            refine WL.skip (d := 26) rfl rfl rfl rfl rfl ?_
            refine WL.skip (d := 26) rfl rfl rfl rfl rfl ?_
            refine WL.skip (d := 26) rfl rfl rfl rfl rfl ?_
            refine WL.want (d := 21) rfl rfl rfl ?_
            refine WL.val (.bool true) rfl rfl rfl (fun za zC zh zk => wp_pickT rfl (zh.ev rfl) (zh.ev rfl) zk) ?_
            refine WL.val (.bool true) rfl rfl rfl (fun za zC zh zk => wp_pickT rfl (zh.ev rfl) (zh.ev rfl) zk) ?_
            refine WL.val (.bool true) rfl rfl rfl (fun za zC zh zk => wp_assign rfl (zh.ev rfl) zk) ?_
            refine WL.nil (WE.sub (K' := [(0, .int .i64 v), (1, .pointer (some ⟨g, 0, none⟩)), (3, .int .i64 0), (4, .bool ((decide (((2147483647 - m) : Int) < (v : Int))))), (18, .bool true)]) ⟨rfl, rfl, rfl, rfl, rfl, trivial⟩ ?_)
            refine WE.next ?_
            refine WC.condT rfl rfl ?_
            refine WC.seq ?_
            refine WC.region ?_
            refine WL.val (.int .i64 v) rfl rfl rfl (fun za zC zh zk => wp_move rfl (zh.ev rfl) zk) ?_
            refine WL.val (.int .i64 v) rfl rfl rfl (fun za zC zh zk => wp_assign rfl (zh.ev rfl) zk) ?_
            refine WL.nil (WE.sub (K' := [(0, .int .i64 v), (1, .pointer (some ⟨g, 0, none⟩)), (3, .int .i64 v), (4, .bool ((decide (((2147483647 - m) : Int) < (v : Int))))), (18, .bool true)]) ⟨rfl, rfl, rfl, rfl, rfl, trivial⟩ ?_)
            refine WE.next ?_
            refine WC.ret ?_
            refine WE.blockRet ?_
            refine WE.thenRet ?_
            refine WE.ret1 rfl rfl ?_
            exact ⟨_, rfl, congrArg (Value.int .i64) (by rw [mvTo_no (fun h => by have z := mvOk_iff.1 h; omega)]), (Below.refl _ _)⟩
          · refine WL.sub (K' := [(0, .int .i64 v), (1, .pointer (some ⟨g, 0, none⟩)), (3, .int .i64 0), (4, .bool ((decide (((2147483647 - m) : Int) < (v : Int))))), (19, .int .i64 m), (20, .bool ((decide ((m : Int) < (0 : Int))))), (21, .bool true), (22, .int .i64 v), (23, .int .i64 m), (24, .int .i64 ((v + m))), (25, .bool ((decide (((v + m) : Int) < (0 : Int))))), (26, .bool false)]) ⟨rfl, rfl, rfl, rfl, rfl, rfl, rfl, rfl, rfl, rfl, rfl, (by exact congrArg (fun z => some (Value.bool z)) h5), trivial⟩ ?_
            have h5 : ¬ (((v + m) : Int) < (0 : Int)) := by simpa using h5
            refine WL.want (d := 26) rfl rfl rfl ?_
            refine WL.val (.int .i64 v) rfl rfl rfl (fun za zC zh zk => wp_move rfl (zh.ev rfl) zk) ?_
            refine WL.want (d := 26) rfl rfl rfl ?_
            refine WL.val (.int .i64 m) rfl rfl rfl (fun za zC zh zk => ld_3 rfl (zh.ev rfl) ((hg.cell 0).trans rfl) zk) ?_
            refine WL.want (d := 26) rfl rfl rfl ?_
            refine WL.val (.int .i64 ((v + m))) rfl rfl rfl (fun za zC zh zk => addb_3 rfl (zh.ev rfl) (zh.ev rfl) (wrap_eq (by omega) (by omega) (by omega)) zk) ?_
            refine WL.want (d := 26) rfl rfl rfl ?_
            refine WL.val (.bool ((decide ((2147483647 : Int) < ((v + m) : Int))))) rfl rfl rfl (fun za zC zh zk => gtr_3 rfl (zh.ev rfl) (zh.ev rfl) zk) ?_
            refine WL.want (d := 21) rfl rfl rfl ?_
            refine WL.val (.bool ((decide ((2147483647 : Int) < ((v + m) : Int))))) rfl rfl rfl (fun za zC zh zk => wp_pickF rfl (zh.ev rfl) (zh.ev rfl) zk) ?_
            refine WL.val (.bool ((decide ((2147483647 : Int) < ((v + m) : Int))))) rfl rfl rfl (fun za zC zh zk => wp_pickT rfl (zh.ev rfl) (zh.ev rfl) zk) ?_
            refine WL.val (.bool ((decide ((2147483647 : Int) < ((v + m) : Int))))) rfl rfl rfl (fun za zC zh zk => wp_assign rfl (zh.ev rfl) zk) ?_
            refine WL.nil (WE.sub (K' := [(0, .int .i64 v), (1, .pointer (some ⟨g, 0, none⟩)), (3, .int .i64 0), (4, .bool ((decide (((2147483647 - m) : Int) < (v : Int))))), (18, .bool ((decide ((2147483647 : Int) < ((v + m) : Int)))))]) ⟨rfl, rfl, rfl, rfl, rfl, trivial⟩ ?_)
            refine WE.next ?_
            refine WC.cond rfl (fun h6 => ?_) (fun h6 => ?_)
            · have h6 : (2147483647 : Int) < ((v + m) : Int) := by simpa using h6
              refine WC.seq ?_
              refine WC.region ?_
              refine WL.val (.int .i64 v) rfl rfl rfl (fun za zC zh zk => wp_move rfl (zh.ev rfl) zk) ?_
              refine WL.val (.int .i64 v) rfl rfl rfl (fun za zC zh zk => wp_assign rfl (zh.ev rfl) zk) ?_
              refine WL.nil (WE.sub (K' := [(0, .int .i64 v), (1, .pointer (some ⟨g, 0, none⟩)), (3, .int .i64 v), (4, .bool ((decide (((2147483647 - m) : Int) < (v : Int))))), (18, .bool ((decide ((2147483647 : Int) < ((v + m) : Int)))))]) ⟨rfl, rfl, rfl, rfl, rfl, trivial⟩ ?_)
              refine WE.next ?_
              refine WC.ret ?_
              refine WE.blockRet ?_
              refine WE.thenRet ?_
              refine WE.ret1 rfl rfl ?_
              exact ⟨_, rfl, congrArg (Value.int .i64) (by rw [mvTo_no (fun h => by have z := mvOk_iff.1 h; omega)]), (Below.refl _ _)⟩
            · have h6 : ¬ ((2147483647 : Int) < ((v + m) : Int)) := by simpa using h6
              refine WC.skip ?_
              refine WE.blockNormal ?_
              refine WE.next ?_
              refine WC.seq ?_
              refine WC.region ?_
              refine WL.val (.int .i64 v) rfl rfl rfl (fun za zC zh zk => wp_move rfl (zh.ev rfl) zk) ?_
              refine WL.val (.int .i64 m) rfl rfl rfl (fun za zC zh zk => ld_3 rfl (zh.ev rfl) ((hg.cell 0).trans rfl) zk) ?_
              refine WL.val (.int .i64 ((v + m))) rfl rfl rfl (fun za zC zh zk => addb_3 rfl (zh.ev rfl) (zh.ev rfl) (wrap_eq (by omega) (by omega) (by omega)) zk) ?_
              refine WL.val (.int .i64 ((v + m))) rfl rfl rfl (fun za zC zh zk => wp_assign rfl (zh.ev rfl) zk) ?_
              refine WL.nil (WE.sub (K' := [(0, .int .i64 v), (1, .pointer (some ⟨g, 0, none⟩)), (3, .int .i64 ((v + m))), (4, .bool ((decide (((2147483647 - m) : Int) < (v : Int))))), (18, .bool ((decide ((2147483647 : Int) < ((v + m) : Int)))))]) ⟨rfl, rfl, rfl, rfl, rfl, trivial⟩ ?_)
              refine WE.next ?_
              refine WC.ret ?_
              refine WE.ret1 rfl rfl ?_
              exact ⟨_, rfl, congrArg (Value.int .i64) (by rw [mvTo_yes (mvOk_iff.2 (by omega))]), (Below.refl _ _)⟩
        · refine WL.sub (K' := [(0, .int .i64 v), (1, .pointer (some ⟨g, 0, none⟩)), (3, .int .i64 0), (4, .bool ((decide (((2147483647 - m) : Int) < (v : Int))))), (19, .int .i64 m), (20, .bool ((decide ((m : Int) < (0 : Int))))), (21, .bool false)]) ⟨rfl, rfl, rfl, rfl, rfl, rfl, (by exact congrArg (fun z => some (Value.bool z)) h4), trivial⟩ ?_
          have h4 : ¬ ((m : Int) < (0 : Int)) := by simpa using h4
          refine WL.skip (d := 21) rfl rfl rfl rfl rfl ?_
          refine WL.skip (d := 21) rfl rfl rfl rfl rfl ?_
          refine WL.skip (d := 21) rfl rfl rfl rfl rfl ?_
          refine WL.skip (d := 21) rfl rfl rfl rfl rfl ?_
          refine WL.skip (d := 21) rfl rfl rfl rfl rfl ?_
          refine WL.skipU (d := 26) rfl rfl rfl rfl ?_
          refine WL.skipU (d := 26) rfl rfl rfl rfl ?_
          refine WL.skipU (d := 26) rfl rfl rfl rfl ?_
          refine WL.skipU (d := 26) rfl rfl rfl rfl ?_
          refine WL.skip (d := 21) rfl rfl rfl rfl rfl ?_
          refine WL.val (.bool false) rfl rfl rfl (fun za zC zh zk => wp_pickF rfl (zh.ev rfl) (zh.ev rfl) zk) ?_
          refine WL.val (.bool false) rfl rfl rfl (fun za zC zh zk => wp_assign rfl (zh.ev rfl) zk) ?_
          refine WL.nil (WE.sub (K' := [(0, .int .i64 v), (1, .pointer (some ⟨g, 0, none⟩)), (3, .int .i64 0), (4, .bool ((decide (((2147483647 - m) : Int) < (v : Int))))), (18, .bool false)]) ⟨rfl, rfl, rfl, rfl, rfl, trivial⟩ ?_)
          refine WE.next ?_
          refine WC.condF rfl rfl ?_
          refine WC.skip ?_
          refine WE.blockNormal ?_
          refine WE.next ?_
          refine WC.seq ?_
          refine WC.region ?_
          refine WL.val (.int .i64 v) rfl rfl rfl (fun za zC zh zk => wp_move rfl (zh.ev rfl) zk) ?_
          refine WL.val (.int .i64 m) rfl rfl rfl (fun za zC zh zk => ld_3 rfl (zh.ev rfl) ((hg.cell 0).trans rfl) zk) ?_
          refine WL.val (.int .i64 ((v + m))) rfl rfl rfl (fun za zC zh zk => addb_3 rfl (zh.ev rfl) (zh.ev rfl) (wrap_eq (by omega) (by omega) (by omega)) zk) ?_
          refine WL.val (.int .i64 ((v + m))) rfl rfl rfl (fun za zC zh zk => wp_assign rfl (zh.ev rfl) zk) ?_
          refine WL.nil (WE.sub (K' := [(0, .int .i64 v), (1, .pointer (some ⟨g, 0, none⟩)), (3, .int .i64 ((v + m))), (4, .bool ((decide (((2147483647 - m) : Int) < (v : Int))))), (18, .bool false)]) ⟨rfl, rfl, rfl, rfl, rfl, trivial⟩ ?_)
          refine WE.next ?_
          refine WC.ret ?_
          refine WE.ret1 rfl rfl ?_
          exact ⟨_, rfl, congrArg (Value.int .i64) (by rw [mvTo_yes (mvOk_iff.2 (by omega))]), (Below.refl _ _)⟩
  · refine WL.sub (K' := [(0, .int .i64 v), (1, .pointer (some ⟨g, 0, none⟩)), (3, .int .i64 0), (5, .int .i64 m), (6, .bool ((decide ((0 : Int) ≤ (m : Int))))), (7, .bool false)]) ⟨rfl, rfl, rfl, rfl, rfl, (by exact congrArg (fun z => some (Value.bool z)) h1), trivial⟩ ?_
    have h1 : ¬ ((0 : Int) ≤ (m : Int)) := by simpa using h1
    refine WL.skip (d := 7) rfl rfl rfl rfl rfl ?_
    refine WL.skip (d := 7) rfl rfl rfl rfl rfl ?_
    refine WL.skip (d := 7) rfl rfl rfl rfl rfl ?_
    refine WL.skipU (d := 10) rfl rfl rfl rfl ?_
    refine WL.skipU (d := 10) rfl rfl rfl rfl ?_
    refine WL.skipU (d := 10) rfl rfl rfl rfl ?_
    refine WL.skipU (d := 10) rfl rfl rfl rfl ?_
    refine WL.skip (d := 7) rfl rfl rfl rfl rfl ?_
    refine WL.val (.bool false) rfl rfl rfl (fun za zC zh zk => wp_pickF rfl (zh.ev rfl) (zh.ev rfl) zk) ?_
    refine WL.val (.bool false) rfl rfl rfl (fun za zC zh zk => wp_assign rfl (zh.ev rfl) zk) ?_
    refine WL.nil (WE.sub (K' := [(0, .int .i64 v), (1, .pointer (some ⟨g, 0, none⟩)), (3, .int .i64 0), (4, .bool false)]) ⟨rfl, rfl, rfl, rfl, trivial⟩ ?_)
    refine WE.next ?_
    refine WC.condF rfl rfl ?_
    refine WC.seq ?_
    refine WC.region ?_
    refine WL.val (.int .i64 m) rfl rfl rfl (fun za zC zh zk => ld_3 rfl (zh.ev rfl) ((hg.cell 0).trans rfl) zk) ?_
    refine WL.val (.bool ((decide ((m : Int) < (0 : Int))))) rfl rfl rfl (fun za zC zh zk => lss_3 rfl (zh.ev rfl) (zh.ev rfl) zk) ?_
    refine WL.val (.bool ((decide ((m : Int) < (0 : Int))))) rfl rfl rfl (fun za zC zh zk => wp_move rfl (zh.ev rfl) zk) ?_
    refine bool_split ((decide ((m : Int) < (0 : Int)))) (fun h7 => ?_) (fun h7 => ?_)
    · refine WL.sub (K' := [(0, .int .i64 v), (1, .pointer (some ⟨g, 0, none⟩)), (3, .int .i64 0), (4, .bool false), (19, .int .i64 m), (20, .bool ((decide ((m : Int) < (0 : Int))))), (21, .bool true)]) ⟨rfl, rfl, rfl, rfl, rfl, rfl, (by exact congrArg (fun z => some (Value.bool z)) h7), trivial⟩ ?_
      have h7 : (m : Int) < (0 : Int) := by simpa using h7
      refine WL.want (d := 21) rfl rfl rfl ?_
      refine WL.val (.int .i64 v) rfl rfl rfl (fun za zC zh zk => wp_move rfl (zh.ev rfl) zk) ?_
      refine WL.want (d := 21) rfl rfl rfl ?_
      refine WL.val (.int .i64 m) rfl rfl rfl (fun za zC zh zk => ld_3 rfl (zh.ev rfl) ((hg.cell 0).trans rfl) zk) ?_
      refine WL.want (d := 21) rfl rfl rfl ?_
      refine WL.val (.int .i64 ((v + m))) rfl rfl rfl (fun za zC zh zk => addb_3 rfl (zh.ev rfl) (zh.ev rfl) (wrap_eq (by omega) (by omega) (by omega)) zk) ?_
      refine WL.want (d := 21) rfl rfl rfl ?_
      refine WL.val (.bool ((decide (((v + m) : Int) < (0 : Int))))) rfl rfl rfl (fun za zC zh zk => lss_3 rfl (zh.ev rfl) (zh.ev rfl) zk) ?_
      refine WL.want (d := 21) rfl rfl rfl ?_
      refine WL.val (.bool ((decide (((v + m) : Int) < (0 : Int))))) rfl rfl rfl (fun za zC zh zk => wp_move rfl (zh.ev rfl) zk) ?_
      refine bool_split ((decide (((v + m) : Int) < (0 : Int)))) (fun h8 => ?_) (fun h8 => ?_)
      · refine WL.sub (K' := [(0, .int .i64 v), (1, .pointer (some ⟨g, 0, none⟩)), (3, .int .i64 0), (4, .bool false), (19, .int .i64 m), (20, .bool ((decide ((m : Int) < (0 : Int))))), (21, .bool true), (22, .int .i64 v), (23, .int .i64 m), (24, .int .i64 ((v + m))), (25, .bool ((decide (((v + m) : Int) < (0 : Int))))), (26, .bool true)]) ⟨rfl, rfl, rfl, rfl, rfl, rfl, rfl, rfl, rfl, rfl, rfl, (by exact congrArg (fun z => some (Value.bool z)) h8), trivial⟩ ?_
        have h8 : ((v + m) : Int) < (0 : Int) := by simpa using h8
        refine WL.skip (d := 26) rfl rfl rfl rfl rfl ?_
        refine WL.skip (d := 26) rfl rfl rfl rfl rfl ?_
        refine WL.skip (d := 26) rfl rfl rfl rfl rfl ?_
        refine WL.skip (d := 26) rfl rfl rfl rfl rfl ?_
        refine WL.want (d := 21) rfl rfl rfl ?_
        refine WL.val (.bool true) rfl rfl rfl (fun za zC zh zk => wp_pickT rfl (zh.ev rfl) (zh.ev rfl) zk) ?_
        refine WL.val (.bool true) rfl rfl rfl (fun za zC zh zk => wp_pickT rfl (zh.ev rfl) (zh.ev rfl) zk) ?_
        refine WL.val (.bool true) rfl rfl rfl (fun za zC zh zk => wp_assign rfl (zh.ev rfl) zk) ?_
        refine WL.nil (WE.sub (K' := [(0, .int .i64 v), (1, .pointer (some ⟨g, 0, none⟩)), (3, .int .i64 0), (4, .bool false), (18, .bool true)]) ⟨rfl, rfl, rfl, rfl, rfl, trivial⟩ ?_)
        refine WE.next ?_
        refine WC.condT rfl rfl ?_
        refine WC.seq ?_
        refine WC.region ?_
        refine WL.val (.int .i64 v) rfl rfl rfl (fun za zC zh zk => wp_move rfl (zh.ev rfl) zk) ?_
        refine WL.val (.int .i64 v) rfl rfl rfl (fun za zC zh zk => wp_assign rfl (zh.ev rfl) zk) ?_
        refine WL.nil (WE.sub (K' := [(0, .int .i64 v), (1, .pointer (some ⟨g, 0, none⟩)), (3, .int .i64 v), (4, .bool false), (18, .bool true)]) ⟨rfl, rfl, rfl, rfl, rfl, trivial⟩ ?_)
        refine WE.next ?_
        refine WC.ret ?_
        refine WE.blockRet ?_
        refine WE.thenRet ?_
        refine WE.ret1 rfl rfl ?_
        exact ⟨_, rfl, congrArg (Value.int .i64) (by rw [mvTo_no (fun h => by have z := mvOk_iff.1 h; omega)]), (Below.refl _ _)⟩
      · refine WL.sub (K' := [(0, .int .i64 v), (1, .pointer (some ⟨g, 0, none⟩)), (3, .int .i64 0), (4, .bool false), (19, .int .i64 m), (20, .bool ((decide ((m : Int) < (0 : Int))))), (21, .bool true), (22, .int .i64 v), (23, .int .i64 m), (24, .int .i64 ((v + m))), (25, .bool ((decide (((v + m) : Int) < (0 : Int))))), (26, .bool false)]) ⟨rfl, rfl, rfl, rfl, rfl, rfl, rfl, rfl, rfl, rfl, rfl, (by exact congrArg (fun z => some (Value.bool z)) h8), trivial⟩ ?_
        have h8 : ¬ (((v + m) : Int) < (0 : Int)) := by simpa using h8
        refine WL.want (d := 26) rfl rfl rfl ?_
        refine WL.val (.int .i64 v) rfl rfl rfl (fun za zC zh zk => wp_move rfl (zh.ev rfl) zk) ?_
        refine WL.want (d := 26) rfl rfl rfl ?_
        refine WL.val (.int .i64 m) rfl rfl rfl (fun za zC zh zk => ld_3 rfl (zh.ev rfl) ((hg.cell 0).trans rfl) zk) ?_
        refine WL.want (d := 26) rfl rfl rfl ?_
        refine WL.val (.int .i64 ((v + m))) rfl rfl rfl (fun za zC zh zk => addb_3 rfl (zh.ev rfl) (zh.ev rfl) (wrap_eq (by omega) (by omega) (by omega)) zk) ?_
        refine WL.want (d := 26) rfl rfl rfl ?_
        refine WL.val (.bool ((decide ((2147483647 : Int) < ((v + m) : Int))))) rfl rfl rfl (fun za zC zh zk => gtr_3 rfl (zh.ev rfl) (zh.ev rfl) zk) ?_
        refine WL.want (d := 21) rfl rfl rfl ?_
        refine WL.val (.bool ((decide ((2147483647 : Int) < ((v + m) : Int))))) rfl rfl rfl (fun za zC zh zk => wp_pickF rfl (zh.ev rfl) (zh.ev rfl) zk) ?_
        refine WL.val (.bool ((decide ((2147483647 : Int) < ((v + m) : Int))))) rfl rfl rfl (fun za zC zh zk => wp_pickT rfl (zh.ev rfl) (zh.ev rfl) zk) ?_
        refine WL.val (.bool ((decide ((2147483647 : Int) < ((v + m) : Int))))) rfl rfl rfl (fun za zC zh zk => wp_assign rfl (zh.ev rfl) zk) ?_
        refine WL.nil (WE.sub (K' := [(0, .int .i64 v), (1, .pointer (some ⟨g, 0, none⟩)), (3, .int .i64 0), (4, .bool false), (18, .bool ((decide ((2147483647 : Int) < ((v + m) : Int)))))]) ⟨rfl, rfl, rfl, rfl, rfl, trivial⟩ ?_)
        refine WE.next ?_
        refine WC.cond rfl (fun h9 => ?_) (fun h9 => ?_)
        · have h9 : (2147483647 : Int) < ((v + m) : Int) := by simpa using h9
          refine WC.seq ?_
          refine WC.region ?_
          refine WL.val (.int .i64 v) rfl rfl rfl (fun za zC zh zk => wp_move rfl (zh.ev rfl) zk) ?_
          refine WL.val (.int .i64 v) rfl rfl rfl (fun za zC zh zk => wp_assign rfl (zh.ev rfl) zk) ?_
          refine WL.nil (WE.sub (K' := [(0, .int .i64 v), (1, .pointer (some ⟨g, 0, none⟩)), (3, .int .i64 v), (4, .bool false), (18, .bool ((decide ((2147483647 : Int) < ((v + m) : Int)))))]) ⟨rfl, rfl, rfl, rfl, rfl, trivial⟩ ?_)
          refine WE.next ?_
          refine WC.ret ?_
          refine WE.blockRet ?_
          refine WE.thenRet ?_
          refine WE.ret1 rfl rfl ?_
          exact ⟨_, rfl, congrArg (Value.int .i64) (by rw [mvTo_no (fun h => by have z := mvOk_iff.1 h; omega)]), (Below.refl _ _)⟩
        · have h9 : ¬ ((2147483647 : Int) < ((v + m) : Int)) := by simpa using h9
          refine WC.skip ?_
          refine WE.blockNormal ?_
          refine WE.next ?_
          refine WC.seq ?_
          refine WC.region ?_
          refine WL.val (.int .i64 v) rfl rfl rfl (fun za zC zh zk => wp_move rfl (zh.ev rfl) zk) ?_
          refine WL.val (.int .i64 m) rfl rfl rfl (fun za zC zh zk => ld_3 rfl (zh.ev rfl) ((hg.cell 0).trans rfl) zk) ?_
          refine WL.val (.int .i64 ((v + m))) rfl rfl rfl (fun za zC zh zk => addb_3 rfl (zh.ev rfl) (zh.ev rfl) (wrap_eq (by omega) (by omega) (by omega)) zk) ?_
          refine WL.val (.int .i64 ((v + m))) rfl rfl rfl (fun za zC zh zk => wp_assign rfl (zh.ev rfl) zk) ?_
          refine WL.nil (WE.sub (K' := [(0, .int .i64 v), (1, .pointer (some ⟨g, 0, none⟩)), (3, .int .i64 ((v + m))), (4, .bool false), (18, .bool ((decide ((2147483647 : Int) < ((v + m) : Int)))))]) ⟨rfl, rfl, rfl, rfl, rfl, trivial⟩ ?_)
          refine WE.next ?_
          refine WC.ret ?_
          refine WE.ret1 rfl rfl ?_
          exact ⟨_, rfl, congrArg (Value.int .i64) (by rw [mvTo_yes (mvOk_iff.2 (by omega))]), (Below.refl _ _)⟩
    · refine WL.sub (K' := [(0, .int .i64 v), (1, .pointer (some ⟨g, 0, none⟩)), (3, .int .i64 0), (4, .bool false), (19, .int .i64 m), (20, .bool ((decide ((m : Int) < (0 : Int))))), (21, .bool false)]) ⟨rfl, rfl, rfl, rfl, rfl, rfl, (by exact congrArg (fun z => some (Value.bool z)) h7), trivial⟩ ?_
      have h7 : ¬ ((m : Int) < (0 : Int)) := by simpa using h7
      refine WL.skip (d := 21) rfl rfl rfl rfl rfl ?_
      refine WL.skip (d := 21) rfl rfl rfl rfl rfl ?_
      refine WL.skip (d := 21) rfl rfl rfl rfl rfl ?_
      refine WL.skip (d := 21) rfl rfl rfl rfl rfl ?_
      refine WL.skip (d := 21) rfl rfl rfl rfl rfl ?_
      refine WL.skipU (d := 26) rfl rfl rfl rfl ?_
      refine WL.skipU (d := 26) rfl rfl rfl rfl ?_
      refine WL.skipU (d := 26) rfl rfl rfl rfl ?_
      refine WL.skipU (d := 26) rfl rfl rfl rfl ?_
      refine WL.skip (d := 21) rfl rfl rfl rfl rfl ?_
      refine WL.val (.bool false) rfl rfl rfl (fun za zC zh zk => wp_pickF rfl (zh.ev rfl) (zh.ev rfl) zk) ?_
      refine WL.val (.bool false) rfl rfl rfl (fun za zC zh zk => wp_assign rfl (zh.ev rfl) zk) ?_
      refine WL.nil (WE.sub (K' := [(0, .int .i64 v), (1, .pointer (some ⟨g, 0, none⟩)), (3, .int .i64 0), (4, .bool false), (18, .bool false)]) ⟨rfl, rfl, rfl, rfl, rfl, trivial⟩ ?_)
      refine WE.next ?_
      refine WC.condF rfl rfl ?_
      refine WC.skip ?_
      refine WE.blockNormal ?_
      refine WE.next ?_
      refine WC.seq ?_
      refine WC.region ?_
      refine WL.val (.int .i64 v) rfl rfl rfl (fun za zC zh zk => wp_move rfl (zh.ev rfl) zk) ?_
      refine WL.val (.int .i64 m) rfl rfl rfl (fun za zC zh zk => ld_3 rfl (zh.ev rfl) ((hg.cell 0).trans rfl) zk) ?_
      refine WL.val (.int .i64 ((v + m))) rfl rfl rfl (fun za zC zh zk => addb_3 rfl (zh.ev rfl) (zh.ev rfl) (wrap_eq (by omega) (by omega) (by omega)) zk) ?_
      refine WL.val (.int .i64 ((v + m))) rfl rfl rfl (fun za zC zh zk => wp_assign rfl (zh.ev rfl) zk) ?_
      refine WL.nil (WE.sub (K' := [(0, .int .i64 v), (1, .pointer (some ⟨g, 0, none⟩)), (3, .int .i64 ((v + m))), (4, .bool false), (18, .bool false)]) ⟨rfl, rfl, rfl, rfl, rfl, trivial⟩ ?_)
      refine WE.next ?_
      refine WC.ret ?_
      refine WE.ret1 rfl rfl ?_
      exact ⟨_, rfl, congrArg (Value.int .i64) (by rw [mvTo_yes (mvOk_iff.2 (by omega))]), (Below.refl _ _)⟩

set_option maxRecDepth 100000 in
theorem renamed_any (m : Int) (gs : Nat) (hm : I64 m) : ∀ (t : T) (w : World) (v : Value), t.size ≤ 4294967296 → IsT w t v → Blk w gs 3 #[.int .i64 m] → Calls Try.prog 48 #[v, .func (.func 50) #[] #[.pointer (some ⟨gs, 0, none⟩)]] w (Ret fun v' w' => NewT w w' (t.mv m) v' ∧ Below w.heap.size w w') := by
  refine T.ind (fun f l ih => ?_)
  intro w v hz hv hgs
  have hlen := len_le_sizeL l
  have hz' := hz
  simp only [T.size] at hz'
  obtain ⟨hf, a, c, rfl, hc, hmx, hl⟩ := hv
  have hf' := hf
  unfold I64 at hf'
  have hgl := hgs.lt
  refine Calls.walk (l := [.agg #[.int .i64 f, .slice a l.length c], .func (.func 50) #[] #[.pointer (some ⟨gs, 0, none⟩)]]) Try.func48 rfl (by kernel_rfl) ?_
  refine WC.sub (K' := [(0, .agg #[.int .i64 f, .slice a l.length c]), (1, .func (.func 50) #[] #[.pointer (some ⟨gs, 0, none⟩)])]) ⟨rfl, rfl, trivial⟩ ?_
  refine WC.seq ?_
  refine WC.region ?_
  refine WL.step (post := NewBlk w 24 #[.int .i64 f, .slice a l.length c]) rfl rfl rfl (fun za zC zh zk => box_24 rfl (zh.ev rfl) (zk _ _ (newBlk _ _ _))) ?_
  rintro _ w1 ⟨g2, rfl, hg3, hB4, hb5, hz6⟩
  have hl7 : gs < g2 := by have z1 := hgs.lt; omega
  have hl8 : w.heap.size ≤ g2 := by omega
  refine WL.step (post := NewBlk w1 24 #[.int .i64 0, .slice none 0 0]) rfl rfl rfl (fun za zC zh zk => alloc_24 rfl (zk _ _ (newBlk _ _ _))) ?_
  rintro _ w9 ⟨g10, rfl, hg11, hB12, hb13, hz14⟩
  have hl15 : gs < g10 := by have z1 := hgs.lt; have z2 := (hb5).size; omega
  have hl16 : g2 < g10 := by have z1 := hB4.lt; omega
  have hl17 : w.heap.size ≤ g10 := by have z2 := (hb5).size; omega
  refine WL.nil (WE.sub (K' := [(0, .agg #[.int .i64 f, .slice a l.length c]), (1, .func (.func 50) #[] #[.pointer (some ⟨gs, 0, none⟩)]), (2, .pointer (some ⟨g2, 0, none⟩)), (4, .pointer (some ⟨g10, 0, none⟩))]) ⟨rfl, rfl, rfl, rfl, trivial⟩ ?_)
  refine WE.next ?_
  refine WC.seq ?_
  refine WC.region ?_
  refine WL.val (.pointer (some ⟨g2, 0, none⟩)) rfl rfl rfl (fun za zC zh zk => fld_24_0 rfl (zh.ev rfl) zk) ?_
  have hB18 := hB4.below hb13
  refine WL.val (.int .i64 f) rfl rfl rfl (fun za zC zh zk => ld_3 rfl (zh.ev rfl) ((hB18.cell 0).trans rfl) zk) ?_
  refine WL.val (.agg #[.int .i64 f, .slice none 0 0]) rfl rfl rfl (fun za zC zh zk => build_24_0 rfl (zh.ev rfl) zk) ?_
  refine WL.step (post := NewBlk w9 24 #[.int .i64 0, .slice none 0 0]) rfl rfl rfl (fun za zC zh zk => alloc_24 rfl (zk _ _ (newBlk _ _ _))) ?_
  rintro _ w19 ⟨g20, rfl, hg21, hB22, hb23, hz24⟩
  have hb25 : Below w.heap.size w w9 := (bstep hb5 hb13)
  have hl26 : gs < g20 := by have z1 := hgs.lt; have z2 := (hb25).size; omega
  have hl27 : g2 < g20 := by have z1 := hB18.lt; omega
  have hl28 : g10 < g20 := by have z1 := hB12.lt; omega
  have hl29 : w.heap.size ≤ g20 := by have z2 := (hb25).size; omega
  refine WL.step (post := fun _ w' => Upd g20 w19 w' ∧ Blk w' g20 24 #[.int .i64 f, .slice none 0 0]) rfl rfl rfl (fun za zC zh zk => st_24 rfl (zh.ev rfl) (zh.ev rfl) rfl rfl hB22 (by first | decide | simp) (fun v => zk v _ ⟨(Upd.at_ _ _ _ _).trans (Upd.at_ _ _ _ _), (hB22.set_ 0 _).set_ 1 _⟩)) ?_
  rintro v33 w30 ⟨hu31, hB32⟩
  have hb34 : Below w.heap.size w w19 := (bstep hb25 hb23)
  have hb35 := upd_below hb34 hu31 (by omega)
  have hB36 := hgs.below hb34
  have hB37 := upd_blk hB36 hu31 (by omega)
  have hB38 := hB18.below hb23
  have hB39 := upd_blk hB38 hu31 (by omega)
  have hB40 := hB12.below hb23
  have hB41 := upd_blk hB40 hu31 (by omega)
  refine WL.nil (WE.sub (K' := [(0, .agg #[.int .i64 f, .slice a l.length c]), (1, .func (.func 50) #[] #[.pointer (some ⟨gs, 0, none⟩)]), (2, .pointer (some ⟨g2, 0, none⟩)), (4, .pointer (some ⟨g10, 0, none⟩)), (5, .pointer (some ⟨g20, 0, none⟩))]) ⟨rfl, rfl, rfl, rfl, rfl, trivial⟩ ?_)
  refine WE.next ?_
  refine WC.seq ?_
  refine WC.seq ?_
  refine WC.region ?_
  refine WL.val (.pointer (some ⟨g2, 0, none⟩)) rfl rfl rfl (fun za zC zh zk => fld_24_0 rfl (zh.ev rfl) zk) ?_
  refine WL.val (.int .i64 f) rfl rfl rfl (fun za zC zh zk => ld_3 rfl (zh.ev rfl) ((hB39.cell 0).trans rfl) zk) ?_
  refine WL.val (.bool ((decide ((f : Int) < (0 : Int))))) rfl rfl rfl (fun za zC zh zk => lss_3 rfl (zh.ev rfl) (zh.ev rfl) zk) ?_
  refine WL.nil (WE.sub (K' := [(0, .agg #[.int .i64 f, .slice a l.length c]), (1, .func (.func 50) #[] #[.pointer (some ⟨gs, 0, none⟩)]), (2, .pointer (some ⟨g2, 0, none⟩)), (4, .pointer (some ⟨g10, 0, none⟩)), (5, .pointer (some ⟨g20, 0, none⟩)), (13, .bool ((decide ((f : Int) < (0 : Int)))))]) ⟨rfl, rfl, rfl, rfl, rfl, rfl, trivial⟩ ?_)
  refine WE.next ?_
  refine WC.cond rfl (fun h42 => ?_) (fun h42 => ?_)
  · have h42 : (f : Int) < (0 : Int) := by simpa using h42
    refine WC.region ?_
    refine WL.val (.func (.func 50) #[] #[.pointer (some ⟨gs, 0, none⟩)]) rfl rfl rfl (fun za zC zh zk => wp_move rfl (zh.ev rfl) zk) ?_
    refine WL.val (.pointer (some ⟨g2, 0, none⟩)) rfl rfl rfl (fun za zC zh zk => fld_24_0 rfl (zh.ev rfl) zk) ?_
    refine WL.val (.int .i64 f) rfl rfl rfl (fun za zC zh zk => ld_3 rfl (zh.ev rfl) ((hB39.cell 0).trans rfl) zk) ?_
    refine WL.val (.int .i64 ((-1 - f))) rfl rfl rfl (fun za zC zh zk => subb_3 rfl (zh.ev rfl) (zh.ev rfl) (wrap_eq rfl (by omega) (by omega)) zk) ?_
    refine WL.call rfl rfl rfl (fun za zh zC => wp_callv (by kernel_rfl) rfl (zh.ev rfl) (hv1 (zh.ev rfl))) (move1_any (-1 - f) m _ gs (by omega) (by omega) hm hB37) ?_
    rintro _ w44 ⟨rfl, hq43⟩
    have hrg := mvTo_range (v := -1 - f) (m := m) (by omega) (by omega)
    refine WL.val (.int .i64 ((-1 - mvTo (-1 - f) m))) rfl rfl rfl (fun za zC zh zk => subb_3 rfl (zh.ev rfl) (zh.ev rfl) (wrap_eq rfl (by omega) (by omega)) zk) ?_
    refine WL.val (.pointer (some ⟨g20, 0, none⟩)) rfl rfl rfl (fun za zC zh zk => fld_24_0 rfl (zh.ev rfl) zk) ?_
    have hB45 := hB32.below hq43
    refine WL.step (post := fun _ w' => Upd g20 w44 w' ∧ Blk w' g20 24 #[.int .i64 ((-1 - mvTo (-1 - f) m)), .slice none 0 0]) rfl rfl rfl (fun za zC zh zk => st_3 rfl (zh.ev rfl) (zh.ev rfl) hB45 (by first | decide | simp) (fun v => zk v _ ⟨Upd.at_ _ _ _ _, hB45.set_ 0 _⟩)) ?_
    rintro v49 w46 ⟨hu47, hB48⟩
    have hb50 : Below w.heap.size w w44 := (bstep hb35 hq43)
    have hb51 := upd_below hb50 hu47 (by omega)
    have hB52 := hB37.below hq43
    have hB53 := upd_blk hB52 hu47 (by omega)
    have hB54 := hB39.below hq43
    have hB55 := upd_blk hB54 hu47 (by omega)
    have hB56 := hB41.below hq43
    have hB57 := upd_blk hB56 hu47 (by omega)
    refine WL.nil (WE.sub (K' := [(0, .agg #[.int .i64 f, .slice a l.length c]), (1, .func (.func 50) #[] #[.pointer (some ⟨gs, 0, none⟩)]), (2, .pointer (some ⟨g2, 0, none⟩)), (4, .pointer (some ⟨g10, 0, none⟩)), (5, .pointer (some ⟨g20, 0, none⟩)), (13, .bool ((decide ((f : Int) < (0 : Int)))))]) ⟨rfl, rfl, rfl, rfl, rfl, rfl, trivial⟩ ?_)
    refine WE.next ?_
    refine WC.seq ?_
    refine WC.seq ?_
    refine WC.region ?_
    refine WL.val (.pointer (some ⟨g2, 1, none⟩)) rfl rfl rfl (fun za zC zh zk => fld_24_1 rfl (zh.ev rfl) zk) ?_
    refine WL.val (.slice a l.length c) rfl rfl rfl (fun za zC zh zk => ld_22 rfl (zh.ev rfl) ((hB55.cell 1).trans rfl) zk) ?_
    refine WL.val (.int .i64 (((l.length : Nat) : Int))) rfl rfl rfl (fun za zC zh zk => len_22 rfl (zh.ev rfl) zk) ?_
    refine WL.val (.int .i64 0) rfl rfl rfl (fun za zC zh zk => wp_move rfl (zh.ev rfl) zk) ?_
    refine WL.nil (WE.sub (K' := [(0, .agg #[.int .i64 f, .slice a l.length c]), (1, .func (.func 50) #[] #[.pointer (some ⟨gs, 0, none⟩)]), (2, .pointer (some ⟨g2, 0, none⟩)), (4, .pointer (some ⟨g10, 0, none⟩)), (5, .pointer (some ⟨g20, 0, none⟩)), (13, .bool ((decide ((f : Int) < (0 : Int))))), (22, .slice a l.length c), (23, .int .i64 (((l.length : Nat) : Int))), (24, .int .i64 0)]) ⟨rfl, rfl, rfl, rfl, rfl, rfl, rfl, rfl, rfl, trivial⟩ ?_)
    refine WE.next ?_
    refine WC.block ?_
    have hl58 : gs < w46.heap.size := by have z1 := hB53.lt; omega
    have hl59 : g2 < w46.heap.size := by have z1 := hB55.lt; omega
    have hl60 : g10 < w46.heap.size := by have z1 := hB57.lt; omega
    have hl61 : g20 < w46.heap.size := by have z1 := hB48.lt; omega
    have hl62 : w.heap.size ≤ w46.heap.size := (hb51).size
    have hR63 : RowE eltT w46 w46.heap.size 24 none 0 0 [] := RowE.nil
    refine WC.loop (X := Option Addr × Nat × Nat) (fun x => l.length - x.2.2) (fun x => [(0, .agg #[.int .i64 f, .slice a l.length c]), (1, .func (.func 50) #[] #[.pointer (some ⟨gs, 0, none⟩)]), (2, .pointer (some ⟨g2, 0, none⟩)), (4, .pointer (some ⟨g10, 0, none⟩)), (5, .pointer (some ⟨g20, 0, none⟩)), (13, .bool ((decide ((f : Int) < (0 : Int))))), (22, .slice a l.length c), (23, .int .i64 (((l.length : Nat) : Int))), (24, .int .i64 (((x.2.2 : Nat) : Int)))]) (fun x w64 => x.2.2 ≤ l.length ∧ w46.heap.size ≤ (w64).heap.size ∧ Below w.heap.size w w64 ∧ Blk w64 gs 3 #[.int .i64 m] ∧ Blk w64 g2 24 #[.int .i64 f, .slice a l.length c] ∧ Blk w64 g10 24 #[.int .i64 0, .slice none 0 0] ∧ Blk w64 g20 24 #[.int .i64 ((-1 - mvTo (-1 - f) m)), .slice x.1 x.2.2 x.2.1] ∧ RowE eltT (w64) w46.heap.size 24 x.1 x.2.1 x.2.2 ((l.take x.2.2).map (T.mv m))) ((none, 0, 0)) ⟨rfl, rfl, rfl, rfl, rfl, rfl, rfl, rfl, rfl, trivial⟩ ?_ ?_
    · exact ⟨Nat.zero_le _, Nat.le_refl _, hb51, hB53, hB55, hB57, hB48, (by simpa using hR63)⟩
    · rintro x w64 ⟨hk, hBw, hb65, hB66, hB67, hB68, hB69, ho70⟩
      refine WC.seq ?_
      refine WC.region ?_
      refine WL.val (.bool ((decide ((((x.2.2 : Nat) : Int) : Int) < (((l.length : Nat) : Int) : Int))))) rfl rfl rfl (fun za zC zh zk => lss_3 rfl (zh.ev rfl) (zh.ev rfl) zk) ?_
      refine WL.nil (WE.sub (K' := [(0, .agg #[.int .i64 f, .slice a l.length c]), (1, .func (.func 50) #[] #[.pointer (some ⟨gs, 0, none⟩)]), (2, .pointer (some ⟨g2, 0, none⟩)), (4, .pointer (some ⟨g10, 0, none⟩)), (5, .pointer (some ⟨g20, 0, none⟩)), (13, .bool ((decide ((f : Int) < (0 : Int))))), (22, .slice a l.length c), (23, .int .i64 (((l.length : Nat) : Int))), (24, .int .i64 (((x.2.2 : Nat) : Int))), (25, .bool ((decide ((((x.2.2 : Nat) : Int) : Int) < (((l.length : Nat) : Int) : Int)))))]) ⟨rfl, rfl, rfl, rfl, rfl, rfl, rfl, rfl, rfl, rfl, trivial⟩ ?_)
      refine WE.next ?_
      refine WC.seq ?_
      refine WC.cond rfl (fun h71 => ?_) (fun h71 => ?_)
      · have h71 : (((x.2.2 : Nat) : Int) : Int) < (((l.length : Nat) : Int) : Int) := by simpa using h71
        refine WC.skip ?_
        refine WE.next ?_
        refine WC.seq ?_
        refine WC.block ?_
        refine WC.seq ?_
        refine WC.region ?_
        obtain ⟨b72, o73, A74, C75, ha76, hc77⟩ := IsTs.open hl
        refine WL.val (.pointer (some ⟨b72, o73 + x.2.2 * 2, none⟩)) rfl rfl rfl (fun za zC zh zk => ix_22 (k := x.2.2) rfl (zh.ev rfl) (ha76 x.2.2 (by first | omega | (simp; omega))) (zh.ev rfl) (by first | omega | (simp; omega)) zk) ?_
        refine WL.val (.agg #[.int .i64 ((tget l x.2.2).f), .slice ((A74 x.2.2)) ((tget l x.2.2).args.length) ((C75 x.2.2))]) rfl rfl rfl (fun za zC zh zk => ld_24 rfl (zh.ev rfl) (bkeeps hb65 _ _ (hc77 x.2.2 (by first | omega | (simp; omega))).1) (bkeeps hb65 _ _ (hc77 x.2.2 (by first | omega | (simp; omega))).2.1) zk) ?_
        refine WL.step (post := NewBlk w64 24 #[.int .i64 0, .slice none 0 0]) rfl rfl rfl (fun za zC zh zk => alloc_24 rfl (zk _ _ (newBlk _ _ _))) ?_
        rintro _ w78 ⟨g79, rfl, hg80, hB81, hb82, hz83⟩
        have hl84 : gs < g79 := by have z1 := hB66.lt; omega
        have hl85 : g2 < g79 := by have z1 := hB67.lt; omega
        have hl86 : g10 < g79 := by have z1 := hB68.lt; omega
        have hl87 : g20 < g79 := by have z1 := hB69.lt; omega
        have hl88 : w.heap.size ≤ g79 := by have z2 := (hb65).size; omega
        have hl89 : w64.heap.size ≤ g79 := by omega
        refine WL.step (post := fun _ w' => Upd g79 w78 w' ∧ Blk w' g79 24 #[.int .i64 ((tget l x.2.2).f), .slice ((A74 x.2.2)) ((tget l x.2.2).args.length) ((C75 x.2.2))]) rfl rfl rfl (fun za zC zh zk => st_24 rfl (zh.ev rfl) (zh.ev rfl) rfl rfl hB81 (by first | decide | simp) (fun v => zk v _ ⟨(Upd.at_ _ _ _ _).trans (Upd.at_ _ _ _ _), (hB81.set_ 0 _).set_ 1 _⟩)) ?_
        rintro v93 w90 ⟨hu91, hB92⟩
        have hb94 : Below w.heap.size w w78 := (bstep hb65 hb82)
        have hb95 := upd_below hb94 hu91 (by omega)
        have hb96 := upd_below hb82 hu91 (by omega)
        have hB97 := hB66.below hb82
        have hB98 := upd_blk hB97 hu91 (by omega)
        have hB99 := hB67.below hb82
        have hB100 := upd_blk hB99 hu91 (by omega)
        have hB101 := hB68.below hb82
        have hB102 := upd_blk hB101 hu91 (by omega)
        have hB103 := hB69.below hb82
        have hB104 := upd_blk hB103 hu91 (by omega)
        refine WL.nil (WE.sub (K' := [(0, .agg #[.int .i64 f, .slice a l.length c]), (1, .func (.func 50) #[] #[.pointer (some ⟨gs, 0, none⟩)]), (2, .pointer (some ⟨g2, 0, none⟩)), (4, .pointer (some ⟨g10, 0, none⟩)), (5, .pointer (some ⟨g20, 0, none⟩)), (7, .pointer (some ⟨g79, 0, none⟩)), (13, .bool ((decide ((f : Int) < (0 : Int))))), (22, .slice a l.length c), (23, .int .i64 (((l.length : Nat) : Int))), (24, .int .i64 (((x.2.2 : Nat) : Int))), (25, .bool ((decide ((((x.2.2 : Nat) : Int) : Int) < (((l.length : Nat) : Int) : Int)))))]) ⟨rfl, rfl, rfl, rfl, rfl, rfl, rfl, rfl, rfl, rfl, rfl, trivial⟩ ?_)
        refine WE.next ?_
        have ho105 := ho70.below hb96
        have hSlt : ∀ b, (fun b => b = g20 ∨ (Value.slice x.1 x.2.2 x.2.1).ownBlock = some b) b → b < w90.heap.size := fun b h => h.elim (fun e => e ▸ hB104.lt) (fun h => (ho105.lt b h).2)
        have hSlo : ∀ b, (fun b => b = g20 ∨ (Value.slice x.1 x.2.2 x.2.1).ownBlock = some b) b → b = g20 ∨ (w46.heap.size ≤ b ∧ b < w64.heap.size) := fun b h => h.imp id (fun h => ho70.lt b h)
        have hBW : w46.heap.size ≤ w90.heap.size := by have z1 := (Nat.le_trans hBw hb96.size); omega
        have hlL : x.2.2 = (((l.take x.2.2).map (T.mv m))).length := ho105.len
        refine WC.tail2 (S := ((fun b => b = g20 ∨ (Value.slice x.1 x.2.2 x.2.1).ownBlock = some b))) [(true, .val (.pointer (some ⟨g20, 1, none⟩))), (true, .val (.slice x.1 x.2.2 x.2.1)), (true, .val (.agg #[.int .i64 ((tget l x.2.2).f), .slice ((A74 x.2.2)) ((tget l x.2.2).args.length) ((C75 x.2.2))])), (true, .val (.func (.func 50) #[] #[.pointer (some ⟨gs, 0, none⟩)])), (true, .mem (fun v w' => NewT w90 w' (((tget l x.2.2).mv m)) v) (fun v w w' hc h => InT.chg h hc (fun b hb hs => by have z := hSlt b hs; omega))), (true, .mem (fun v w' => OneRow eltT w90 24 (((tget l x.2.2).mv m)) v w') (fun v w w' hc h => h.chg hc hSlt)), (true, .val undef), (true, .val (.pointer (some ⟨g20, 1, none⟩))), (true, .val undef)] [(0, .agg #[.int .i64 f, .slice a l.length c]), (1, .func (.func 50) #[] #[.pointer (some ⟨gs, 0, none⟩)]), (2, .pointer (some ⟨g2, 0, none⟩)), (4, .pointer (some ⟨g10, 0, none⟩)), (5, .pointer (some ⟨g20, 0, none⟩)), (7, .pointer (some ⟨g79, 0, none⟩)), (13, .bool ((decide ((f : Int) < (0 : Int))))), (22, .slice a l.length c), (23, .int .i64 (((l.length : Nat) : Int))), (24, .int .i64 (((x.2.2 : Nat) : Int))), (25, .bool ((decide ((((x.2.2 : Nat) : Int) : Int) < (((l.length : Nat) : Int) : Int)))))] 6 8 ((x.2.2 + 1)) 34 (fun ra rc wz => RowE eltT wz w46.heap.size 24 ra rc (x.2.2 + 1) (((l.take x.2.2).map (T.mv m) ++ [((tget l x.2.2).mv m)])) ∧ Blk wz g20 24 #[.int .i64 ((-1 - mvTo (-1 - f) m)), .slice x.1 x.2.2 x.2.1]) (fun ra rc wz => RowE eltT wz w46.heap.size 24 ra rc (x.2.2 + 1) (((l.take x.2.2).map (T.mv m) ++ [((tget l x.2.2).mv m)])) ∧ Blk wz g20 24 #[.int .i64 ((-1 - mvTo (-1 - f) m)), .slice ra ((x.2.2 + 1)) rc]) (by decide) (fun ra rc w w' hb h => ⟨h.1.below hb, h.2.below hb⟩) (fun ra rc w w' hb h => ⟨h.1.below hb, h.2.below hb⟩) ⟨rfl, rfl, rfl, rfl, rfl, rfl, rfl, rfl, rfl, rfl, rfl, trivial⟩ (by kernel_rfl) (by kernel_rfl) (by kernel_rfl) (by kernel_rfl) (by kernel_rfl) ?_ ?_
        · refine ⟨.inl ⟨rfl, true, .none rfl, (fun gg b h => by cases h), fun h w => optUndef h, fun zβ za zw zc => ?_⟩, ?_⟩
          · exact fld_24_1 rfl (zc.kn.ev rfl) ⟨_, rfl, Below.refl _ _, optDef zβ rfl⟩
          refine ⟨.inl ⟨rfl, true, .none rfl, (fun gg b h => by cases h), fun h w => optUndef h, fun zβ za zw zc => ?_⟩, ?_⟩
          · exact ld_22 rfl ((show za.eval (.tmp 28) = za.tmps.getD 28 undef from rfl).trans (optSVal (zc.dep 0 28 (by kernel_rfl) (by decide)) rfl rfl)) (bkeeps (zc.early (by kernel_rfl)) _ _ ((hB104.cell 1).trans rfl)) ⟨_, rfl, Below.refl _ _, optDef zβ rfl⟩
          refine ⟨.inl ⟨rfl, true, .none rfl, (fun gg b h => by cases h), fun h w => optUndef h, fun zβ za zw zc => ?_⟩, ?_⟩
          · exact ld_24 rfl (zc.kn.ev rfl) (bkeeps (zc.early (by kernel_rfl)) _ _ ((hB92.cell 0).trans rfl)) (bkeeps (zc.early (by kernel_rfl)) _ _ ((hB92.cell 1).trans rfl)) ⟨_, rfl, Below.refl _ _, optDef zβ rfl⟩
          refine ⟨.inl ⟨rfl, true, .none rfl, (fun gg b h => by cases h), fun h w => optUndef h, fun zβ za zw zc => ?_⟩, ?_⟩
          · exact wp_move rfl (zc.kn.ev rfl) ⟨_, rfl, Below.refl _ _, optDef zβ rfl⟩
          refine ⟨.inl ⟨rfl, true, .none rfl, (fun gg b h => by cases h), fun h w => optUndef h, fun zβ za zw zc => ?_⟩, ?_⟩
          · exact wp_call (by kernel_rfl) rfl (hv2 ((show za.eval (.tmp 30) = za.tmps.getD 30 undef from rfl).trans (optSVal (zc.dep 2 30 (by kernel_rfl) (by decide)) rfl rfl)) ((show za.eval (.tmp 31) = za.tmps.getD 31 undef from rfl).trans (optSVal (zc.dep 3 31 (by kernel_rfl) (by decide)) rfl rfl))) (ih _ (tget_mem (by omega)) _ _ (size_at (by omega) hz) (IsT.below (bstep hb95 (zc.early (by kernel_rfl))) (hc77 x.2.2 (by first | omega | (simp; omega))).2.2) (hB98.below (zc.early (by kernel_rfl)))) (fun v w' h => ⟨v, rfl, h.2, optDef zβ (InT.mono (fun b hb _ => Nat.le_trans (zc.early (by kernel_rfl)).size hb) h.1)⟩)
          refine ⟨.inl ⟨rfl, true, .none rfl, (fun gg b h => by cases h), fun h w => optUndef h, fun zβ za zw zc => ?_⟩, ?_⟩
          · have zv := (optSMem (zc.dep 4 32 (by kernel_rfl) (by decide)) rfl rfl)
            obtain ⟨_, a1, c1, e1, _⟩ := zv.form
            rw [e1] at zv
            exact row_22_1 rfl ((show za.eval (.tmp 32) = za.tmps.getD 32 undef from rfl).trans e1) ⟨_, rfl, balloc _ _, optDef zβ ⟨_, _, rfl, zc.chg.size, Blk.new' rfl, _, _, rfl, zv.below (balloc _ _)⟩⟩
          refine ⟨.inr (.inl ⟨rfl, rfl, fun za zw zc => ?_⟩), ?_⟩
          · obtain ⟨g1, cs, e1, hg1, hB1, hin⟩ := (optSMem (zc.dep 5 33 (by kernel_rfl) (by decide)) rfl rfl)
            exact wp_appE (E := eltT) (size := 2) (bytes := 32) (z := .agg #[.int .i64 0, .slice none 0 0]) rfl Try.underlying22 (by kernel_rfl) rfl (by decide) rfl ((show za.eval (.tmp 29) = za.tmps.getD 29 undef from rfl).trans (optSVal (zc.dep 1 29 (by kernel_rfl) (by decide)) rfl rfl)) ((show za.eval (.tmp 33) = za.tmps.getD 33 undef from rfl).trans e1) (ho105.below zc.below) hB1 (eltT.mono (fun b hb _ => ⟨by omega, fun e => by have z := (ho105.lt b e).2; omega⟩) hin) (by omega) (by omega) (by have z := zc.below.size; omega) (fun ra rc w' h1 h2 _ => ⟨ra, rc, rfl, ⟨h1, chg_blk (hB104.below zc.below) h2 (fun e => by have z := (ho105.lt _ e).1; omega)⟩, h2.mono (fun b hb => .inr hb)⟩)
          refine ⟨.inl ⟨rfl, true, .none rfl, (fun gg b h => by cases h), fun h w => optUndef h, fun zβ za zw zc => ?_⟩, ?_⟩
          · exact fld_24_1 rfl (zc.kn.ev rfl) ⟨_, rfl, Below.refl _ _, optDef zβ rfl⟩
          refine ⟨.inr (.inr ⟨rfl, rfl, 34, by kernel_rfl, fun za zw ra rc zk zd zv zg => ?_⟩), ?_⟩
          · exact st_22 rfl ((show za.eval (.tmp 35) = za.tmps.getD 35 undef from rfl).trans (optSVal (zd 7 35 (by kernel_rfl) (by decide)) rfl rfl)) ((show za.eval (.tmp 34) = za.tmps.getD 34 undef from rfl).trans zv) zg.2 (by first | decide | simp) (fun v => ⟨v, rfl, ⟨zg.1.upd (Upd.at_ _ _ _ _) (by omega), zg.2.set_ 1 _⟩, .ofUpd (Upd.at_ _ _ _ _) (.inl rfl)⟩)
          exact trivial
        · intro za w106 ra109 rc110 zh zv hG107 hc108 zu
          have hb111 := chg_below hb95 hc108 (fun b hb => (fun h => by rcases hSlo _ h with h | h <;> omega))
          have hB112 := chg_blk hB98 hc108 (fun h => by rcases hSlo _ h with h | h <;> omega)
          have hB113 := chg_blk hB100 hc108 (fun h => by rcases hSlo _ h with h | h <;> omega)
          have hB114 := chg_blk hB102 hc108 (fun h => by rcases hSlo _ h with h | h <;> omega)
          have hB115 := chg_blk hB92 hc108 (fun h => by rcases hSlo _ h with h | h <;> omega)
          clear zu
          refine (show WE _ [(0, .agg #[.int .i64 f, .slice a l.length c]), (1, .func (.func 50) #[] #[.pointer (some ⟨gs, 0, none⟩)]), (2, .pointer (some ⟨g2, 0, none⟩)), (4, .pointer (some ⟨g10, 0, none⟩)), (5, .pointer (some ⟨g20, 0, none⟩)), (7, .pointer (some ⟨g79, 0, none⟩)), (13, .bool ((decide ((f : Int) < (0 : Int))))), (22, .slice a l.length c), (23, .int .i64 (((l.length : Nat) : Int))), (24, .int .i64 (((x.2.2 : Nat) : Int))), (25, .bool ((decide ((((x.2.2 : Nat) : Int) : Int) < (((l.length : Nat) : Int) : Int)))))] w106 _ .normal from ?_) za (zh.sub ⟨rfl, rfl, rfl, rfl, rfl, rfl, rfl, rfl, rfl, rfl, rfl, trivial⟩)
          refine WE.blockNormal ?_
          refine WE.next ?_
          refine WC.region ?_
          refine WL.val (.int .i64 ((((x.2.2 + 1) : Nat) : Int))) rfl rfl rfl (fun za zC zh zk => addb_3 rfl (zh.ev rfl) (zh.ev rfl) (wrap_eq (by omega) (by omega) (by omega)) zk) ?_
          refine WL.val (.int .i64 ((((x.2.2 + 1) : Nat) : Int))) rfl rfl rfl (fun za zC zh zk => wp_move rfl (zh.ev rfl) zk) ?_
          refine WL.nil (WE.sub (K' := [(0, .agg #[.int .i64 f, .slice a l.length c]), (1, .func (.func 50) #[] #[.pointer (some ⟨gs, 0, none⟩)]), (2, .pointer (some ⟨g2, 0, none⟩)), (4, .pointer (some ⟨g10, 0, none⟩)), (5, .pointer (some ⟨g20, 0, none⟩)), (7, .pointer (some ⟨g79, 0, none⟩)), (13, .bool ((decide ((f : Int) < (0 : Int))))), (22, .slice a l.length c), (23, .int .i64 (((l.length : Nat) : Int))), (24, .int .i64 ((((x.2.2 + 1) : Nat) : Int))), (25, .bool ((decide ((((x.2.2 : Nat) : Int) : Int) < (((l.length : Nat) : Int) : Int)))))]) ⟨rfl, rfl, rfl, rfl, rfl, rfl, rfl, rfl, rfl, rfl, rfl, trivial⟩ ?_)
          refine WE.round ((ra109, rc110, x.2.2 + 1)) ⟨rfl, rfl, rfl, rfl, rfl, rfl, rfl, rfl, rfl, trivial⟩ ?_ ?_
          · exact ⟨by (try dsimp only at *); omega, (Nat.le_trans (Nat.le_trans hBw hb96.size) hc108.size), hb111, hB112, hB113, hB114, hG107.2, (by rw [← take_mv (by (try dsimp only at *); omega)]; exact hG107.1)⟩
          · dsimp only; omega
      · have h71 : ¬ ((((x.2.2 : Nat) : Int) : Int) < (((l.length : Nat) : Int) : Int)) := by simpa using h71
        refine WC.exit ?_
        refine WE.thenExit ?_
        refine WE.thenExit ?_
        refine WE.blockIs rfl ?_
        refine WE.next ?_
        refine WC.seq ?_
        refine WC.region ?_
        refine WL.val (.agg #[.int .i64 ((-1 - mvTo (-1 - f) m)), .slice x.1 x.2.2 x.2.1]) rfl rfl rfl (fun za zC zh zk => ld_24 rfl (zh.ev rfl) ((hB69.cell 0).trans rfl) ((hB69.cell 1).trans rfl) zk) ?_
        refine WL.step (post := fun _ w' => Upd g10 w64 w' ∧ Blk w' g10 24 #[.int .i64 ((-1 - mvTo (-1 - f) m)), .slice x.1 x.2.2 x.2.1]) rfl rfl rfl (fun za zC zh zk => st_24 rfl (zh.ev rfl) (zh.ev rfl) rfl rfl hB68 (by first | decide | simp) (fun v => zk v _ ⟨(Upd.at_ _ _ _ _).trans (Upd.at_ _ _ _ _), (hB68.set_ 0 _).set_ 1 _⟩)) ?_
        rintro v119 w116 ⟨hu117, hB118⟩
        have hb120 := upd_below hb65 hu117 (by omega)
        have hB121 := upd_blk hB66 hu117 (by omega)
        have hB122 := upd_blk hB67 hu117 (by omega)
        have hB123 := upd_blk hB69 hu117 (by omega)
        have ho124 := ho70.upd hu117 (by omega)
        refine WL.nil (WE.sub (K' := [(0, .agg #[.int .i64 f, .slice a l.length c]), (1, .func (.func 50) #[] #[.pointer (some ⟨gs, 0, none⟩)]), (2, .pointer (some ⟨g2, 0, none⟩)), (4, .pointer (some ⟨g10, 0, none⟩)), (5, .pointer (some ⟨g20, 0, none⟩)), (13, .bool ((decide ((f : Int) < (0 : Int))))), (22, .slice a l.length c), (23, .int .i64 (((l.length : Nat) : Int))), (24, .int .i64 (((x.2.2 : Nat) : Int))), (25, .bool ((decide ((((x.2.2 : Nat) : Int) : Int) < (((l.length : Nat) : Int) : Int)))))]) ⟨rfl, rfl, rfl, rfl, rfl, rfl, rfl, rfl, rfl, rfl, trivial⟩ ?_)
        refine WE.next ?_
        refine WC.ret ?_
        refine WE.retAny (v := .agg #[.int .i64 ((-1 - mvTo (-1 - f) m)), .slice x.1 x.2.2 x.2.1]) (fun za zh => ?_) ?_
        · have z0 : za.tmps[4]?.getD undef = .pointer (some ⟨g10, 0, none⟩) := by rw [← Array.getD_eq_getD_getElem?]; exact zh.knows 4 _ rfl
          have y0 : w116.cell? ⟨g10, 0, none⟩ = some (.int .i64 ((-1 - mvTo (-1 - f) m))) := ((hB118.cell 0).trans rfl)
          have y1 : w116.cell? ⟨g10, 1, none⟩ = some (.slice x.1 x.2.2 x.2.1) := ((hB118.cell 1).trans rfl)
          simp [results, Try.results48, z0, y0, y1, go_sem]
        · have z := ho124
          rw [List.take_of_length_le (by omega)] at z
          exact ⟨_, rfl, by rw [mv_mk, mvF_neg ‹_›]; exact newT_row (by rw [← mvF_neg ‹_›]; exact mvF_i64 hf) z (by omega), hb120⟩
  · have h42 : ¬ ((f : Int) < (0 : Int)) := by simpa using h42
    refine WC.skip ?_
    refine WE.next ?_
    refine WC.seq ?_
    refine WC.seq ?_
    refine WC.region ?_
    refine WL.val (.pointer (some ⟨g2, 1, none⟩)) rfl rfl rfl (fun za zC zh zk => fld_24_1 rfl (zh.ev rfl) zk) ?_
    refine WL.val (.slice a l.length c) rfl rfl rfl (fun za zC zh zk => ld_22 rfl (zh.ev rfl) ((hB39.cell 1).trans rfl) zk) ?_
    refine WL.val (.int .i64 (((l.length : Nat) : Int))) rfl rfl rfl (fun za zC zh zk => len_22 rfl (zh.ev rfl) zk) ?_
    refine WL.val (.int .i64 0) rfl rfl rfl (fun za zC zh zk => wp_move rfl (zh.ev rfl) zk) ?_
    refine WL.nil (WE.sub (K' := [(0, .agg #[.int .i64 f, .slice a l.length c]), (1, .func (.func 50) #[] #[.pointer (some ⟨gs, 0, none⟩)]), (2, .pointer (some ⟨g2, 0, none⟩)), (4, .pointer (some ⟨g10, 0, none⟩)), (5, .pointer (some ⟨g20, 0, none⟩)), (13, .bool ((decide ((f : Int) < (0 : Int))))), (22, .slice a l.length c), (23, .int .i64 (((l.length : Nat) : Int))), (24, .int .i64 0)]) ⟨rfl, rfl, rfl, rfl, rfl, rfl, rfl, rfl, rfl, trivial⟩ ?_)
    refine WE.next ?_
    refine WC.block ?_
    have hl125 : gs < w30.heap.size := by have z1 := hB37.lt; omega
    have hl126 : g2 < w30.heap.size := by have z1 := hB39.lt; omega
    have hl127 : g10 < w30.heap.size := by have z1 := hB41.lt; omega
    have hl128 : g20 < w30.heap.size := by have z1 := hB32.lt; omega
    have hl129 : w.heap.size ≤ w30.heap.size := (hb35).size
    have hR130 : RowE eltT w30 w30.heap.size 24 none 0 0 [] := RowE.nil
    refine WC.loop (X := Option Addr × Nat × Nat) (fun x => l.length - x.2.2) (fun x => [(0, .agg #[.int .i64 f, .slice a l.length c]), (1, .func (.func 50) #[] #[.pointer (some ⟨gs, 0, none⟩)]), (2, .pointer (some ⟨g2, 0, none⟩)), (4, .pointer (some ⟨g10, 0, none⟩)), (5, .pointer (some ⟨g20, 0, none⟩)), (13, .bool ((decide ((f : Int) < (0 : Int))))), (22, .slice a l.length c), (23, .int .i64 (((l.length : Nat) : Int))), (24, .int .i64 (((x.2.2 : Nat) : Int)))]) (fun x w131 => x.2.2 ≤ l.length ∧ w30.heap.size ≤ (w131).heap.size ∧ Below w.heap.size w w131 ∧ Blk w131 gs 3 #[.int .i64 m] ∧ Blk w131 g2 24 #[.int .i64 f, .slice a l.length c] ∧ Blk w131 g10 24 #[.int .i64 0, .slice none 0 0] ∧ Blk w131 g20 24 #[.int .i64 f, .slice x.1 x.2.2 x.2.1] ∧ RowE eltT (w131) w30.heap.size 24 x.1 x.2.1 x.2.2 ((l.take x.2.2).map (T.mv m))) ((none, 0, 0)) ⟨rfl, rfl, rfl, rfl, rfl, rfl, rfl, rfl, rfl, trivial⟩ ?_ ?_
    · exact ⟨Nat.zero_le _, Nat.le_refl _, hb35, hB37, hB39, hB41, hB32, (by simpa using hR130)⟩
    · rintro x w131 ⟨hk, hBw, hb132, hB133, hB134, hB135, hB136, ho137⟩
      refine WC.seq ?_
      refine WC.region ?_
      refine WL.val (.bool ((decide ((((x.2.2 : Nat) : Int) : Int) < (((l.length : Nat) : Int) : Int))))) rfl rfl rfl (fun za zC zh zk => lss_3 rfl (zh.ev rfl) (zh.ev rfl) zk) ?_
      refine WL.nil (WE.sub (K' := [(0, .agg #[.int .i64 f, .slice a l.length c]), (1, .func (.func 50) #[] #[.pointer (some ⟨gs, 0, none⟩)]), (2, .pointer (some ⟨g2, 0, none⟩)), (4, .pointer (some ⟨g10, 0, none⟩)), (5, .pointer (some ⟨g20, 0, none⟩)), (13, .bool ((decide ((f : Int) < (0 : Int))))), (22, .slice a l.length c), (23, .int .i64 (((l.length : Nat) : Int))), (24, .int .i64 (((x.2.2 : Nat) : Int))), (25, .bool ((decide ((((x.2.2 : Nat) : Int) : Int) < (((l.length : Nat) : Int) : Int)))))]) ⟨rfl, rfl, rfl, rfl, rfl, rfl, rfl, rfl, rfl, rfl, trivial⟩ ?_)
      refine WE.next ?_
      refine WC.seq ?_
      refine WC.cond rfl (fun h138 => ?_) (fun h138 => ?_)
      · have h138 : (((x.2.2 : Nat) : Int) : Int) < (((l.length : Nat) : Int) : Int) := by simpa using h138
        refine WC.skip ?_
        refine WE.next ?_
        refine WC.seq ?_
        refine WC.block ?_
        refine WC.seq ?_
        refine WC.region ?_
        obtain ⟨b139, o140, A141, C142, ha143, hc144⟩ := IsTs.open hl
        refine WL.val (.pointer (some ⟨b139, o140 + x.2.2 * 2, none⟩)) rfl rfl rfl (fun za zC zh zk => ix_22 (k := x.2.2) rfl (zh.ev rfl) (ha143 x.2.2 (by first | omega | (simp; omega))) (zh.ev rfl) (by first | omega | (simp; omega)) zk) ?_
        refine WL.val (.agg #[.int .i64 ((tget l x.2.2).f), .slice ((A141 x.2.2)) ((tget l x.2.2).args.length) ((C142 x.2.2))]) rfl rfl rfl (fun za zC zh zk => ld_24 rfl (zh.ev rfl) (bkeeps hb132 _ _ (hc144 x.2.2 (by first | omega | (simp; omega))).1) (bkeeps hb132 _ _ (hc144 x.2.2 (by first | omega | (simp; omega))).2.1) zk) ?_
        refine WL.step (post := NewBlk w131 24 #[.int .i64 0, .slice none 0 0]) rfl rfl rfl (fun za zC zh zk => alloc_24 rfl (zk _ _ (newBlk _ _ _))) ?_
        rintro _ w145 ⟨g146, rfl, hg147, hB148, hb149, hz150⟩
        have hl151 : gs < g146 := by have z1 := hB133.lt; omega
        have hl152 : g2 < g146 := by have z1 := hB134.lt; omega
        have hl153 : g10 < g146 := by have z1 := hB135.lt; omega
        have hl154 : g20 < g146 := by have z1 := hB136.lt; omega
        have hl155 : w.heap.size ≤ g146 := by have z2 := (hb132).size; omega
        have hl156 : w131.heap.size ≤ g146 := by omega
        refine WL.step (post := fun _ w' => Upd g146 w145 w' ∧ Blk w' g146 24 #[.int .i64 ((tget l x.2.2).f), .slice ((A141 x.2.2)) ((tget l x.2.2).args.length) ((C142 x.2.2))]) rfl rfl rfl (fun za zC zh zk => st_24 rfl (zh.ev rfl) (zh.ev rfl) rfl rfl hB148 (by first | decide | simp) (fun v => zk v _ ⟨(Upd.at_ _ _ _ _).trans (Upd.at_ _ _ _ _), (hB148.set_ 0 _).set_ 1 _⟩)) ?_
        rintro v160 w157 ⟨hu158, hB159⟩
        have hb161 : Below w.heap.size w w145 := (bstep hb132 hb149)
        have hb162 := upd_below hb161 hu158 (by omega)
        have hb163 := upd_below hb149 hu158 (by omega)
        have hB164 := hB133.below hb149
        have hB165 := upd_blk hB164 hu158 (by omega)
        have hB166 := hB134.below hb149
        have hB167 := upd_blk hB166 hu158 (by omega)
        have hB168 := hB135.below hb149
        have hB169 := upd_blk hB168 hu158 (by omega)
        have hB170 := hB136.below hb149
        have hB171 := upd_blk hB170 hu158 (by omega)
        refine WL.nil (WE.sub (K' := [(0, .agg #[.int .i64 f, .slice a l.length c]), (1, .func (.func 50) #[] #[.pointer (some ⟨gs, 0, none⟩)]), (2, .pointer (some ⟨g2, 0, none⟩)), (4, .pointer (some ⟨g10, 0, none⟩)), (5, .pointer (some ⟨g20, 0, none⟩)), (7, .pointer (some ⟨g146, 0, none⟩)), (13, .bool ((decide ((f : Int) < (0 : Int))))), (22, .slice a l.length c), (23, .int .i64 (((l.length : Nat) : Int))), (24, .int .i64 (((x.2.2 : Nat) : Int))), (25, .bool ((decide ((((x.2.2 : Nat) : Int) : Int) < (((l.length : Nat) : Int) : Int)))))]) ⟨rfl, rfl, rfl, rfl, rfl, rfl, rfl, rfl, rfl, rfl, rfl, trivial⟩ ?_)
        refine WE.next ?_
        have ho172 := ho137.below hb163
        have hSlt : ∀ b, (fun b => b = g20 ∨ (Value.slice x.1 x.2.2 x.2.1).ownBlock = some b) b → b < w157.heap.size := fun b h => h.elim (fun e => e ▸ hB171.lt) (fun h => (ho172.lt b h).2)
        have hSlo : ∀ b, (fun b => b = g20 ∨ (Value.slice x.1 x.2.2 x.2.1).ownBlock = some b) b → b = g20 ∨ (w30.heap.size ≤ b ∧ b < w131.heap.size) := fun b h => h.imp id (fun h => ho137.lt b h)
        have hBW : w30.heap.size ≤ w157.heap.size := by have z1 := (Nat.le_trans hBw hb163.size); omega
        have hlL : x.2.2 = (((l.take x.2.2).map (T.mv m))).length := ho172.len
        refine WC.tail2 (S := ((fun b => b = g20 ∨ (Value.slice x.1 x.2.2 x.2.1).ownBlock = some b))) [(true, .val (.pointer (some ⟨g20, 1, none⟩))), (true, .val (.slice x.1 x.2.2 x.2.1)), (true, .val (.agg #[.int .i64 ((tget l x.2.2).f), .slice ((A141 x.2.2)) ((tget l x.2.2).args.length) ((C142 x.2.2))])), (true, .val (.func (.func 50) #[] #[.pointer (some ⟨gs, 0, none⟩)])), (true, .mem (fun v w' => NewT w157 w' (((tget l x.2.2).mv m)) v) (fun v w w' hc h => InT.chg h hc (fun b hb hs => by have z := hSlt b hs; omega))), (true, .mem (fun v w' => OneRow eltT w157 24 (((tget l x.2.2).mv m)) v w') (fun v w w' hc h => h.chg hc hSlt)), (true, .val undef), (true, .val (.pointer (some ⟨g20, 1, none⟩))), (true, .val undef)] [(0, .agg #[.int .i64 f, .slice a l.length c]), (1, .func (.func 50) #[] #[.pointer (some ⟨gs, 0, none⟩)]), (2, .pointer (some ⟨g2, 0, none⟩)), (4, .pointer (some ⟨g10, 0, none⟩)), (5, .pointer (some ⟨g20, 0, none⟩)), (7, .pointer (some ⟨g146, 0, none⟩)), (13, .bool ((decide ((f : Int) < (0 : Int))))), (22, .slice a l.length c), (23, .int .i64 (((l.length : Nat) : Int))), (24, .int .i64 (((x.2.2 : Nat) : Int))), (25, .bool ((decide ((((x.2.2 : Nat) : Int) : Int) < (((l.length : Nat) : Int) : Int)))))] 6 8 ((x.2.2 + 1)) 34 (fun ra rc wz => RowE eltT wz w30.heap.size 24 ra rc (x.2.2 + 1) (((l.take x.2.2).map (T.mv m) ++ [((tget l x.2.2).mv m)])) ∧ Blk wz g20 24 #[.int .i64 f, .slice x.1 x.2.2 x.2.1]) (fun ra rc wz => RowE eltT wz w30.heap.size 24 ra rc (x.2.2 + 1) (((l.take x.2.2).map (T.mv m) ++ [((tget l x.2.2).mv m)])) ∧ Blk wz g20 24 #[.int .i64 f, .slice ra ((x.2.2 + 1)) rc]) (by decide) (fun ra rc w w' hb h => ⟨h.1.below hb, h.2.below hb⟩) (fun ra rc w w' hb h => ⟨h.1.below hb, h.2.below hb⟩) ⟨rfl, rfl, rfl, rfl, rfl, rfl, rfl, rfl, rfl, rfl, rfl, trivial⟩ (by kernel_rfl) (by kernel_rfl) (by kernel_rfl) (by kernel_rfl) (by kernel_rfl) ?_ ?_
        · refine ⟨.inl ⟨rfl, true, .none rfl, (fun gg b h => by cases h), fun h w => optUndef h, fun zβ za zw zc => ?_⟩, ?_⟩
          · exact fld_24_1 rfl (zc.kn.ev rfl) ⟨_, rfl, Below.refl _ _, optDef zβ rfl⟩
          refine ⟨.inl ⟨rfl, true, .none rfl, (fun gg b h => by cases h), fun h w => optUndef h, fun zβ za zw zc => ?_⟩, ?_⟩
          · exact ld_22 rfl ((show za.eval (.tmp 28) = za.tmps.getD 28 undef from rfl).trans (optSVal (zc.dep 0 28 (by kernel_rfl) (by decide)) rfl rfl)) (bkeeps (zc.early (by kernel_rfl)) _ _ ((hB171.cell 1).trans rfl)) ⟨_, rfl, Below.refl _ _, optDef zβ rfl⟩
          refine ⟨.inl ⟨rfl, true, .none rfl, (fun gg b h => by cases h), fun h w => optUndef h, fun zβ za zw zc => ?_⟩, ?_⟩
          · exact ld_24 rfl (zc.kn.ev rfl) (bkeeps (zc.early (by kernel_rfl)) _ _ ((hB159.cell 0).trans rfl)) (bkeeps (zc.early (by kernel_rfl)) _ _ ((hB159.cell 1).trans rfl)) ⟨_, rfl, Below.refl _ _, optDef zβ rfl⟩
          refine ⟨.inl ⟨rfl, true, .none rfl, (fun gg b h => by cases h), fun h w => optUndef h, fun zβ za zw zc => ?_⟩, ?_⟩
          · exact wp_move rfl (zc.kn.ev rfl) ⟨_, rfl, Below.refl _ _, optDef zβ rfl⟩
          refine ⟨.inl ⟨rfl, true, .none rfl, (fun gg b h => by cases h), fun h w => optUndef h, fun zβ za zw zc => ?_⟩, ?_⟩
          · exact wp_call (by kernel_rfl) rfl (hv2 ((show za.eval (.tmp 30) = za.tmps.getD 30 undef from rfl).trans (optSVal (zc.dep 2 30 (by kernel_rfl) (by decide)) rfl rfl)) ((show za.eval (.tmp 31) = za.tmps.getD 31 undef from rfl).trans (optSVal (zc.dep 3 31 (by kernel_rfl) (by decide)) rfl rfl))) (ih _ (tget_mem (by omega)) _ _ (size_at (by omega) hz) (IsT.below (bstep hb162 (zc.early (by kernel_rfl))) (hc144 x.2.2 (by first | omega | (simp; omega))).2.2) (hB165.below (zc.early (by kernel_rfl)))) (fun v w' h => ⟨v, rfl, h.2, optDef zβ (InT.mono (fun b hb _ => Nat.le_trans (zc.early (by kernel_rfl)).size hb) h.1)⟩)
          refine ⟨.inl ⟨rfl, true, .none rfl, (fun gg b h => by cases h), fun h w => optUndef h, fun zβ za zw zc => ?_⟩, ?_⟩
          · have zv := (optSMem (zc.dep 4 32 (by kernel_rfl) (by decide)) rfl rfl)
            obtain ⟨_, a1, c1, e1, _⟩ := zv.form
            rw [e1] at zv
            exact row_22_1 rfl ((show za.eval (.tmp 32) = za.tmps.getD 32 undef from rfl).trans e1) ⟨_, rfl, balloc _ _, optDef zβ ⟨_, _, rfl, zc.chg.size, Blk.new' rfl, _, _, rfl, zv.below (balloc _ _)⟩⟩
          refine ⟨.inr (.inl ⟨rfl, rfl, fun za zw zc => ?_⟩), ?_⟩
          · obtain ⟨g1, cs, e1, hg1, hB1, hin⟩ := (optSMem (zc.dep 5 33 (by kernel_rfl) (by decide)) rfl rfl)
            exact wp_appE (E := eltT) (size := 2) (bytes := 32) (z := .agg #[.int .i64 0, .slice none 0 0]) rfl Try.underlying22 (by kernel_rfl) rfl (by decide) rfl ((show za.eval (.tmp 29) = za.tmps.getD 29 undef from rfl).trans (optSVal (zc.dep 1 29 (by kernel_rfl) (by decide)) rfl rfl)) ((show za.eval (.tmp 33) = za.tmps.getD 33 undef from rfl).trans e1) (ho172.below zc.below) hB1 (eltT.mono (fun b hb _ => ⟨by omega, fun e => by have z := (ho172.lt b e).2; omega⟩) hin) (by omega) (by omega) (by have z := zc.below.size; omega) (fun ra rc w' h1 h2 _ => ⟨ra, rc, rfl, ⟨h1, chg_blk (hB171.below zc.below) h2 (fun e => by have z := (ho172.lt _ e).1; omega)⟩, h2.mono (fun b hb => .inr hb)⟩)
          refine ⟨.inl ⟨rfl, true, .none rfl, (fun gg b h => by cases h), fun h w => optUndef h, fun zβ za zw zc => ?_⟩, ?_⟩
          · exact fld_24_1 rfl (zc.kn.ev rfl) ⟨_, rfl, Below.refl _ _, optDef zβ rfl⟩
          refine ⟨.inr (.inr ⟨rfl, rfl, 34, by kernel_rfl, fun za zw ra rc zk zd zv zg => ?_⟩), ?_⟩
          · exact st_22 rfl ((show za.eval (.tmp 35) = za.tmps.getD 35 undef from rfl).trans (optSVal (zd 7 35 (by kernel_rfl) (by decide)) rfl rfl)) ((show za.eval (.tmp 34) = za.tmps.getD 34 undef from rfl).trans zv) zg.2 (by first | decide | simp) (fun v => ⟨v, rfl, ⟨zg.1.upd (Upd.at_ _ _ _ _) (by omega), zg.2.set_ 1 _⟩, .ofUpd (Upd.at_ _ _ _ _) (.inl rfl)⟩)
          exact trivial
        · intro za w173 ra176 rc177 zh zv hG174 hc175 zu
          have hb178 := chg_below hb162 hc175 (fun b hb => (fun h => by rcases hSlo _ h with h | h <;> omega))
          have hB179 := chg_blk hB165 hc175 (fun h => by rcases hSlo _ h with h | h <;> omega)
          have hB180 := chg_blk hB167 hc175 (fun h => by rcases hSlo _ h with h | h <;> omega)
          have hB181 := chg_blk hB169 hc175 (fun h => by rcases hSlo _ h with h | h <;> omega)
          have hB182 := chg_blk hB159 hc175 (fun h => by rcases hSlo _ h with h | h <;> omega)
          clear zu
          refine (show WE _ [(0, .agg #[.int .i64 f, .slice a l.length c]), (1, .func (.func 50) #[] #[.pointer (some ⟨gs, 0, none⟩)]), (2, .pointer (some ⟨g2, 0, none⟩)), (4, .pointer (some ⟨g10, 0, none⟩)), (5, .pointer (some ⟨g20, 0, none⟩)), (7, .pointer (some ⟨g146, 0, none⟩)), (13, .bool ((decide ((f : Int) < (0 : Int))))), (22, .slice a l.length c), (23, .int .i64 (((l.length : Nat) : Int))), (24, .int .i64 (((x.2.2 : Nat) : Int))), (25, .bool ((decide ((((x.2.2 : Nat) : Int) : Int) < (((l.length : Nat) : Int) : Int)))))] w173 _ .normal from ?_) za (zh.sub ⟨rfl, rfl, rfl, rfl, rfl, rfl, rfl, rfl, rfl, rfl, rfl, trivial⟩)
          refine WE.blockNormal ?_
          refine WE.next ?_
          refine WC.region ?_
          refine WL.val (.int .i64 ((((x.2.2 + 1) : Nat) : Int))) rfl rfl rfl (fun za zC zh zk => addb_3 rfl (zh.ev rfl) (zh.ev rfl) (wrap_eq (by omega) (by omega) (by omega)) zk) ?_
          refine WL.val (.int .i64 ((((x.2.2 + 1) : Nat) : Int))) rfl rfl rfl (fun za zC zh zk => wp_move rfl (zh.ev rfl) zk) ?_
          refine WL.nil (WE.sub (K' := [(0, .agg #[.int .i64 f, .slice a l.length c]), (1, .func (.func 50) #[] #[.pointer (some ⟨gs, 0, none⟩)]), (2, .pointer (some ⟨g2, 0, none⟩)), (4, .pointer (some ⟨g10, 0, none⟩)), (5, .pointer (some ⟨g20, 0, none⟩)), (7, .pointer (some ⟨g146, 0, none⟩)), (13, .bool ((decide ((f : Int) < (0 : Int))))), (22, .slice a l.length c), (23, .int .i64 (((l.length : Nat) : Int))), (24, .int .i64 ((((x.2.2 + 1) : Nat) : Int))), (25, .bool ((decide ((((x.2.2 : Nat) : Int) : Int) < (((l.length : Nat) : Int) : Int)))))]) ⟨rfl, rfl, rfl, rfl, rfl, rfl, rfl, rfl, rfl, rfl, rfl, trivial⟩ ?_)
          refine WE.round ((ra176, rc177, x.2.2 + 1)) ⟨rfl, rfl, rfl, rfl, rfl, rfl, rfl, rfl, rfl, trivial⟩ ?_ ?_
          · exact ⟨by (try dsimp only at *); omega, (Nat.le_trans (Nat.le_trans hBw hb163.size) hc175.size), hb178, hB179, hB180, hB181, hG174.2, (by rw [← take_mv (by (try dsimp only at *); omega)]; exact hG174.1)⟩
          · dsimp only; omega
      · have h138 : ¬ ((((x.2.2 : Nat) : Int) : Int) < (((l.length : Nat) : Int) : Int)) := by simpa using h138
        refine WC.exit ?_
        refine WE.thenExit ?_
        refine WE.thenExit ?_
        refine WE.blockIs rfl ?_
        refine WE.next ?_
        refine WC.seq ?_
        refine WC.region ?_
        refine WL.val (.agg #[.int .i64 f, .slice x.1 x.2.2 x.2.1]) rfl rfl rfl (fun za zC zh zk => ld_24 rfl (zh.ev rfl) ((hB136.cell 0).trans rfl) ((hB136.cell 1).trans rfl) zk) ?_
        refine WL.step (post := fun _ w' => Upd g10 w131 w' ∧ Blk w' g10 24 #[.int .i64 f, .slice x.1 x.2.2 x.2.1]) rfl rfl rfl (fun za zC zh zk => st_24 rfl (zh.ev rfl) (zh.ev rfl) rfl rfl hB135 (by first | decide | simp) (fun v => zk v _ ⟨(Upd.at_ _ _ _ _).trans (Upd.at_ _ _ _ _), (hB135.set_ 0 _).set_ 1 _⟩)) ?_
        rintro v186 w183 ⟨hu184, hB185⟩
        have hb187 := upd_below hb132 hu184 (by omega)
        have hB188 := upd_blk hB133 hu184 (by omega)
        have hB189 := upd_blk hB134 hu184 (by omega)
        have hB190 := upd_blk hB136 hu184 (by omega)
        have ho191 := ho137.upd hu184 (by omega)
        refine WL.nil (WE.sub (K' := [(0, .agg #[.int .i64 f, .slice a l.length c]), (1, .func (.func 50) #[] #[.pointer (some ⟨gs, 0, none⟩)]), (2, .pointer (some ⟨g2, 0, none⟩)), (4, .pointer (some ⟨g10, 0, none⟩)), (5, .pointer (some ⟨g20, 0, none⟩)), (13, .bool ((decide ((f : Int) < (0 : Int))))), (22, .slice a l.length c), (23, .int .i64 (((l.length : Nat) : Int))), (24, .int .i64 (((x.2.2 : Nat) : Int))), (25, .bool ((decide ((((x.2.2 : Nat) : Int) : Int) < (((l.length : Nat) : Int) : Int)))))]) ⟨rfl, rfl, rfl, rfl, rfl, rfl, rfl, rfl, rfl, rfl, trivial⟩ ?_)
        refine WE.next ?_
        refine WC.ret ?_
        refine WE.retAny (v := .agg #[.int .i64 f, .slice x.1 x.2.2 x.2.1]) (fun za zh => ?_) ?_
        · have z0 : za.tmps[4]?.getD undef = .pointer (some ⟨g10, 0, none⟩) := by rw [← Array.getD_eq_getD_getElem?]; exact zh.knows 4 _ rfl
          have y0 : w183.cell? ⟨g10, 0, none⟩ = some (.int .i64 f) := ((hB185.cell 0).trans rfl)
          have y1 : w183.cell? ⟨g10, 1, none⟩ = some (.slice x.1 x.2.2 x.2.1) := ((hB185.cell 1).trans rfl)
          simp [results, Try.results48, z0, y0, y1, go_sem]
        · have z := ho191
          rw [List.take_of_length_le (by omega)] at z
          exact ⟨_, rfl, by rw [mv_mk, mvF_pos ‹_›]; exact newT_row hf z (by omega), hb187⟩

set_option maxRecDepth 100000 in
theorem move_any (t : T) (m : Int) (w : World) (v : Value) (hz : t.size ≤ 4294967296) (hv : IsT w t v) (hm : I64 m) : Calls Try.prog 27 #[v, .int .i64 m] w (Ret fun v' w' => NewT w w' (t.mv m) v' ∧ Below w.heap.size w w') := by
  obtain ⟨hf, a, c, rfl, hc, hmx, hl⟩ := hv.form
  refine Calls.walk (l := [.agg #[.int .i64 t.f, .slice a t.args.length c], .int .i64 m]) Try.func27 rfl (by kernel_rfl) ?_
  refine WC.sub (K' := [(0, .agg #[.int .i64 t.f, .slice a t.args.length c]), (1, .int .i64 m)]) ⟨rfl, rfl, trivial⟩ ?_
  refine WC.seq ?_
  refine WC.region ?_
  refine WL.step (post := NewBlk w 24 #[.int .i64 t.f, .slice a t.args.length c]) rfl rfl rfl (fun za zC zh zk => box_24 rfl (zh.ev rfl) (zk _ _ (newBlk _ _ _))) ?_
  rintro _ w1 ⟨g2, rfl, hg3, hB4, hb5, hz6⟩
  have hl7 : w.heap.size ≤ g2 := by omega
  refine WL.step (post := NewBlk w1 3 #[.int .i64 m]) rfl rfl rfl (fun za zC zh zk => box_3 rfl (zh.ev rfl) (zk _ _ (newBlk _ _ _))) ?_
  rintro _ w8 ⟨g9, rfl, hg10, hB11, hb12, hz13⟩
  have hl14 : g2 < g9 := by have z1 := hB4.lt; omega
  have hl15 : w.heap.size ≤ g9 := by have z2 := (hb5).size; omega
  refine WL.step (post := NewBlk w8 24 #[.int .i64 0, .slice none 0 0]) rfl rfl rfl (fun za zC zh zk => alloc_24 rfl (zk _ _ (newBlk _ _ _))) ?_
  rintro _ w16 ⟨g17, rfl, hg18, hB19, hb20, hz21⟩
  have hl22 : g2 < g17 := by have z1 := hB4.lt; have z2 := (hb12).size; omega
  have hl23 : g9 < g17 := by have z1 := hB11.lt; omega
  have hb24 : Below w.heap.size w w8 := (bstep hb5 hb12)
  have hl25 : w.heap.size ≤ g17 := by have z2 := (hb24).size; omega
  refine WL.nil (WE.sub (K' := [(0, .agg #[.int .i64 t.f, .slice a t.args.length c]), (1, .int .i64 m), (2, .pointer (some ⟨g2, 0, none⟩)), (3, .pointer (some ⟨g9, 0, none⟩)), (4, .pointer (some ⟨g17, 0, none⟩))]) ⟨rfl, rfl, rfl, rfl, rfl, trivial⟩ ?_)
  refine WE.next ?_
  refine WC.seq ?_
  refine WC.region ?_
  have hb27 : Below w1.heap.size w1 w16 := (bstep hb12 hb20)
  have hB26 := hB4.below hb27
  refine WL.val (.agg #[.int .i64 t.f, .slice a t.args.length c]) rfl rfl rfl (fun za zC zh zk => ld_24 rfl (zh.ev rfl) ((hB26.cell 0).trans rfl) ((hB26.cell 1).trans rfl) zk) ?_
  refine WL.val (.func (Fn.func 50) #[] #[.pointer (some ⟨g9, 0, none⟩)]) rfl rfl rfl (fun za zC zh zk => mkfn rfl (hv0) (hv1 (zh.ev rfl)) zk) ?_
  have hB28 := hB11.below hb20
  have hb29 : Below w.heap.size w w16 := (bstep hb5 hb27)
  have hl33 : g2 < w16.heap.size := by have z1 := hB26.lt; omega
  have hl34 : g9 < w16.heap.size := by have z1 := hB28.lt; omega
  have hl35 : g17 < w16.heap.size := by have z1 := hB19.lt; omega
  have hl36 : w.heap.size ≤ w16.heap.size := (hb29).size
  refine WL.call rfl rfl rfl (fun za zh zC => wp_call (by kernel_rfl) rfl (hv2 (zh.ev rfl) (zh.ev rfl))) (renamed_any m _ hm t _ _ hz (IsT.below hb29 hv) hB28) ?_
  rintro v30 w37 ⟨hn31, hb32⟩
  obtain ⟨_, a38, c39, rfl, _, _, _⟩ := hn31.form
  have hB40 := hB19.below hb32
  refine WL.step (post := fun _ w' => Upd g17 w37 w' ∧ Blk w' g17 24 #[.int .i64 ((t.mv m).f), .slice a38 ((t.mv m).args.length) c39]) rfl rfl rfl (fun za zC zh zk => st_24 rfl (zh.ev rfl) (zh.ev rfl) rfl rfl hB40 (by first | decide | simp) (fun v => zk v _ ⟨(Upd.at_ _ _ _ _).trans (Upd.at_ _ _ _ _), (hB40.set_ 0 _).set_ 1 _⟩)) ?_
  rintro v44 w41 ⟨hu42, hB43⟩
  have hb45 : Below w.heap.size w w37 := (bstep hb29 hb32)
  have hb46 := upd_below hb45 hu42 (by omega)
  have hB47 := hB26.below hb32
  have hB48 := upd_blk hB47 hu42 (by omega)
  have hB49 := hB28.below hb32
  have hB50 := upd_blk hB49 hu42 (by omega)
  have ho51 := hn31.upd hu42 (by omega)
  refine WL.nil (WE.sub (K' := [(0, .agg #[.int .i64 t.f, .slice a t.args.length c]), (1, .int .i64 m), (2, .pointer (some ⟨g2, 0, none⟩)), (3, .pointer (some ⟨g9, 0, none⟩)), (4, .pointer (some ⟨g17, 0, none⟩))]) ⟨rfl, rfl, rfl, rfl, rfl, trivial⟩ ?_)
  refine WE.next ?_
  refine WC.ret ?_
  refine WE.retAny (v := .agg #[.int .i64 ((t.mv m).f), .slice a38 ((t.mv m).args.length) c39]) (fun za zh => ?_) ?_
  · have z0 : za.tmps[4]?.getD undef = .pointer (some ⟨g17, 0, none⟩) := by rw [← Array.getD_eq_getD_getElem?]; exact zh.knows 4 _ rfl
    have y0 : w41.cell? ⟨g17, 0, none⟩ = some (.int .i64 ((t.mv m).f)) := ((hB43.cell 0).trans rfl)
    have y1 : w41.cell? ⟨g17, 1, none⟩ = some (.slice a38 ((t.mv m).args.length) c39) := ((hB43.cell 1).trans rfl)
    simp [results, Try.results27, z0, y0, y1, go_sem]
  · have hgz := (hb29).size
    exact ⟨_, rfl, (ho51).mono (fun b hb _ => by omega), hb46⟩

end Go.Proofs.Ytcmfjnadjddboaa

namespace Go.Proofs.Ytcmfjnadjddboaa
open Go.RowKit Go
set_option linter.unusedVariables false
set_option linter.unusedSimpArgs false

set_option linter.unnecessarySimpa false

/-- The clause that says that a term is itself, named anew. -/
def nrow (t : T) : List Li := [(Li.rn ⟨false, t, t⟩ []).1]
theorem nrow_l (t : T) : (lget (nrow t) 0).l = (t.rn []).1 := rfl
theorem isCl_one {w : World} {g : Nat} {x : Li} {a1 a2 : Option Addr} {c1 c2 : Nat} (hB : Blk w g 41 #[.bool x.neg, .int .i64 x.l.f, .slice a1 x.l.args.length c1, .int .i64 x.r.f, .slice a2 x.r.args.length c2]) (h1 : IsT w x.l (.agg #[.int .i64 x.l.f, .slice a1 x.l.args.length c1])) (h2 : IsT w x.r (.agg #[.int .i64 x.r.f, .slice a2 x.r.args.length c2])) (z1 : x.l.size ≤ 4294967296) (z2 : x.r.size ≤ 4294967296) : IsCl w [x] (some ⟨g, 0, none⟩) 1 := by
  refine ⟨fun i hi => ?_, Nat.le_refl _, by decide, Nat.le_of_ble_eq_true rfl, fun b hb => ?_, fun b hb => ?_⟩
  · obtain rfl : i = 0 := by simpa using hi
    refine ⟨g, 0, _, rfl, trivial, ⟨_, _, _, _, rfl, h1.inT.mono (fun _ _ _ => trivial), h2.inT.mono (fun _ _ _ => trivial)⟩, fun j hj => ?_⟩
    rw [hB.cell, show 0 + 0 * eltL.k + j = j by omega, ← List.getElem?_toArray]
    rfl
  · rw [List.mem_singleton] at hb; subst hb; exact z1
  · rw [List.mem_singleton] at hb; subst hb; exact z2
theorem norm_one (t : T) (w : World) (g : Nat) (a1 a2 : Option Addr) (c1 c2 : Nat) (hB : Blk w g 41 #[.bool false, .int .i64 t.f, .slice a1 t.args.length c1, .int .i64 t.f, .slice a2 t.args.length c2]) (h1 : IsT w t (.agg #[.int .i64 t.f, .slice a1 t.args.length c1])) (h2 : IsT w t (.agg #[.int .i64 t.f, .slice a2 t.args.length c2])) (hz : t.size ≤ 2000000000) : Calls Try.prog 26 #[.slice (some ⟨g, 0, none⟩) 1 1] w (Ret fun v' w' => (∃ (oa : Option Addr) (oc : Nat) (sa : Option Addr) (sn sc : Nat), v' = .tuple #[.slice oa 1 oc, .slice sa sn sc] ∧ IsLs w' (nrow t) oa) ∧ Below w.heap.size w w') := by
  refine (normal_any [⟨false, t, t⟩] w _ _ (isCl_one (x := ⟨false, t, t⟩) hB h1 h2 (by (try dsimp only); omega) (by (try dsimp only); omega)) (by simp [clSz]; omega)).mono ?_
  rintro e w' ⟨v, rfl, ⟨oa, oc, sa, sc, R, rfl, hr, _⟩, hb⟩
  exact ⟨_, rfl, ⟨oa, oc, sa, R.length, sc, rfl, hr⟩, hb⟩
mutual
theorem T.mv_size (m : Int) : ∀ t : T, (t.mv m).size = t.size
  | .mk f l => by rw [T.mv, T.size, T.size, T.mvL_size m l]
theorem T.mvL_size (m : Int) : ∀ l : List T, T.sizeL (T.mvL m l) = T.sizeL l
  | [] => by rw [T.mvL]
  | t :: r => by rw [T.mvL, T.sizeL, T.sizeL, T.mv_size m t, T.mvL_size m r]
end
def ShR (m v u : Int) : Prop := u = v + m
theorem shR_bi (m : Int) : BiFun (ShR m) := ⟨fun v u u' h h' => by unfold ShR at *; omega, fun v v' u h h' => by unfold ShR at *; omega⟩
mutual
theorem T.mv_rel {m : Int} (h0 : 0 ≤ m) (h1 : m ≤ 1000) : ∀ t : T, t.low 48 = true → t.rel (ShR m) (t.mv m) ∧ (t.mv m).plain = true
  | .mk f l, h => by
    rw [T.low] at h
    rw [T.rel, T.mv]
    by_cases hf : f < 0
    · rw [if_pos hf] at h ⊢
      simp only [Bool.and_eq_true, decide_eq_true_eq] at h
      have hl : l = [] := List.length_eq_zero_iff.1 h.2
      subst hl
      have e : mvF f m = -1 - (-1 - f + m) := by rw [mvF_neg hf, mvTo_yes (mvOk_iff.2 (.inl ⟨h0, by omega, by omega⟩))]
      rw [e, T.mvL]
      refine ⟨⟨rfl, by show -1 - (-1 - f + m) < 0; omega, rfl, by show -1 - (-1 - (-1 - f + m)) = -1 - f + m; omega⟩, by simp [T.plain, T.plainL]⟩
    · rw [if_neg hf] at h ⊢
      obtain ⟨k1, k2⟩ := T.mvL_rel h0 h1 l h
      rw [mvF_pos hf]
      refine ⟨⟨rfl, k1⟩, ?_⟩
      rw [T.plain]; simp [k2]; omega
theorem T.mvL_rel {m : Int} (h0 : 0 ≤ m) (h1 : m ≤ 1000) : ∀ l : List T, T.lowL 48 l = true → T.relL (ShR m) l (T.mvL m l) ∧ T.plainL (T.mvL m l) = true
  | [], _ => by rw [T.mvL]; exact ⟨rfl, rfl⟩
  | t :: r, h => by
    rw [T.lowL, Bool.and_eq_true] at h
    obtain ⟨k1, k2⟩ := T.mv_rel h0 h1 t h.1
    obtain ⟨k3, k4⟩ := T.mvL_rel h0 h1 r h.2
    rw [T.mvL]
    exact ⟨⟨_, _, rfl, k1, k3⟩, by rw [T.plainL, k2, k4]; rfl⟩
end
theorem names_var {a : T} {m : Int} (h : a.small 48 = true) (h0 : 0 ≤ m) (h1 : m ≤ 1000) : varB a (a.mv m) = true := by
  have hs := h
  unfold T.small at h
  rw [Bool.and_eq_true] at h
  obtain ⟨k1, k2⟩ := T.mv_rel h0 h1 a h.2
  exact rel_var (shR_bi m) (small_plain hs) k2 k1
theorem names_iff {a b : T} (ha : a.small 48 = true) (hb : b.small 48 = true) : varB a b = T.same (lget (nrow a) 0).l (lget (nrow b) 0).l := variant_iff (small_plain ha) (small_plain hb)
set_option maxRecDepth 100000 in
set_option maxHeartbeats 2000000 in
theorem names_any (p t : T) (n : Int) (w : World) (u v : Value) (hp : IsT w p u) (ht : IsT w t v) (hzp : p.size ≤ 4294967296) (hzt : t.size ≤ 4294967296) (hn : I64 n) : Calls Try.prog 6 #[u, v, .int .i64 n] w (Ret fun v' w' => v' = .bool true ∧ Below w.heap.size w w') := by
  have hnp1 : (nrow p).length = 1 := rfl
  have hnt1 : (nrow t).length = 1 := rfl
  obtain ⟨hfp, pa0, pc0, rfl, _, _, _⟩ := hp.form
  obtain ⟨hft, ta0, tc0, rfl, _, _, _⟩ := ht.form
  unfold I64 at hn
  refine Calls.walk (l := [.agg #[.int .i64 p.f, .slice pa0 p.args.length pc0], .agg #[.int .i64 t.f, .slice ta0 t.args.length tc0], .int .i64 n]) Try.func6 rfl (by kernel_rfl) ?_
  refine WC.sub (K' := [(0, .agg #[.int .i64 p.f, .slice pa0 p.args.length pc0]), (1, .agg #[.int .i64 t.f, .slice ta0 t.args.length tc0]), (2, .int .i64 n)]) ⟨rfl, rfl, rfl, trivial⟩ ?_
  refine WC.seq ?_
  refine WC.region ?_
  refine WL.step (post := NewBlk w 24 #[.int .i64 p.f, .slice pa0 p.args.length pc0]) rfl rfl rfl (fun za zC zh zk => box_24 rfl (zh.ev rfl) (zk _ _ (newBlk _ _ _))) ?_
  rintro _ w1 ⟨g2, rfl, hg3, hB4, hb5, hz6⟩
  have hl7 : w.heap.size ≤ g2 := by omega
  refine WL.step (post := NewBlk w1 24 #[.int .i64 t.f, .slice ta0 t.args.length tc0]) rfl rfl rfl (fun za zC zh zk => box_24 rfl (zh.ev rfl) (zk _ _ (newBlk _ _ _))) ?_
  rintro _ w8 ⟨g9, rfl, hg10, hB11, hb12, hz13⟩
  have hl14 : g2 < g9 := by have z1 := hB4.lt; omega
  have hl15 : w.heap.size ≤ g9 := by have z2 := (hb5).size; omega
  refine WL.val (.bool false) rfl rfl rfl (fun za zC zh zk => wp_assign rfl (zh.ev rfl) zk) ?_
  refine WL.nil (WE.sub (K' := [(0, .agg #[.int .i64 p.f, .slice pa0 p.args.length pc0]), (1, .agg #[.int .i64 t.f, .slice ta0 t.args.length tc0]), (2, .int .i64 n), (3, .pointer (some ⟨g2, 0, none⟩)), (4, .pointer (some ⟨g9, 0, none⟩)), (6, .bool false)]) ⟨rfl, rfl, rfl, rfl, rfl, rfl, trivial⟩ ?_)
  refine WE.next ?_
  refine WC.seq ?_
  refine WC.seq ?_
  have hB16 := hB4.below hb12
  have hb17 : Below w.heap.size w w8 := (bstep hb5 hb12)
  refine WC.opt [(true, .val (.agg #[.int .i64 p.f, .slice pa0 p.args.length pc0])), (true, .val (.bool ((p.small 48)))), (true, .val (.bool ((!(p.small 48))))), (true, .val (.bool ((!(p.small 48))))), ((true && !(!(p.small 48))), .val (.agg #[.int .i64 t.f, .slice ta0 t.args.length tc0])), ((true && !(!(p.small 48))), .val (.bool ((t.small 48)))), ((true && !(!(p.small 48))), .val (.bool ((!(t.small 48))))), (true, .val (.bool (((!(p.small 48)) || (!(t.small 48))))))] [(0, .agg #[.int .i64 p.f, .slice pa0 p.args.length pc0]), (1, .agg #[.int .i64 t.f, .slice ta0 t.args.length tc0]), (2, .int .i64 n), (3, .pointer (some ⟨g2, 0, none⟩)), (4, .pointer (some ⟨g9, 0, none⟩)), (6, .bool false)] ⟨rfl, rfl, rfl, rfl, rfl, rfl, trivial⟩ (by kernel_rfl) (by kernel_rfl) (by kernel_rfl) ?_ ?_
  · refine ⟨⟨true, .none rfl, fun h w => optUndef h, fun zβ za zw zc => ?_⟩, ?_⟩
    · exact ld_24 rfl (zc.kn.ev rfl) (bkeeps zc.below _ _ ((hB16.cell 0).trans rfl)) (bkeeps zc.below _ _ ((hB16.cell 1).trans rfl)) ⟨_, rfl, Below.refl _ _, optDef zβ rfl⟩
    refine ⟨⟨true, .none rfl, fun h w => optUndef h, fun zβ za zw zc => ?_⟩, ?_⟩
    · exact wp_call (by kernel_rfl) rfl (hv2 ((show za.eval (.tmp 12) = za.tmps.getD 12 undef from rfl).trans (optVal (zc.dep 0 12 (by kernel_rfl)) rfl rfl)) (zc.kn.ev rfl)) (rsmall_any p 48 _ _ (by omega) hzp (IsT.below (bstep hb17 zc.below) hp)) (fun v w' h => ⟨v, rfl, h.2, optDef zβ h.1⟩)
    refine ⟨⟨true, .none rfl, fun h w => optUndef h, fun zβ za zw zc => ?_⟩, ?_⟩
    · exact wp_not rfl ((show za.eval (.tmp 13) = za.tmps.getD 13 undef from rfl).trans (optVal (zc.dep 1 13 (by kernel_rfl)) rfl rfl)) ⟨_, rfl, Below.refl _ _, optDef zβ rfl⟩
    refine ⟨⟨true, .none rfl, fun h w => optUndef h, fun zβ za zw zc => ?_⟩, ?_⟩
    · exact wp_move rfl ((show za.eval (.tmp 14) = za.tmps.getD 14 undef from rfl).trans (optVal (zc.dep 2 14 (by kernel_rfl)) rfl rfl)) ⟨_, rfl, Below.refl _ _, optDef zβ rfl⟩
    refine ⟨⟨(true && !(!(p.small 48))), .no (c := (!(p.small 48))) (d := true) rfl (fun v w h => h), fun h w => optUndef h, fun zβ za zw zc => ?_⟩, ?_⟩
    · exact ld_24 rfl (zc.kn.ev rfl) (bkeeps zc.below _ _ ((hB11.cell 0).trans rfl)) (bkeeps zc.below _ _ ((hB11.cell 1).trans rfl)) ⟨_, rfl, Below.refl _ _, optDef zβ rfl⟩
    refine ⟨⟨(true && !(!(p.small 48))), .no (c := (!(p.small 48))) (d := true) rfl (fun v w h => h), fun h w => optUndef h, fun zβ za zw zc => ?_⟩, ?_⟩
    · exact wp_call (by kernel_rfl) rfl (hv2 ((show za.eval (.tmp 16) = za.tmps.getD 16 undef from rfl).trans (optVal (zc.dep 4 16 (by kernel_rfl)) rfl zβ)) (zc.kn.ev rfl)) (rsmall_any t 48 _ _ (by omega) hzt (IsT.below (bstep hb17 zc.below) ht)) (fun v w' h => ⟨v, rfl, h.2, optDef zβ h.1⟩)
    refine ⟨⟨(true && !(!(p.small 48))), .no (c := (!(p.small 48))) (d := true) rfl (fun v w h => h), fun h w => optUndef h, fun zβ za zw zc => ?_⟩, ?_⟩
    · exact wp_not rfl ((show za.eval (.tmp 17) = za.tmps.getD 17 undef from rfl).trans (optVal (zc.dep 5 17 (by kernel_rfl)) rfl zβ)) ⟨_, rfl, Below.refl _ _, optDef zβ rfl⟩
    refine ⟨⟨true, .none rfl, fun h w => optUndef h, fun zβ za zw zc => ?_⟩, ?_⟩
    · exact wp_or rfl ((show za.eval (.tmp 15) = za.tmps.getD 15 undef from rfl).trans (optVal (zc.dep 3 15 (by kernel_rfl)) rfl rfl)) (fun hp => ((show za.eval (.tmp 18) = za.tmps.getD 18 undef from rfl).trans (optVal (zc.dep 6 18 (by kernel_rfl)) rfl (bMkN zβ hp)))) ⟨_, rfl, Below.refl _ _, optDef zβ rfl⟩
    exact trivial
  · intro za w20 zh hb21 zu
    have zh := zh.cons (d := 19) (v := .bool (((!(p.small 48)) || (!(t.small 48))))) (optVal (zu 7 19 (by kernel_rfl)) rfl rfl)
    clear zu
    refine (show WE _ [(0, .agg #[.int .i64 p.f, .slice pa0 p.args.length pc0]), (1, .agg #[.int .i64 t.f, .slice ta0 t.args.length tc0]), (2, .int .i64 n), (3, .pointer (some ⟨g2, 0, none⟩)), (4, .pointer (some ⟨g9, 0, none⟩)), (6, .bool false), (19, .bool (((!(p.small 48)) || (!(t.small 48)))))] w20 _ .normal from ?_) za (zh.sub ⟨rfl, rfl, rfl, rfl, rfl, rfl, rfl, trivial⟩)
    refine WE.next ?_
    refine WC.cond rfl (fun h22 => ?_) (fun h22 => ?_)
    · have h22 : (¬ ((p.small 48) = true)) ∨ (¬ ((t.small 48) = true)) := by simpa using h22
      refine WC.seq ?_
      refine WC.region ?_
      refine WL.call rfl rfl rfl (fun za zh zC => wp_call (by kernel_rfl) rfl (hv0)) (wakes_any _) ?_
      rintro _ w24 ⟨rfl, hq23⟩
      refine WL.val (.bool true) rfl rfl rfl (fun za zC zh zk => wp_assign rfl (zh.ev rfl) zk) ?_
      refine WL.nil (WE.sub (K' := [(0, .agg #[.int .i64 p.f, .slice pa0 p.args.length pc0]), (1, .agg #[.int .i64 t.f, .slice ta0 t.args.length tc0]), (2, .int .i64 n), (3, .pointer (some ⟨g2, 0, none⟩)), (4, .pointer (some ⟨g9, 0, none⟩)), (6, .bool true), (19, .bool (((!(p.small 48)) || (!(t.small 48)))))]) ⟨rfl, rfl, rfl, rfl, rfl, rfl, rfl, trivial⟩ ?_)
      refine WE.next ?_
      refine WC.ret ?_
      refine WE.thenRet ?_
      refine WE.ret1 rfl rfl ?_
      have hb25 : Below w.heap.size w w24 := (bstep (bstep hb17 hb21) hq23)
      exact ⟨_, rfl, rfl, hb25⟩
    · have h22 : ¬ ((¬ ((p.small 48) = true)) ∨ (¬ ((t.small 48) = true))) := by simpa using h22
      refine WC.skip ?_
      refine WE.next ?_
      refine WC.seq ?_
      refine WC.region ?_
      have hB26 := hB16.below hb21
      refine WL.val (.agg #[.int .i64 p.f, .slice pa0 p.args.length pc0]) rfl rfl rfl (fun za zC zh zk => ld_24 rfl (zh.ev rfl) ((hB26.cell 0).trans rfl) ((hB26.cell 1).trans rfl) zk) ?_
      refine WL.val (.agg #[.int .i64 p.f, .slice pa0 p.args.length pc0]) rfl rfl rfl (fun za zC zh zk => ld_24 rfl (zh.ev rfl) ((hB26.cell 0).trans rfl) ((hB26.cell 1).trans rfl) zk) ?_
      refine WL.val (.agg #[.bool false, .int .i64 p.f, .slice pa0 p.args.length pc0, .int .i64 p.f, .slice pa0 p.args.length pc0]) rfl rfl rfl (fun za zC zh zk => build_41_1_2 rfl (zh.ev rfl) (zh.ev rfl) zk) ?_
      refine WL.step (post := NewRow w20 41 #[.bool false, .int .i64 p.f, .slice pa0 p.args.length pc0, .int .i64 p.f, .slice pa0 p.args.length pc0] 1) rfl rfl rfl (fun za zC zh zk => row_50_1 rfl (zh.ev rfl) (zk _ _ (newRow _ _ _ _))) ?_
      rintro _ w27 ⟨g28, rfl, hg29, hB30, hb31, hz32⟩
      have hl33 : g2 < g28 := by have z1 := hB26.lt; omega
      have hl34 : g9 < g28 := by have z1 := hB11.lt; have z2 := (hb21).size; omega
      have hb35 : Below w.heap.size w w20 := (bstep hb17 hb21)
      have hl36 : w.heap.size ≤ g28 := by have z2 := (hb35).size; omega
      have hps : p.small 48 = true := by have z := h22; simp at z; exact z.1
      have hts : t.small 48 = true := by have z := h22; simp at z; exact z.2
      have hp3 := small_size hps
      have ht3 := small_size hts
      have hb44 : Below w.heap.size w w27 := (bstep hb35 hb31)
      refine WL.call rfl rfl rfl (fun za zh zC => wp_call (by kernel_rfl) rfl (hv1 (zh.ev rfl))) (norm_one p _ g28 _ _ _ _ hB30 (IsT.below hb44 hp) (IsT.below hb44 hp) (by omega)) ?_
      rintro _ w45 ⟨⟨oa37, oc38, sa39, sn40, sc41, rfl, hr42⟩, hb43⟩
      refine WL.val (.tuple #[.slice oa37 1 oc38, .slice sa39 sn40 sc41]) rfl rfl rfl (fun za zC zh zk => wp_move rfl (zh.ev rfl) zk) ?_
      refine WL.val (.slice oa37 1 oc38) rfl rfl rfl (fun za zC zh zk => ext2_0 rfl (zh.ev rfl) zk) ?_
      refine WL.val (.slice sa39 sn40 sc41) rfl rfl rfl (fun za zC zh zk => ext2_1 rfl (zh.ev rfl) zk) ?_
      refine WL.val (.slice oa37 1 oc38) rfl rfl rfl (fun za zC zh zk => wp_assign rfl (zh.ev rfl) zk) ?_
      refine WL.val (.slice sa39 sn40 sc41) rfl rfl rfl (fun za zC zh zk => wp_assign rfl (zh.ev rfl) zk) ?_
      refine WL.nil (WE.sub (K' := [(0, .agg #[.int .i64 p.f, .slice pa0 p.args.length pc0]), (1, .agg #[.int .i64 t.f, .slice ta0 t.args.length tc0]), (2, .int .i64 n), (3, .pointer (some ⟨g2, 0, none⟩)), (4, .pointer (some ⟨g9, 0, none⟩)), (6, .bool false), (7, .slice oa37 1 oc38), (19, .bool (((!(p.small 48)) || (!(t.small 48)))))]) ⟨rfl, rfl, rfl, rfl, rfl, rfl, rfl, rfl, trivial⟩ ?_)
      refine WE.next ?_
      refine WC.seq ?_
      refine WC.region ?_
      have hb47 : Below w8.heap.size w8 w45 := (bstep (bstep hb21 hb31) hb43)
      have hB46 := hB11.below hb47
      refine WL.val (.agg #[.int .i64 t.f, .slice ta0 t.args.length tc0]) rfl rfl rfl (fun za zC zh zk => ld_24 rfl (zh.ev rfl) ((hB46.cell 0).trans rfl) ((hB46.cell 1).trans rfl) zk) ?_
      refine WL.val (.agg #[.int .i64 t.f, .slice ta0 t.args.length tc0]) rfl rfl rfl (fun za zC zh zk => ld_24 rfl (zh.ev rfl) ((hB46.cell 0).trans rfl) ((hB46.cell 1).trans rfl) zk) ?_
      refine WL.val (.agg #[.bool false, .int .i64 t.f, .slice ta0 t.args.length tc0, .int .i64 t.f, .slice ta0 t.args.length tc0]) rfl rfl rfl (fun za zC zh zk => build_41_1_2 rfl (zh.ev rfl) (zh.ev rfl) zk) ?_
      refine WL.step (post := NewRow w45 41 #[.bool false, .int .i64 t.f, .slice ta0 t.args.length tc0, .int .i64 t.f, .slice ta0 t.args.length tc0] 1) rfl rfl rfl (fun za zC zh zk => row_50_1 rfl (zh.ev rfl) (zk _ _ (newRow _ _ _ _))) ?_
      rintro _ w48 ⟨g49, rfl, hg50, hB51, hb52, hz53⟩
      have hb54 : Below w20.heap.size w20 w45 := (bstep hb31 hb43)
      have hl55 : g2 < g49 := by have z1 := hB26.lt; have z2 := (hb54).size; omega
      have hl56 : g9 < g49 := by have z1 := hB46.lt; omega
      have hl57 : g28 < g49 := by have z1 := hB30.lt; have z2 := (hb43).size; omega
      have hb58 : Below w.heap.size w w45 := (bstep hb17 hb47)
      have hl59 : w.heap.size ≤ g49 := by have z2 := (hb58).size; omega
      have hl60 : w45.heap.size ≤ g49 := by omega
      have hb68 : Below w.heap.size w w48 := (bstep hb58 hb52)
      refine WL.call rfl rfl rfl (fun za zh zC => wp_call (by kernel_rfl) rfl (hv1 (zh.ev rfl))) (norm_one t _ g49 _ _ _ _ hB51 (IsT.below hb68 ht) (IsT.below hb68 ht) (by omega)) ?_
      rintro _ w69 ⟨⟨oa61, oc62, sa63, sn64, sc65, rfl, hr66⟩, hb67⟩
      refine WL.val (.tuple #[.slice oa61 1 oc62, .slice sa63 sn64 sc65]) rfl rfl rfl (fun za zC zh zk => wp_move rfl (zh.ev rfl) zk) ?_
      refine WL.val (.slice oa61 1 oc62) rfl rfl rfl (fun za zC zh zk => ext2_0 rfl (zh.ev rfl) zk) ?_
      refine WL.val (.slice sa63 sn64 sc65) rfl rfl rfl (fun za zC zh zk => ext2_1 rfl (zh.ev rfl) zk) ?_
      refine WL.val (.slice oa61 1 oc62) rfl rfl rfl (fun za zC zh zk => wp_assign rfl (zh.ev rfl) zk) ?_
      refine WL.val (.slice sa63 sn64 sc65) rfl rfl rfl (fun za zC zh zk => wp_assign rfl (zh.ev rfl) zk) ?_
      refine WL.nil (WE.sub (K' := [(0, .agg #[.int .i64 p.f, .slice pa0 p.args.length pc0]), (1, .agg #[.int .i64 t.f, .slice ta0 t.args.length tc0]), (2, .int .i64 n), (3, .pointer (some ⟨g2, 0, none⟩)), (4, .pointer (some ⟨g9, 0, none⟩)), (6, .bool false), (7, .slice oa37 1 oc38), (9, .slice oa61 1 oc62), (19, .bool (((!(p.small 48)) || (!(t.small 48)))))]) ⟨rfl, rfl, rfl, rfl, rfl, rfl, rfl, rfl, rfl, trivial⟩ ?_)
      refine WE.next ?_
      refine WC.seq ?_
      refine WC.seq ?_
      refine WC.opt [(true, .val (.slice oa37 1 oc38)), (true, .val (.int .i64 1)), (true, .val (.bool false)), (true, .val (.bool false)), ((true && !false), .val (.slice oa61 1 oc62)), ((true && !false), .val (.int .i64 1)), ((true && !false), .val (.bool false)), (true, .val (.bool false))] [(0, .agg #[.int .i64 p.f, .slice pa0 p.args.length pc0]), (1, .agg #[.int .i64 t.f, .slice ta0 t.args.length tc0]), (2, .int .i64 n), (3, .pointer (some ⟨g2, 0, none⟩)), (4, .pointer (some ⟨g9, 0, none⟩)), (6, .bool false), (7, .slice oa37 1 oc38), (9, .slice oa61 1 oc62), (19, .bool (((!(p.small 48)) || (!(t.small 48)))))] ⟨rfl, rfl, rfl, rfl, rfl, rfl, rfl, rfl, rfl, trivial⟩ (by kernel_rfl) (by kernel_rfl) (by kernel_rfl) ?_ ?_
      · refine ⟨⟨true, .none rfl, fun h w => optUndef h, fun zβ za zw zc => ?_⟩, ?_⟩
        · exact wp_move rfl (zc.kn.ev rfl) ⟨_, rfl, Below.refl _ _, optDef zβ rfl⟩
        refine ⟨⟨true, .none rfl, fun h w => optUndef h, fun zβ za zw zc => ?_⟩, ?_⟩
        · exact len_50 rfl ((show za.eval (.tmp 37) = za.tmps.getD 37 undef from rfl).trans (optVal (zc.dep 0 37 (by kernel_rfl)) rfl rfl)) ⟨_, rfl, Below.refl _ _, optDef zβ rfl⟩
        refine ⟨⟨true, .none rfl, fun h w => optUndef h, fun zβ za zw zc => ?_⟩, ?_⟩
        · exact neq_3 rfl ((show za.eval (.tmp 38) = za.tmps.getD 38 undef from rfl).trans (optVal (zc.dep 1 38 (by kernel_rfl)) rfl rfl)) (zc.kn.ev rfl) ⟨_, rfl, Below.refl _ _, optDef zβ rfl⟩
        refine ⟨⟨true, .none rfl, fun h w => optUndef h, fun zβ za zw zc => ?_⟩, ?_⟩
        · exact wp_move rfl ((show za.eval (.tmp 39) = za.tmps.getD 39 undef from rfl).trans (optVal (zc.dep 2 39 (by kernel_rfl)) rfl rfl)) ⟨_, rfl, Below.refl _ _, optDef zβ rfl⟩
        refine ⟨⟨(true && !false), .no (c := false) (d := true) rfl (fun v w h => h), fun h w => optUndef h, fun zβ za zw zc => ?_⟩, ?_⟩
        · exact wp_move rfl (zc.kn.ev rfl) ⟨_, rfl, Below.refl _ _, optDef zβ rfl⟩
        refine ⟨⟨(true && !false), .no (c := false) (d := true) rfl (fun v w h => h), fun h w => optUndef h, fun zβ za zw zc => ?_⟩, ?_⟩
        · exact len_50 rfl ((show za.eval (.tmp 41) = za.tmps.getD 41 undef from rfl).trans (optVal (zc.dep 4 41 (by kernel_rfl)) rfl rfl)) ⟨_, rfl, Below.refl _ _, optDef zβ rfl⟩
        refine ⟨⟨(true && !false), .no (c := false) (d := true) rfl (fun v w h => h), fun h w => optUndef h, fun zβ za zw zc => ?_⟩, ?_⟩
        · exact neq_3 rfl ((show za.eval (.tmp 42) = za.tmps.getD 42 undef from rfl).trans (optVal (zc.dep 5 42 (by kernel_rfl)) rfl rfl)) (zc.kn.ev rfl) ⟨_, rfl, Below.refl _ _, optDef zβ rfl⟩
        refine ⟨⟨true, .none rfl, fun h w => optUndef h, fun zβ za zw zc => ?_⟩, ?_⟩
        · exact wp_pickF rfl ((show za.eval (.tmp 40) = za.tmps.getD 40 undef from rfl).trans (optVal (zc.dep 3 40 (by kernel_rfl)) rfl rfl)) ((show za.eval (.tmp 43) = za.tmps.getD 43 undef from rfl).trans (optVal (zc.dep 6 43 (by kernel_rfl)) rfl rfl)) ⟨_, rfl, Below.refl _ _, optDef zβ rfl⟩
        exact trivial
      · intro za w70 zh hb71 zu
        have zh := zh.cons (d := 44) (v := .bool false) (optVal (zu 7 44 (by kernel_rfl)) rfl rfl)
        clear zu
        refine (show WE _ [(0, .agg #[.int .i64 p.f, .slice pa0 p.args.length pc0]), (1, .agg #[.int .i64 t.f, .slice ta0 t.args.length tc0]), (2, .int .i64 n), (3, .pointer (some ⟨g2, 0, none⟩)), (4, .pointer (some ⟨g9, 0, none⟩)), (6, .bool false), (7, .slice oa37 1 oc38), (9, .slice oa61 1 oc62), (19, .bool (((!(p.small 48)) || (!(t.small 48))))), (44, .bool false)] w70 _ .normal from ?_) za (zh.sub ⟨rfl, rfl, rfl, rfl, rfl, rfl, rfl, rfl, rfl, rfl, trivial⟩)
        refine WE.next ?_
        refine WC.condF rfl rfl ?_
        refine WC.skip ?_
        refine WE.next ?_
        refine WC.seq ?_
        refine WC.region ?_
        have hb73 : Below w20.heap.size w20 w70 := (bstep (bstep (bstep hb54 hb52) hb67) hb71)
        have hB72 := hB26.below hb73
        refine WL.val (.agg #[.int .i64 p.f, .slice pa0 p.args.length pc0]) rfl rfl rfl (fun za zC zh zk => ld_24 rfl (zh.ev rfl) ((hB72.cell 0).trans rfl) ((hB72.cell 1).trans rfl) zk) ?_
        refine WL.val (.int .i64 n) rfl rfl rfl (fun za zC zh zk => wp_move rfl (zh.ev rfl) zk) ?_
        refine WL.val (.int .i64 ((min n 1000))) rfl rfl rfl (fun za zC zh zk => min_3 rfl (zh.ev rfl) (zh.ev rfl) zk) ?_
        refine WL.val (.int .i64 ((max ((min n 1000)) 0))) rfl rfl rfl (fun za zC zh zk => max_3 rfl (zh.ev rfl) (zh.ev rfl) zk) ?_
        have hb74 : Below w.heap.size w w70 := (bstep hb35 hb73)
        have hl78 : g2 < w70.heap.size := by have z1 := hB72.lt; omega
        have hb80 : Below w45.heap.size w45 w70 := (bstep (bstep hb52 hb67) hb71)
        have hl79 : g9 < w70.heap.size := by have z1 := hB46.lt; have z2 := (hb80).size; omega
        have hb82 : Below w27.heap.size w27 w70 := (bstep hb43 hb80)
        have hl81 : g28 < w70.heap.size := by have z1 := hB30.lt; have z2 := (hb82).size; omega
        have hb84 : Below w48.heap.size w48 w70 := (bstep hb67 hb71)
        have hl83 : g49 < w70.heap.size := by have z1 := hB51.lt; have z2 := (hb84).size; omega
        have hl85 : w.heap.size ≤ w70.heap.size := (hb74).size
        have hl86 : w45.heap.size ≤ w70.heap.size := (hb80).size
        have hl87 : w69.heap.size ≤ w70.heap.size := (hb71).size
        refine WL.call rfl rfl rfl (fun za zh zC => wp_call (by kernel_rfl) rfl (hv2 (zh.ev rfl) (zh.ev rfl))) (move_any p (max (min n 1000) 0) _ _ hzp (IsT.below hb74 hp) (by unfold I64; omega)) ?_
        rintro v75 w88 ⟨hn76, hb77⟩
        obtain ⟨_, a89, c90, rfl, _, _, _⟩ := hn76.form
        refine WL.step (post := NewBlk w88 24 #[.int .i64 0, .slice none 0 0]) rfl rfl rfl (fun za zC zh zk => alloc_24 rfl (zk _ _ (newBlk _ _ _))) ?_
        rintro _ w91 ⟨g92, rfl, hg93, hB94, hb95, hz96⟩
        have hl97 : g2 < g92 := by have z1 := hB72.lt; have z2 := (hb77).size; omega
        have hb98 : Below w45.heap.size w45 w88 := (bstep hb80 hb77)
        have hl99 : g9 < g92 := by have z1 := hB46.lt; have z2 := (hb98).size; omega
        have hb100 : Below w27.heap.size w27 w88 := (bstep hb43 hb98)
        have hl101 : g28 < g92 := by have z1 := hB30.lt; have z2 := (hb100).size; omega
        have hb102 : Below w48.heap.size w48 w88 := (bstep hb84 hb77)
        have hl103 : g49 < g92 := by have z1 := hB51.lt; have z2 := (hb102).size; omega
        have hb104 : Below w.heap.size w w88 := (bstep hb44 hb100)
        have hl105 : w.heap.size ≤ g92 := by have z2 := (hb104).size; omega
        have hl106 : w45.heap.size ≤ g92 := by have z2 := (hb98).size; omega
        have hb107 : Below w69.heap.size w69 w88 := (bstep hb71 hb77)
        have hl108 : w69.heap.size ≤ g92 := by have z2 := (hb107).size; omega
        have hl109 : w88.heap.size ≤ g92 := by omega
        refine WL.step (post := fun _ w' => Upd g92 w91 w' ∧ Blk w' g92 24 #[.int .i64 ((p.mv (max (min n 1000) 0)).f), .slice a89 ((p.mv (max (min n 1000) 0)).args.length) c90]) rfl rfl rfl (fun za zC zh zk => st_24 rfl (zh.ev rfl) (zh.ev rfl) rfl rfl hB94 (by first | decide | simp) (fun v => zk v _ ⟨(Upd.at_ _ _ _ _).trans (Upd.at_ _ _ _ _), (hB94.set_ 0 _).set_ 1 _⟩)) ?_
        rintro v113 w110 ⟨hu111, hB112⟩
        have hb114 : Below w.heap.size w w91 := (bstep hb104 hb95)
        have hb115 : Below w45.heap.size w45 w91 := (bstep hb98 hb95)
        have hb116 : Below w69.heap.size w69 w91 := (bstep hb107 hb95)
        have hb117 := upd_below hb114 hu111 (by omega)
        have hb118 := upd_below hb115 hu111 (by omega)
        have hb119 := upd_below hb116 hu111 (by omega)
        have hb120 := upd_below hb95 hu111 (by omega)
        have hb122 : Below w70.heap.size w70 w91 := (bstep hb77 hb95)
        have hB121 := hB72.below hb122
        have hB123 := upd_blk hB121 hu111 (by omega)
        have hB124 := hB46.below hb115
        have hB125 := upd_blk hB124 hu111 (by omega)
        have hb127 : Below w27.heap.size w27 w91 := (bstep hb43 hb115)
        have hB126 := hB30.below hb127
        have hB128 := upd_blk hB126 hu111 (by omega)
        have hb130 : Below w48.heap.size w48 w91 := (bstep hb67 hb116)
        have hB129 := hB51.below hb130
        have hB131 := upd_blk hB129 hu111 (by omega)
        refine WL.nil (WE.sub (K' := [(0, .agg #[.int .i64 p.f, .slice pa0 p.args.length pc0]), (1, .agg #[.int .i64 t.f, .slice ta0 t.args.length tc0]), (2, .int .i64 n), (3, .pointer (some ⟨g2, 0, none⟩)), (4, .pointer (some ⟨g9, 0, none⟩)), (6, .bool false), (7, .slice oa37 1 oc38), (9, .slice oa61 1 oc62), (11, .pointer (some ⟨g92, 0, none⟩)), (19, .bool (((!(p.small 48)) || (!(t.small 48))))), (44, .bool false)]) ⟨rfl, rfl, rfl, rfl, rfl, rfl, rfl, rfl, rfl, rfl, rfl, trivial⟩ ?_)
        refine WE.next ?_
        refine WC.seq ?_
        obtain ⟨b133, o134, A135, C136, A137, C138, ha139, hc140⟩ := InRow.openL hr42
        obtain ⟨b141, o142, A143, C144, A145, C146, ha147, hc148⟩ := InRow.openL hr66
        have ho151 := hn76.below hb120
        refine WC.opt [(true, .val (.agg #[.int .i64 p.f, .slice pa0 p.args.length pc0])), (true, .val (.agg #[.int .i64 t.f, .slice ta0 t.args.length tc0])), (true, .val (.bool ((varB p t)))), (true, .val (.slice oa37 1 oc38)), (true, .val (.pointer (some ⟨b133, o134 + 0 * 5, none⟩))), (true, .val (.pointer (some ⟨b133, o134 + 0 * 5 + 1, none⟩))), (true, .val (.agg #[.int .i64 ((lget (nrow p) 0).l.f), .slice ((A135 0)) ((lget (nrow p) 0).l.args.length) ((C136 0))])), (true, .val (.slice oa61 1 oc62)), (true, .val (.pointer (some ⟨b141, o142 + 0 * 5, none⟩))), (true, .val (.pointer (some ⟨b141, o142 + 0 * 5 + 1, none⟩))), (true, .val (.agg #[.int .i64 ((lget (nrow t) 0).l.f), .slice ((A143 0)) ((lget (nrow t) 0).l.args.length) ((C144 0))])), (true, .val (.bool ((T.same ((lget (nrow p) 0).l) ((lget (nrow t) 0).l))))), (true, .val (.bool (((varB p t) == (T.same ((lget (nrow p) 0).l) ((lget (nrow t) 0).l)))))), (true, .val (.bool (((varB p t) == (T.same ((lget (nrow p) 0).l) ((lget (nrow t) 0).l)))))), ((true && ((varB p t) == (T.same ((lget (nrow p) 0).l) ((lget (nrow t) 0).l)))), .val (.agg #[.int .i64 p.f, .slice pa0 p.args.length pc0])), ((true && ((varB p t) == (T.same ((lget (nrow p) 0).l) ((lget (nrow t) 0).l)))), .val (.agg #[.int .i64 t.f, .slice ta0 t.args.length tc0])), ((true && ((varB p t) == (T.same ((lget (nrow p) 0).l) ((lget (nrow t) 0).l)))), .val (.bool ((varB p t)))), ((true && ((varB p t) == (T.same ((lget (nrow p) 0).l) ((lget (nrow t) 0).l)))), .val (.agg #[.int .i64 t.f, .slice ta0 t.args.length tc0])), ((true && ((varB p t) == (T.same ((lget (nrow p) 0).l) ((lget (nrow t) 0).l)))), .val (.agg #[.int .i64 p.f, .slice pa0 p.args.length pc0])), ((true && ((varB p t) == (T.same ((lget (nrow p) 0).l) ((lget (nrow t) 0).l)))), .val (.bool ((varB t p)))), ((true && ((varB p t) == (T.same ((lget (nrow p) 0).l) ((lget (nrow t) 0).l)))), .val (.bool (((varB p t) == (varB t p))))), (true, .val (.bool ((((varB p t) == (T.same ((lget (nrow p) 0).l) ((lget (nrow t) 0).l))) && ((varB p t) == (varB t p)))))), (true, .val (.bool ((((varB p t) == (T.same ((lget (nrow p) 0).l) ((lget (nrow t) 0).l))) && ((varB p t) == (varB t p)))))), ((true && (((varB p t) == (T.same ((lget (nrow p) 0).l) ((lget (nrow t) 0).l))) && ((varB p t) == (varB t p)))), .val (.agg #[.int .i64 p.f, .slice pa0 p.args.length pc0])), ((true && (((varB p t) == (T.same ((lget (nrow p) 0).l) ((lget (nrow t) 0).l))) && ((varB p t) == (varB t p)))), .val (.agg #[.int .i64 ((p.mv (max (min n 1000) 0)).f), .slice a89 ((p.mv (max (min n 1000) 0)).args.length) c90])), ((true && (((varB p t) == (T.same ((lget (nrow p) 0).l) ((lget (nrow t) 0).l))) && ((varB p t) == (varB t p)))), .val (.bool ((varB p (p.mv (max (min n 1000) 0)))))), (true, .val (.bool (((((varB p t) == (T.same ((lget (nrow p) 0).l) ((lget (nrow t) 0).l))) && ((varB p t) == (varB t p))) && (varB p (p.mv (max (min n 1000) 0))))))), (true, .val (.bool (((((varB p t) == (T.same ((lget (nrow p) 0).l) ((lget (nrow t) 0).l))) && ((varB p t) == (varB t p))) && (varB p (p.mv (max (min n 1000) 0))))))), ((true && ((((varB p t) == (T.same ((lget (nrow p) 0).l) ((lget (nrow t) 0).l))) && ((varB p t) == (varB t p))) && (varB p (p.mv (max (min n 1000) 0))))), .val (.bool true)), (true, .val (.bool ((((((varB p t) == (T.same ((lget (nrow p) 0).l) ((lget (nrow t) 0).l))) && ((varB p t) == (varB t p))) && (varB p (p.mv (max (min n 1000) 0)))) && true)))), (true, .val (.bool ((((((varB p t) == (T.same ((lget (nrow p) 0).l) ((lget (nrow t) 0).l))) && ((varB p t) == (varB t p))) && (varB p (p.mv (max (min n 1000) 0)))) && true))))] [(0, .agg #[.int .i64 p.f, .slice pa0 p.args.length pc0]), (1, .agg #[.int .i64 t.f, .slice ta0 t.args.length tc0]), (2, .int .i64 n), (3, .pointer (some ⟨g2, 0, none⟩)), (4, .pointer (some ⟨g9, 0, none⟩)), (7, .slice oa37 1 oc38), (9, .slice oa61 1 oc62), (11, .pointer (some ⟨g92, 0, none⟩)), (19, .bool (((!(p.small 48)) || (!(t.small 48))))), (44, .bool false)] ⟨rfl, rfl, rfl, rfl, rfl, rfl, rfl, rfl, rfl, rfl, trivial⟩ (by kernel_rfl) (by kernel_rfl) (by kernel_rfl) ?_ ?_
        · refine ⟨⟨true, .none rfl, fun h w => optUndef h, fun zβ za zw zc => ?_⟩, ?_⟩
          · exact ld_24 rfl (zc.kn.ev rfl) (bkeeps zc.below _ _ ((hB123.cell 0).trans rfl)) (bkeeps zc.below _ _ ((hB123.cell 1).trans rfl)) ⟨_, rfl, Below.refl _ _, optDef zβ rfl⟩
          refine ⟨⟨true, .none rfl, fun h w => optUndef h, fun zβ za zw zc => ?_⟩, ?_⟩
          · exact ld_24 rfl (zc.kn.ev rfl) (bkeeps zc.below _ _ ((hB125.cell 0).trans rfl)) (bkeeps zc.below _ _ ((hB125.cell 1).trans rfl)) ⟨_, rfl, Below.refl _ _, optDef zβ rfl⟩
          refine ⟨⟨true, .none rfl, fun h w => optUndef h, fun zβ za zw zc => ?_⟩, ?_⟩
          · exact wp_call (by kernel_rfl) rfl (hv2 ((show za.eval (.tmp 50) = za.tmps.getD 50 undef from rfl).trans (optVal (zc.dep 0 50 (by kernel_rfl)) rfl rfl)) ((show za.eval (.tmp 51) = za.tmps.getD 51 undef from rfl).trans (optVal (zc.dep 1 51 (by kernel_rfl)) rfl rfl))) (variant_any p t _ _ _ (IsT.below (bstep hb117 zc.below) hp) (IsT.below (bstep hb117 zc.below) ht) hzp hzt) (fun v w' h => ⟨v, rfl, h.2, optDef zβ h.1⟩)
          refine ⟨⟨true, .none rfl, fun h w => optUndef h, fun zβ za zw zc => ?_⟩, ?_⟩
          · exact wp_move rfl (zc.kn.ev rfl) ⟨_, rfl, Below.refl _ _, optDef zβ rfl⟩
          refine ⟨⟨true, .none rfl, fun h w => optUndef h, fun zβ za zw zc => ?_⟩, ?_⟩
          · exact ix_50 (k := 0) rfl ((show za.eval (.tmp 53) = za.tmps.getD 53 undef from rfl).trans (optVal (zc.dep 3 53 (by kernel_rfl)) rfl rfl)) (ha139 0 (by first | omega | (simp; omega))) (zc.kn.ev rfl) (by first | omega | (simp; omega)) ⟨_, rfl, Below.refl _ _, optDef zβ rfl⟩
          refine ⟨⟨true, .none rfl, fun h w => optUndef h, fun zβ za zw zc => ?_⟩, ?_⟩
          · exact fld_41_1 rfl ((show za.eval (.tmp 54) = za.tmps.getD 54 undef from rfl).trans (optVal (zc.dep 4 54 (by kernel_rfl)) rfl rfl)) ⟨_, rfl, Below.refl _ _, optDef zβ rfl⟩
          refine ⟨⟨true, .none rfl, fun h w => optUndef h, fun zβ za zw zc => ?_⟩, ?_⟩
          · exact ld_24 rfl ((show za.eval (.tmp 55) = za.tmps.getD 55 undef from rfl).trans (optVal (zc.dep 5 55 (by kernel_rfl)) rfl rfl)) (bkeeps (bstep hb118 zc.below) _ _ (hc140 0 (by first | omega | (simp; omega))).2.1) (bkeeps (bstep hb118 zc.below) _ _ (hc140 0 (by first | omega | (simp; omega))).2.2.1) ⟨_, rfl, Below.refl _ _, optDef zβ rfl⟩
          refine ⟨⟨true, .none rfl, fun h w => optUndef h, fun zβ za zw zc => ?_⟩, ?_⟩
          · exact wp_move rfl (zc.kn.ev rfl) ⟨_, rfl, Below.refl _ _, optDef zβ rfl⟩
          refine ⟨⟨true, .none rfl, fun h w => optUndef h, fun zβ za zw zc => ?_⟩, ?_⟩
          · exact ix_50 (k := 0) rfl ((show za.eval (.tmp 57) = za.tmps.getD 57 undef from rfl).trans (optVal (zc.dep 7 57 (by kernel_rfl)) rfl rfl)) (ha147 0 (by first | omega | (simp; omega))) (zc.kn.ev rfl) (by first | omega | (simp; omega)) ⟨_, rfl, Below.refl _ _, optDef zβ rfl⟩
          refine ⟨⟨true, .none rfl, fun h w => optUndef h, fun zβ za zw zc => ?_⟩, ?_⟩
          · exact fld_41_1 rfl ((show za.eval (.tmp 58) = za.tmps.getD 58 undef from rfl).trans (optVal (zc.dep 8 58 (by kernel_rfl)) rfl rfl)) ⟨_, rfl, Below.refl _ _, optDef zβ rfl⟩
          refine ⟨⟨true, .none rfl, fun h w => optUndef h, fun zβ za zw zc => ?_⟩, ?_⟩
          · exact ld_24 rfl ((show za.eval (.tmp 59) = za.tmps.getD 59 undef from rfl).trans (optVal (zc.dep 9 59 (by kernel_rfl)) rfl rfl)) (bkeeps (bstep hb119 zc.below) _ _ (hc148 0 (by first | omega | (simp; omega))).2.1) (bkeeps (bstep hb119 zc.below) _ _ (hc148 0 (by first | omega | (simp; omega))).2.2.1) ⟨_, rfl, Below.refl _ _, optDef zβ rfl⟩
          refine ⟨⟨true, .none rfl, fun h w => optUndef h, fun zβ za zw zc => ?_⟩, ?_⟩
          · exact wp_call (by kernel_rfl) rfl (hv2 ((show za.eval (.tmp 56) = za.tmps.getD 56 undef from rfl).trans (optVal (zc.dep 6 56 (by kernel_rfl)) rfl rfl)) ((show za.eval (.tmp 60) = za.tmps.getD 60 undef from rfl).trans (optVal (zc.dep 10 60 (by kernel_rfl)) rfl rfl))) (ret_of (rsame_any ((lget (nrow p) 0).l) ((lget (nrow t) 0).l) _ _ _ (IsT.below (bstep hb118 zc.below) (InT.isT (hc140 0 (by first | omega | (simp; omega))).2.2.2.2.2.1)) (IsT.below (bstep hb119 zc.below) (InT.isT (hc148 0 (by first | omega | (simp; omega))).2.2.2.2.2.1)))) (fun v w' h => ⟨v, rfl, h.2, optDef zβ h.1⟩)
          refine ⟨⟨true, .none rfl, fun h w => optUndef h, fun zβ za zw zc => ?_⟩, ?_⟩
          · exact eql_4 rfl ((show za.eval (.tmp 52) = za.tmps.getD 52 undef from rfl).trans (optVal (zc.dep 2 52 (by kernel_rfl)) rfl rfl)) ((show za.eval (.tmp 61) = za.tmps.getD 61 undef from rfl).trans (optVal (zc.dep 11 61 (by kernel_rfl)) rfl rfl)) ⟨_, rfl, Below.refl _ _, optDef zβ rfl⟩
          refine ⟨⟨true, .none rfl, fun h w => optUndef h, fun zβ za zw zc => ?_⟩, ?_⟩
          · exact wp_move rfl ((show za.eval (.tmp 62) = za.tmps.getD 62 undef from rfl).trans (optVal (zc.dep 12 62 (by kernel_rfl)) rfl rfl)) ⟨_, rfl, Below.refl _ _, optDef zβ rfl⟩
          refine ⟨⟨(true && ((varB p t) == (T.same ((lget (nrow p) 0).l) ((lget (nrow t) 0).l)))), .yes (c := ((varB p t) == (T.same ((lget (nrow p) 0).l) ((lget (nrow t) 0).l)))) (d := true) rfl (fun v w h => h), fun h w => optUndef h, fun zβ za zw zc => ?_⟩, ?_⟩
          · exact ld_24 rfl (zc.kn.ev rfl) (bkeeps zc.below _ _ ((hB123.cell 0).trans rfl)) (bkeeps zc.below _ _ ((hB123.cell 1).trans rfl)) ⟨_, rfl, Below.refl _ _, optDef zβ rfl⟩
          refine ⟨⟨(true && ((varB p t) == (T.same ((lget (nrow p) 0).l) ((lget (nrow t) 0).l)))), .yes (c := ((varB p t) == (T.same ((lget (nrow p) 0).l) ((lget (nrow t) 0).l)))) (d := true) rfl (fun v w h => h), fun h w => optUndef h, fun zβ za zw zc => ?_⟩, ?_⟩
          · exact ld_24 rfl (zc.kn.ev rfl) (bkeeps zc.below _ _ ((hB125.cell 0).trans rfl)) (bkeeps zc.below _ _ ((hB125.cell 1).trans rfl)) ⟨_, rfl, Below.refl _ _, optDef zβ rfl⟩
          refine ⟨⟨(true && ((varB p t) == (T.same ((lget (nrow p) 0).l) ((lget (nrow t) 0).l)))), .yes (c := ((varB p t) == (T.same ((lget (nrow p) 0).l) ((lget (nrow t) 0).l)))) (d := true) rfl (fun v w h => h), fun h w => optUndef h, fun zβ za zw zc => ?_⟩, ?_⟩
          · exact wp_call (by kernel_rfl) rfl (hv2 ((show za.eval (.tmp 64) = za.tmps.getD 64 undef from rfl).trans (optVal (zc.dep 14 64 (by kernel_rfl)) rfl zβ)) ((show za.eval (.tmp 65) = za.tmps.getD 65 undef from rfl).trans (optVal (zc.dep 15 65 (by kernel_rfl)) rfl zβ))) (variant_any p t _ _ _ (IsT.below (bstep hb117 zc.below) hp) (IsT.below (bstep hb117 zc.below) ht) hzp hzt) (fun v w' h => ⟨v, rfl, h.2, optDef zβ h.1⟩)
          refine ⟨⟨(true && ((varB p t) == (T.same ((lget (nrow p) 0).l) ((lget (nrow t) 0).l)))), .yes (c := ((varB p t) == (T.same ((lget (nrow p) 0).l) ((lget (nrow t) 0).l)))) (d := true) rfl (fun v w h => h), fun h w => optUndef h, fun zβ za zw zc => ?_⟩, ?_⟩
          · exact ld_24 rfl (zc.kn.ev rfl) (bkeeps zc.below _ _ ((hB125.cell 0).trans rfl)) (bkeeps zc.below _ _ ((hB125.cell 1).trans rfl)) ⟨_, rfl, Below.refl _ _, optDef zβ rfl⟩
          refine ⟨⟨(true && ((varB p t) == (T.same ((lget (nrow p) 0).l) ((lget (nrow t) 0).l)))), .yes (c := ((varB p t) == (T.same ((lget (nrow p) 0).l) ((lget (nrow t) 0).l)))) (d := true) rfl (fun v w h => h), fun h w => optUndef h, fun zβ za zw zc => ?_⟩, ?_⟩
          · exact ld_24 rfl (zc.kn.ev rfl) (bkeeps zc.below _ _ ((hB123.cell 0).trans rfl)) (bkeeps zc.below _ _ ((hB123.cell 1).trans rfl)) ⟨_, rfl, Below.refl _ _, optDef zβ rfl⟩
          refine ⟨⟨(true && ((varB p t) == (T.same ((lget (nrow p) 0).l) ((lget (nrow t) 0).l)))), .yes (c := ((varB p t) == (T.same ((lget (nrow p) 0).l) ((lget (nrow t) 0).l)))) (d := true) rfl (fun v w h => h), fun h w => optUndef h, fun zβ za zw zc => ?_⟩, ?_⟩
          · exact wp_call (by kernel_rfl) rfl (hv2 ((show za.eval (.tmp 67) = za.tmps.getD 67 undef from rfl).trans (optVal (zc.dep 17 67 (by kernel_rfl)) rfl zβ)) ((show za.eval (.tmp 68) = za.tmps.getD 68 undef from rfl).trans (optVal (zc.dep 18 68 (by kernel_rfl)) rfl zβ))) (variant_any t p _ _ _ (IsT.below (bstep hb117 zc.below) ht) (IsT.below (bstep hb117 zc.below) hp) hzt hzp) (fun v w' h => ⟨v, rfl, h.2, optDef zβ h.1⟩)
          refine ⟨⟨(true && ((varB p t) == (T.same ((lget (nrow p) 0).l) ((lget (nrow t) 0).l)))), .yes (c := ((varB p t) == (T.same ((lget (nrow p) 0).l) ((lget (nrow t) 0).l)))) (d := true) rfl (fun v w h => h), fun h w => optUndef h, fun zβ za zw zc => ?_⟩, ?_⟩
          · exact eql_4 rfl ((show za.eval (.tmp 66) = za.tmps.getD 66 undef from rfl).trans (optVal (zc.dep 16 66 (by kernel_rfl)) rfl zβ)) ((show za.eval (.tmp 69) = za.tmps.getD 69 undef from rfl).trans (optVal (zc.dep 19 69 (by kernel_rfl)) rfl zβ)) ⟨_, rfl, Below.refl _ _, optDef zβ rfl⟩
          refine ⟨⟨true, .none rfl, fun h w => optUndef h, fun zβ za zw zc => ?_⟩, ?_⟩
          · exact wp_and rfl ((show za.eval (.tmp 63) = za.tmps.getD 63 undef from rfl).trans (optVal (zc.dep 13 63 (by kernel_rfl)) rfl rfl)) (fun hp => ((show za.eval (.tmp 70) = za.tmps.getD 70 undef from rfl).trans (optVal (zc.dep 20 70 (by kernel_rfl)) rfl (bMk zβ hp)))) ⟨_, rfl, Below.refl _ _, optDef zβ rfl⟩
          refine ⟨⟨true, .none rfl, fun h w => optUndef h, fun zβ za zw zc => ?_⟩, ?_⟩
          · exact wp_move rfl ((show za.eval (.tmp 71) = za.tmps.getD 71 undef from rfl).trans (optVal (zc.dep 21 71 (by kernel_rfl)) rfl rfl)) ⟨_, rfl, Below.refl _ _, optDef zβ rfl⟩
          refine ⟨⟨(true && (((varB p t) == (T.same ((lget (nrow p) 0).l) ((lget (nrow t) 0).l))) && ((varB p t) == (varB t p)))), .yes (c := (((varB p t) == (T.same ((lget (nrow p) 0).l) ((lget (nrow t) 0).l))) && ((varB p t) == (varB t p)))) (d := true) rfl (fun v w h => h), fun h w => optUndef h, fun zβ za zw zc => ?_⟩, ?_⟩
          · exact ld_24 rfl (zc.kn.ev rfl) (bkeeps zc.below _ _ ((hB123.cell 0).trans rfl)) (bkeeps zc.below _ _ ((hB123.cell 1).trans rfl)) ⟨_, rfl, Below.refl _ _, optDef zβ rfl⟩
          refine ⟨⟨(true && (((varB p t) == (T.same ((lget (nrow p) 0).l) ((lget (nrow t) 0).l))) && ((varB p t) == (varB t p)))), .yes (c := (((varB p t) == (T.same ((lget (nrow p) 0).l) ((lget (nrow t) 0).l))) && ((varB p t) == (varB t p)))) (d := true) rfl (fun v w h => h), fun h w => optUndef h, fun zβ za zw zc => ?_⟩, ?_⟩
          · exact ld_24 rfl (zc.kn.ev rfl) (bkeeps zc.below _ _ ((hB112.cell 0).trans rfl)) (bkeeps zc.below _ _ ((hB112.cell 1).trans rfl)) ⟨_, rfl, Below.refl _ _, optDef zβ rfl⟩
          refine ⟨⟨(true && (((varB p t) == (T.same ((lget (nrow p) 0).l) ((lget (nrow t) 0).l))) && ((varB p t) == (varB t p)))), .yes (c := (((varB p t) == (T.same ((lget (nrow p) 0).l) ((lget (nrow t) 0).l))) && ((varB p t) == (varB t p)))) (d := true) rfl (fun v w h => h), fun h w => optUndef h, fun zβ za zw zc => ?_⟩, ?_⟩
          · exact wp_call (by kernel_rfl) rfl (hv2 ((show za.eval (.tmp 73) = za.tmps.getD 73 undef from rfl).trans (optVal (zc.dep 23 73 (by kernel_rfl)) rfl zβ)) ((show za.eval (.tmp 74) = za.tmps.getD 74 undef from rfl).trans (optVal (zc.dep 24 74 (by kernel_rfl)) rfl zβ))) (variant_any p (p.mv (max (min n 1000) 0)) _ _ _ (IsT.below (bstep hb117 zc.below) hp) (IsT.below zc.below (InT.isT ho151)) hzp (by rw [T.mv_size]; exact hzp)) (fun v w' h => ⟨v, rfl, h.2, optDef zβ h.1⟩)
          refine ⟨⟨true, .none rfl, fun h w => optUndef h, fun zβ za zw zc => ?_⟩, ?_⟩
          · exact wp_and rfl ((show za.eval (.tmp 72) = za.tmps.getD 72 undef from rfl).trans (optVal (zc.dep 22 72 (by kernel_rfl)) rfl rfl)) (fun hp => ((show za.eval (.tmp 75) = za.tmps.getD 75 undef from rfl).trans (optVal (zc.dep 25 75 (by kernel_rfl)) rfl (bMk zβ hp)))) ⟨_, rfl, Below.refl _ _, optDef zβ rfl⟩
          refine ⟨⟨true, .none rfl, fun h w => optUndef h, fun zβ za zw zc => ?_⟩, ?_⟩
          · exact wp_move rfl ((show za.eval (.tmp 76) = za.tmps.getD 76 undef from rfl).trans (optVal (zc.dep 26 76 (by kernel_rfl)) rfl rfl)) ⟨_, rfl, Below.refl _ _, optDef zβ rfl⟩
          refine ⟨⟨(true && ((((varB p t) == (T.same ((lget (nrow p) 0).l) ((lget (nrow t) 0).l))) && ((varB p t) == (varB t p))) && (varB p (p.mv (max (min n 1000) 0))))), .yes (c := ((((varB p t) == (T.same ((lget (nrow p) 0).l) ((lget (nrow t) 0).l))) && ((varB p t) == (varB t p))) && (varB p (p.mv (max (min n 1000) 0))))) (d := true) rfl (fun v w h => h), fun h w => optUndef h, fun zβ za zw zc => ?_⟩, ?_⟩
          · exact wp_call (by kernel_rfl) rfl (hv0) (wakes_any _) (fun v w' h => ⟨v, rfl, h.2, optDef zβ h.1⟩)
          refine ⟨⟨true, .none rfl, fun h w => optUndef h, fun zβ za zw zc => ?_⟩, ?_⟩
          · exact wp_and rfl ((show za.eval (.tmp 77) = za.tmps.getD 77 undef from rfl).trans (optVal (zc.dep 27 77 (by kernel_rfl)) rfl rfl)) (fun hp => ((show za.eval (.tmp 78) = za.tmps.getD 78 undef from rfl).trans (optVal (zc.dep 28 78 (by kernel_rfl)) rfl (bMk zβ hp)))) ⟨_, rfl, Below.refl _ _, optDef zβ rfl⟩
          refine ⟨⟨true, .none rfl, fun h w => optUndef h, fun zβ za zw zc => ?_⟩, ?_⟩
          · exact wp_assign rfl ((show za.eval (.tmp 79) = za.tmps.getD 79 undef from rfl).trans (optVal (zc.dep 29 79 (by kernel_rfl)) rfl rfl)) ⟨_, rfl, Below.refl _ _, optDef zβ rfl⟩
          exact trivial
        · intro za w154 zh hb155 zu
          have zh := zh.cons (d := 6) (v := .bool ((((((varB p t) == (T.same ((lget (nrow p) 0).l) ((lget (nrow t) 0).l))) && ((varB p t) == (varB t p))) && (varB p (p.mv (max (min n 1000) 0)))) && true))) (optVal (zu 30 6 (by kernel_rfl)) rfl rfl)
          clear zu
          refine (show WE _ [(0, .agg #[.int .i64 p.f, .slice pa0 p.args.length pc0]), (1, .agg #[.int .i64 t.f, .slice ta0 t.args.length tc0]), (2, .int .i64 n), (3, .pointer (some ⟨g2, 0, none⟩)), (4, .pointer (some ⟨g9, 0, none⟩)), (6, .bool ((((((varB p t) == (T.same ((lget (nrow p) 0).l) ((lget (nrow t) 0).l))) && ((varB p t) == (varB t p))) && (varB p (p.mv (max (min n 1000) 0)))) && true))), (7, .slice oa37 1 oc38), (9, .slice oa61 1 oc62), (11, .pointer (some ⟨g92, 0, none⟩)), (19, .bool (((!(p.small 48)) || (!(t.small 48))))), (44, .bool false)] w154 _ .normal from ?_) za (zh.sub ⟨rfl, rfl, rfl, rfl, rfl, rfl, rfl, rfl, rfl, rfl, rfl, trivial⟩)
          refine WE.next ?_
          refine WC.ret ?_
          refine WE.ret1 rfl rfl ?_
          have hb156 : Below w.heap.size w w154 := (bstep hb117 hb155)
          have q1 := names_iff hps hts
          have q2 := varB_comm p t
          have q3 := names_var (m := (max (min n 1000) 0)) hps (by omega) (by omega)
          exact ⟨_, rfl, congrArg Value.bool (by rw [← q1, ← q2, q3]; simp), hb156⟩

end Go.Proofs.Ytcmfjnadjddboaa
