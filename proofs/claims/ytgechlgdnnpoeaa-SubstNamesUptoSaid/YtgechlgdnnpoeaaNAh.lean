/- Scopes (functions with labels) through which the run goes without a goto. -/
import Derived.Test.YtgechlgdnnpoeaaNAc
import Derived.Test.YtgechlgdnnpoeaaNAd
import Derived.Test.YtgechlgdnnpoeaaNAb
import Derived.Test.YtgechlgdnnpoeaaNAg
import Derived.Test.YtgechlgdnnpoeaaNAa
import Derived.WalkKit
import Derived.Test.YtgechlgdnnpoeaaNAe
import Derived.Test.YtgechlgdnnpoeaaNAf
import Derived.Scope

/- Variables moved: the program and the document. -/
namespace Go.Proofs.Ytgechlgdnnpoeaa
open Go.RowKit Go
set_option linter.unusedVariables false
set_option linter.unusedSimpArgs false

/-- A variable's number, moved, where that may be. -/
def mvOk (v m : Int) : Bool := if 0 ≤ m then decide (m ≤ 2147483647) && decide (v ≤ 2147483647 - m) else decide (0 ≤ v + m) && decide (v + m ≤ 2147483647)
def mvTo (v m : Int) : Int := if mvOk v m then v + m else v
def mvF (f m : Int) : Int := if f < 0 then -1 - mvTo (-1 - f) m else f
mutual
def T.mv (m : Int) : T → T
  | .mk f l => .mk (mvF f m) (T.mvL m l)
def T.mvL (m : Int) : List T → List T
  | [] => []
  | t :: r => t.mv m :: T.mvL m r
end
theorem T.mvL_eq (m : Int) : ∀ l : List T, T.mvL m l = l.map (T.mv m)
  | [] => rfl
  | t :: r => by rw [T.mvL, T.mvL_eq m r]; rfl
theorem mv_mk (m f : Int) (l : List T) : (T.mk f l).mv m = .mk (mvF f m) (l.map (T.mv m)) := by rw [T.mv, T.mvL_eq]
theorem take_mv {m : Int} {l : List T} {k : Nat} (h : k < l.length) : (l.take k).map (T.mv m) ++ [(tget l k).mv m] = (l.take (k + 1)).map (T.mv m) := by
  rw [List.take_succ_eq_append_getElem h, List.map_append, tget_lt h]; rfl
theorem mvOk_iff {v m : Int} : mvOk v m = true ↔ (0 ≤ m ∧ m ≤ 2147483647 ∧ v ≤ 2147483647 - m) ∨ (m < 0 ∧ 0 ≤ v + m ∧ v + m ≤ 2147483647) := by
  unfold mvOk
  split <;> simp <;> omega
theorem mvTo_range {v m : Int} (h0 : 0 ≤ v) (h1 : v ≤ 9223372036854775807) : 0 ≤ mvTo v m ∧ mvTo v m ≤ 9223372036854775807 := by
  unfold mvTo
  split
  · have := mvOk_iff.1 ‹_›; omega
  · omega
theorem mvF_i64 {f m : Int} (h : I64 f) : I64 (mvF f m) := by
  unfold I64 at *
  unfold mvF
  split
  · have := mvTo_range (v := -1 - f) (m := m) (by omega) (by omega); omega
  · exact h
theorem mvF_neg {f m : Int} (h : f < 0) : mvF f m = -1 - mvTo (-1 - f) m := by unfold mvF; rw [if_pos h]
theorem mvF_pos {f m : Int} (h : ¬ f < 0) : mvF f m = f := by unfold mvF; rw [if_neg h]
theorem mvTo_yes {v m : Int} (h : mvOk v m = true) : mvTo v m = v + m := by unfold mvTo; rw [if_pos h]
theorem mvTo_no {v m : Int} (h : ¬ mvOk v m = true) : mvTo v m = v := by unfold mvTo; rw [if_neg h]
set_option maxRecDepth 100000 in
theorem move1_any (v m : Int) (w : World) (g : Nat) (h0 : 0 ≤ v) (h1 : v ≤ 9223372036854775807) (hm : I64 m) (hg : Blk w g 3 #[.int .i64 m]) : Calls Try.prog 52 #[.int .i64 v, .pointer (some ⟨g, 0, none⟩)] w (Ret fun v' w' => v' = .int .i64 (mvTo v m) ∧ Below w.heap.size w w') := by
  have hgl := hg.lt
  have hm' := hm
  unfold I64 at hm
  refine Calls.walk (l := [.int .i64 v, .pointer (some ⟨g, 0, none⟩)]) Try.func52 rfl (by kernel_rfl) ?_
  refine WC.sub (K' := [(0, .int .i64 v), (1, .pointer (some ⟨g, 0, none⟩))]) ⟨rfl, rfl, trivial⟩ ?_
  refine WC.seq ?_
  refine WC.region ?_
  refine WL.val (.int .i64 0) rfl rfl rfl (fun za zC zh zk => wp_assign rfl (zh.ev rfl) zk) ?_
  refine WL.nil (WE.sub (K' := [(0, .int .i64 v), (1, .pointer (some ⟨g, 0, none⟩)), (3, .int .i64 0)]) ⟨rfl, rfl, rfl, trivial⟩ ?_)
  refine WE.next ?_
  refine WC.seq ?_
  refine WC.block ?_
  refine WC.seq ?_
  refine WC.region ?_
  refine WL.val (.int .i64 m) rfl rfl rfl (fun za zC zh zk => ld_3 rfl (zh.ev rfl) ((hg.cell 0).trans rfl) zk) ?_
  refine WL.val (.bool ((decide ((0 : Int) ≤ (m : Int))))) rfl rfl rfl (fun za zC zh zk => geq_3 rfl (zh.ev rfl) (zh.ev rfl) zk) ?_
  refine WL.val (.bool ((decide ((0 : Int) ≤ (m : Int))))) rfl rfl rfl (fun za zC zh zk => wp_move rfl (zh.ev rfl) zk) ?_
  refine bool_split ((decide ((0 : Int) ≤ (m : Int)))) (fun h1 => ?_) (fun h1 => ?_)
  · refine WL.sub (K' := [(0, .int .i64 v), (1, .pointer (some ⟨g, 0, none⟩)), (3, .int .i64 0), (5, .int .i64 m), (6, .bool ((decide ((0 : Int) ≤ (m : Int))))), (7, .bool true)]) ⟨rfl, rfl, rfl, rfl, rfl, (by exact congrArg (fun z => some (Value.bool z)) h1), trivial⟩ ?_
    have h1 : (0 : Int) ≤ (m : Int) := by simpa using h1
    refine WL.want (d := 7) rfl rfl rfl ?_
    refine WL.val (.int .i64 m) rfl rfl rfl (fun za zC zh zk => ld_3 rfl (zh.ev rfl) ((hg.cell 0).trans rfl) zk) ?_
    refine WL.want (d := 7) rfl rfl rfl ?_
    refine WL.val (.bool ((decide ((2147483647 : Int) < (m : Int))))) rfl rfl rfl (fun za zC zh zk => gtr_3 rfl (zh.ev rfl) (zh.ev rfl) zk) ?_
    refine WL.want (d := 7) rfl rfl rfl ?_
    refine WL.val (.bool ((decide ((2147483647 : Int) < (m : Int))))) rfl rfl rfl (fun za zC zh zk => wp_move rfl (zh.ev rfl) zk) ?_
    refine bool_split ((decide ((2147483647 : Int) < (m : Int)))) (fun h2 => ?_) (fun h2 => ?_)
    · refine WL.sub (K' := [(0, .int .i64 v), (1, .pointer (some ⟨g, 0, none⟩)), (3, .int .i64 0), (5, .int .i64 m), (6, .bool ((decide ((0 : Int) ≤ (m : Int))))), (7, .bool true), (8, .int .i64 m), (9, .bool ((decide ((2147483647 : Int) < (m : Int))))), (10, .bool true)]) ⟨rfl, rfl, rfl, rfl, rfl, rfl, rfl, rfl, (by exact congrArg (fun z => some (Value.bool z)) h2), trivial⟩ ?_
      have h2 : (2147483647 : Int) < (m : Int) := by simpa using h2
      refine WL.skip (d := 10) rfl rfl rfl rfl rfl ?_
      refine WL.skip (d := 10) rfl rfl rfl rfl rfl ?_
      refine WL.skip (d := 10) rfl rfl rfl rfl rfl ?_
      refine WL.skip (d := 10) rfl rfl rfl rfl rfl ?_
      refine WL.want (d := 7) rfl rfl rfl ?_
      refine WL.val (.bool true) rfl rfl rfl (fun za zC zh zk => wp_pickT rfl (zh.ev rfl) (zh.ev rfl) zk) ?_
      refine WL.val (.bool true) rfl rfl rfl (fun za zC zh zk => wp_pickT rfl (zh.ev rfl) (zh.ev rfl) zk) ?_
      refine WL.val (.bool true) rfl rfl rfl (fun za zC zh zk => wp_assign rfl (zh.ev rfl) zk) ?_
      refine WL.nil (WE.sub (K' := [(0, .int .i64 v), (1, .pointer (some ⟨g, 0, none⟩)), (3, .int .i64 0), (4, .bool true)]) ⟨rfl, rfl, rfl, rfl, trivial⟩ ?_)
      refine WE.next ?_
      refine WC.condT rfl rfl ?_
      refine WC.seq ?_
      refine WC.region ?_
      refine WL.val (.int .i64 v) rfl rfl rfl (fun za zC zh zk => wp_move rfl (zh.ev rfl) zk) ?_
      refine WL.val (.int .i64 v) rfl rfl rfl (fun za zC zh zk => wp_assign rfl (zh.ev rfl) zk) ?_
      refine WL.nil (WE.sub (K' := [(0, .int .i64 v), (1, .pointer (some ⟨g, 0, none⟩)), (3, .int .i64 v), (4, .bool true)]) ⟨rfl, rfl, rfl, rfl, trivial⟩ ?_)
      refine WE.next ?_
      refine WC.ret ?_
      refine WE.blockRet ?_
      refine WE.thenRet ?_
      refine WE.ret1 rfl rfl ?_
      exact ⟨_, rfl, congrArg (Value.int .i64) (by rw [mvTo_no (fun h => by have z := mvOk_iff.1 h; omega)]), (Below.refl _ _)⟩
    · refine WL.sub (K' := [(0, .int .i64 v), (1, .pointer (some ⟨g, 0, none⟩)), (3, .int .i64 0), (5, .int .i64 m), (6, .bool ((decide ((0 : Int) ≤ (m : Int))))), (7, .bool true), (8, .int .i64 m), (9, .bool ((decide ((2147483647 : Int) < (m : Int))))), (10, .bool false)]) ⟨rfl, rfl, rfl, rfl, rfl, rfl, rfl, rfl, (by exact congrArg (fun z => some (Value.bool z)) h2), trivial⟩ ?_
      have h2 : ¬ ((2147483647 : Int) < (m : Int)) := by simpa using h2
      refine WL.want (d := 10) rfl rfl rfl ?_
      refine WL.val (.int .i64 v) rfl rfl rfl (fun za zC zh zk => wp_move rfl (zh.ev rfl) zk) ?_
      refine WL.want (d := 10) rfl rfl rfl ?_
      refine WL.val (.int .i64 m) rfl rfl rfl (fun za zC zh zk => ld_3 rfl (zh.ev rfl) ((hg.cell 0).trans rfl) zk) ?_
      refine WL.want (d := 10) rfl rfl rfl ?_
      refine WL.val (.int .i64 ((2147483647 - m))) rfl rfl rfl (fun za zC zh zk => subb_3 rfl (zh.ev rfl) (zh.ev rfl) (wrap_eq (by omega) (by omega) (by omega)) zk) ?_
      refine WL.want (d := 10) rfl rfl rfl ?_
      refine WL.val (.bool ((decide (((2147483647 - m) : Int) < (v : Int))))) rfl rfl rfl (fun za zC zh zk => gtr_3 rfl (zh.ev rfl) (zh.ev rfl) zk) ?_
      refine WL.want (d := 7) rfl rfl rfl ?_
      refine WL.val (.bool ((decide (((2147483647 - m) : Int) < (v : Int))))) rfl rfl rfl (fun za zC zh zk => wp_pickF rfl (zh.ev rfl) (zh.ev rfl) zk) ?_
      refine WL.val (.bool ((decide (((2147483647 - m) : Int) < (v : Int))))) rfl rfl rfl (fun za zC zh zk => wp_pickT rfl (zh.ev rfl) (zh.ev rfl) zk) ?_
      refine WL.val (.bool ((decide (((2147483647 - m) : Int) < (v : Int))))) rfl rfl rfl (fun za zC zh zk => wp_assign rfl (zh.ev rfl) zk) ?_
      refine WL.nil (WE.sub (K' := [(0, .int .i64 v), (1, .pointer (some ⟨g, 0, none⟩)), (3, .int .i64 0), (4, .bool ((decide (((2147483647 - m) : Int) < (v : Int)))))]) ⟨rfl, rfl, rfl, rfl, trivial⟩ ?_)
      refine WE.next ?_
      refine WC.cond rfl (fun h3 => ?_) (fun h3 => ?_)
      · have h3 : ((2147483647 - m) : Int) < (v : Int) := by simpa using h3
        refine WC.seq ?_
        refine WC.region ?_
        refine WL.val (.int .i64 v) rfl rfl rfl (fun za zC zh zk => wp_move rfl (zh.ev rfl) zk) ?_
        refine WL.val (.int .i64 v) rfl rfl rfl (fun za zC zh zk => wp_assign rfl (zh.ev rfl) zk) ?_
        refine WL.nil (WE.sub (K' := [(0, .int .i64 v), (1, .pointer (some ⟨g, 0, none⟩)), (3, .int .i64 v), (4, .bool ((decide (((2147483647 - m) : Int) < (v : Int)))))]) ⟨rfl, rfl, rfl, rfl, trivial⟩ ?_)
        refine WE.next ?_
        refine WC.ret ?_
        refine WE.blockRet ?_
        refine WE.thenRet ?_
        refine WE.ret1 rfl rfl ?_
        exact ⟨_, rfl, congrArg (Value.int .i64) (by rw [mvTo_no (fun h => by have z := mvOk_iff.1 h; omega)]), (Below.refl _ _)⟩
      · have h3 : ¬ (((2147483647 - m) : Int) < (v : Int)) := by simpa using h3
        refine WC.seq ?_
        refine WC.region ?_
        refine WL.val (.int .i64 m) rfl rfl rfl (fun za zC zh zk => ld_3 rfl (zh.ev rfl) ((hg.cell 0).trans rfl) zk) ?_
        refine WL.val (.bool ((decide ((m : Int) < (0 : Int))))) rfl rfl rfl (fun za zC zh zk => lss_3 rfl (zh.ev rfl) (zh.ev rfl) zk) ?_
        refine WL.val (.bool ((decide ((m : Int) < (0 : Int))))) rfl rfl rfl (fun za zC zh zk => wp_move rfl (zh.ev rfl) zk) ?_
        refine bool_split ((decide ((m : Int) < (0 : Int)))) (fun h4 => ?_) (fun h4 => ?_)
        · refine WL.sub (K' := [(0, .int .i64 v), (1, .pointer (some ⟨g, 0, none⟩)), (3, .int .i64 0), (4, .bool ((decide (((2147483647 - m) : Int) < (v : Int))))), (19, .int .i64 m), (20, .bool ((decide ((m : Int) < (0 : Int))))), (21, .bool true)]) ⟨rfl, rfl, rfl, rfl, rfl, rfl, (by exact congrArg (fun z => some (Value.bool z)) h4), trivial⟩ ?_
          have h4 : (m : Int) < (0 : Int) := by simpa using h4
          refine WL.want (d := 21) rfl rfl rfl ?_
          refine WL.val (.int .i64 v) rfl rfl rfl (fun za zC zh zk => wp_move rfl (zh.ev rfl) zk) ?_
          refine WL.want (d := 21) rfl rfl rfl ?_
          refine WL.val (.int .i64 m) rfl rfl rfl (fun za zC zh zk => ld_3 rfl (zh.ev rfl) ((hg.cell 0).trans rfl) zk) ?_
          refine WL.want (d := 21) rfl rfl rfl ?_
          refine WL.val (.int .i64 ((v + m))) rfl rfl rfl (fun za zC zh zk => addb_3 rfl (zh.ev rfl) (zh.ev rfl) (wrap_eq (by omega) (by omega) (by omega)) zk) ?_
          refine WL.want (d := 21) rfl rfl rfl ?_
          refine WL.val (.bool ((decide (((v + m) : Int) < (0 : Int))))) rfl rfl rfl (fun za zC zh zk => lss_3 rfl (zh.ev rfl) (zh.ev rfl) zk) ?_
          refine WL.want (d := 21) rfl rfl rfl ?_
          refine WL.val (.bool ((decide (((v + m) : Int) < (0 : Int))))) rfl rfl rfl (fun za zC zh zk => wp_move rfl (zh.ev rfl) zk) ?_
          refine bool_split ((decide (((v + m) : Int) < (0 : Int)))) (fun h5 => ?_) (fun h5 => ?_)
          · refine WL.sub (K' := [(0, .int .i64 v), (1, .pointer (some ⟨g, 0, none⟩)), (3, .int .i64 0), (4, .bool ((decide (((2147483647 - m) : Int) < (v : Int))))), (19, .int .i64 m), (20, .bool ((decide ((m : Int) < (0 : Int))))), (21, .bool true), (22, .int .i64 v), (23, .int .i64 m), (24, .int .i64 ((v + m))), (25, .bool ((decide (((v + m) : Int) < (0 : Int))))), (26, .bool true)]) ⟨rfl, rfl, rfl, rfl, rfl, rfl, rfl, rfl, rfl, rfl, rfl, (by exact congrArg (fun z => some (Value.bool z)) h5), trivial⟩ ?_
            have h5 : ((v + m) : Int) < (0 : Int) := by simpa using h5
            refine WL.skip (d := 26) rfl rfl rfl rfl rfl ?_
            refine WL.skip (d := 26) rfl rfl rfl rfl rfl ?_
            refine WL.skip (d := 26) rfl rfl rfl rfl rfl ?_
            refine WL.skip (d := 26) rfl rfl rfl rfl rfl ?_
            refine WL.want (d := 21) rfl rfl rfl ?_
            refine WL.val (.bool true) rfl rfl rfl (fun za zC zh zk => wp_pickT rfl (zh.ev rfl) (zh.ev rfl) zk) ?_
            refine WL.val (.bool true) rfl rfl rfl (fun za zC zh zk => wp_pickT rfl (zh.ev rfl) (zh.ev rfl) zk) ?_
            refine WL.val (.bool true) rfl rfl rfl (fun za zC zh zk => wp_assign rfl (zh.ev rfl) zk) ?_
            refine WL.nil (WE.sub (K' := [(0, .int .i64 v), (1, .pointer (some ⟨g, 0, none⟩)), (3, .int .i64 0), (4, .bool ((decide (((2147483647 - m) : Int) < (v : Int))))), (18, .bool true)]) ⟨rfl, rfl, rfl, rfl, rfl, trivial⟩ ?_)
            refine WE.next ?_
            refine WC.condT rfl rfl ?_
            refine WC.seq ?_
            refine WC.region ?_
            refine WL.val (.int .i64 v) rfl rfl rfl (fun za zC zh zk => wp_move rfl (zh.ev rfl) zk) ?_
            refine WL.val (.int .i64 v) rfl rfl rfl (fun za zC zh zk => wp_assign rfl (zh.ev rfl) zk) ?_
            refine WL.nil (WE.sub (K' := [(0, .int .i64 v), (1, .pointer (some ⟨g, 0, none⟩)), (3, .int .i64 v), (4, .bool ((decide (((2147483647 - m) : Int) < (v : Int))))), (18, .bool true)]) ⟨rfl, rfl, rfl, rfl, rfl, trivial⟩ ?_)
            refine WE.next ?_
            refine WC.ret ?_
            refine WE.blockRet ?_
            refine WE.thenRet ?_
            refine WE.ret1 rfl rfl ?_
            exact ⟨_, rfl, congrArg (Value.int .i64) (by rw [mvTo_no (fun h => by have z := mvOk_iff.1 h; omega)]), (Below.refl _ _)⟩
          · refine WL.sub (K' := [(0, .int .i64 v), (1, .pointer (some ⟨g, 0, none⟩)), (3, .int .i64 0), (4, .bool ((decide (((2147483647 - m) : Int) < (v : Int))))), (19, .int .i64 m), (20, .bool ((decide ((m : Int) < (0 : Int))))), (21, .bool true), (22, .int .i64 v), (23, .int .i64 m), (24, .int .i64 ((v + m))), (25, .bool ((decide (((v + m) : Int) < (0 : Int))))), (26, .bool false)]) ⟨rfl, rfl, rfl, rfl, rfl, rfl, rfl, rfl, rfl, rfl, rfl, (by exact congrArg (fun z => some (Value.bool z)) h5), trivial⟩ ?_
            have h5 : ¬ (((v + m) : Int) < (0 : Int)) := by simpa using h5
            refine WL.want (d := 26) rfl rfl rfl ?_
            refine WL.val (.int .i64 v) rfl rfl rfl (fun za zC zh zk => wp_move rfl (zh.ev rfl) zk) ?_
            refine WL.want (d := 26) rfl rfl rfl ?_
            refine WL.val (.int .i64 m) rfl rfl rfl (fun za zC zh zk => ld_3 rfl (zh.ev rfl) ((hg.cell 0).trans rfl) zk) ?_
            refine WL.want (d := 26) rfl rfl rfl ?_
            refine WL.val (.int .i64 ((v + m))) rfl rfl rfl (fun za zC zh zk => addb_3 rfl (zh.ev rfl) (zh.ev rfl) (wrap_eq (by omega) (by omega) (by omega)) zk) ?_
            refine WL.want (d := 26) rfl rfl rfl ?_
            refine WL.val (.bool ((decide ((2147483647 : Int) < ((v + m) : Int))))) rfl rfl rfl (fun za zC zh zk => gtr_3 rfl (zh.ev rfl) (zh.ev rfl) zk) ?_
            refine WL.want (d := 21) rfl rfl rfl ?_
            refine WL.val (.bool ((decide ((2147483647 : Int) < ((v + m) : Int))))) rfl rfl rfl (fun za zC zh zk => wp_pickF rfl (zh.ev rfl) (zh.ev rfl) zk) ?_
            refine WL.val (.bool ((decide ((2147483647 : Int) < ((v + m) : Int))))) rfl rfl rfl (fun za zC zh zk => wp_pickT rfl (zh.ev rfl) (zh.ev rfl) zk) ?_
            refine WL.val (.bool ((decide ((2147483647 : Int) < ((v + m) : Int))))) rfl rfl rfl (fun za zC zh zk => wp_assign rfl (zh.ev rfl) zk) ?_
            refine WL.nil (WE.sub (K' := [(0, .int .i64 v), (1, .pointer (some ⟨g, 0, none⟩)), (3, .int .i64 0), (4, .bool ((decide (((2147483647 - m) : Int) < (v : Int))))), (18, .bool ((decide ((2147483647 : Int) < ((v + m) : Int)))))]) ⟨rfl, rfl, rfl, rfl, rfl, trivial⟩ ?_)
            refine WE.next ?_
            refine WC.cond rfl (fun h6 => ?_) (fun h6 => ?_)
            · have h6 : (2147483647 : Int) < ((v + m) : Int) := by simpa using h6
              refine WC.seq ?_
              refine WC.region ?_
              refine WL.val (.int .i64 v) rfl rfl rfl (fun za zC zh zk => wp_move rfl (zh.ev rfl) zk) ?_
              refine WL.val (.int .i64 v) rfl rfl rfl (fun za zC zh zk => wp_assign rfl (zh.ev rfl) zk) ?_
              refine WL.nil (WE.sub (K' := [(0, .int .i64 v), (1, .pointer (some ⟨g, 0, none⟩)), (3, .int .i64 v), (4, .bool ((decide (((2147483647 - m) : Int) < (v : Int))))), (18, .bool ((decide ((2147483647 : Int) < ((v + m) : Int)))))]) ⟨rfl, rfl, rfl, rfl, rfl, trivial⟩ ?_)
              refine WE.next ?_
              refine WC.ret ?_
              refine WE.blockRet ?_
              refine WE.thenRet ?_
              refine WE.ret1 rfl rfl ?_
              exact ⟨_, rfl, congrArg (Value.int .i64) (by rw [mvTo_no (fun h => by have z := mvOk_iff.1 h; omega)]), (Below.refl _ _)⟩
            · have h6 : ¬ ((2147483647 : Int) < ((v + m) : Int)) := by simpa using h6
              refine WC.skip ?_
              refine WE.blockNormal ?_
              refine WE.next ?_
              refine WC.seq ?_
              refine WC.region ?_
              refine WL.val (.int .i64 v) rfl rfl rfl (fun za zC zh zk => wp_move rfl (zh.ev rfl) zk) ?_
              refine WL.val (.int .i64 m) rfl rfl rfl (fun za zC zh zk => ld_3 rfl (zh.ev rfl) ((hg.cell 0).trans rfl) zk) ?_
              refine WL.val (.int .i64 ((v + m))) rfl rfl rfl (fun za zC zh zk => addb_3 rfl (zh.ev rfl) (zh.ev rfl) (wrap_eq (by omega) (by omega) (by omega)) zk) ?_
              refine WL.val (.int .i64 ((v + m))) rfl rfl rfl (fun za zC zh zk => wp_assign rfl (zh.ev rfl) zk) ?_
              refine WL.nil (WE.sub (K' := [(0, .int .i64 v), (1, .pointer (some ⟨g, 0, none⟩)), (3, .int .i64 ((v + m))), (4, .bool ((decide (((2147483647 - m) : Int) < (v : Int))))), (18, .bool ((decide ((2147483647 : Int) < ((v + m) : Int)))))]) ⟨rfl, rfl, rfl, rfl, rfl, trivial⟩ ?_)
              refine WE.next ?_
              refine WC.ret ?_
              refine WE.ret1 rfl rfl ?_
              exact ⟨_, rfl, congrArg (Value.int .i64) (by rw [mvTo_yes (mvOk_iff.2 (by omega))]), (Below.refl _ _)⟩
        · refine WL.sub (K' := [(0, .int .i64 v), (1, .pointer (some ⟨g, 0, none⟩)), (3, .int .i64 0), (4, .bool ((decide (((2147483647 - m) : Int) < (v : Int))))), (19, .int .i64 m), (20, .bool ((decide ((m : Int) < (0 : Int))))), (21, .bool false)]) ⟨rfl, rfl, rfl, rfl, rfl, rfl, (by exact congrArg (fun z => some (Value.bool z)) h4), trivial⟩ ?_
          have h4 : ¬ ((m : Int) < (0 : Int)) := by simpa using h4
          refine WL.skip (d := 21) rfl rfl rfl rfl rfl ?_
          refine WL.skip (d := 21) rfl rfl rfl rfl rfl ?_
          refine WL.skip (d := 21) rfl rfl rfl rfl rfl ?_
          refine WL.skip (d := 21) rfl rfl rfl rfl rfl ?_
          refine WL.skip (d := 21) rfl rfl rfl rfl rfl ?_
          refine WL.skipU (d := 26) rfl rfl rfl rfl ?_
          refine WL.skipU (d := 26) rfl rfl rfl rfl ?_
          refine WL.skipU (d := 26) rfl rfl rfl rfl ?_
          refine WL.skipU (d := 26) rfl rfl rfl rfl ?_
          refine WL.skip (d := 21) rfl rfl rfl rfl rfl ?_
          refine WL.val (.bool false) rfl rfl rfl (fun za zC zh zk => wp_pickF rfl (zh.ev rfl) (zh.ev rfl) zk) ?_
          refine WL.val (.bool false) rfl rfl rfl (fun za zC zh zk => wp_assign rfl (zh.ev rfl) zk) ?_
          refine WL.nil (WE.sub (K' := [(0, .int .i64 v), (1, .pointer (some ⟨g, 0, none⟩)), (3, .int .i64 0), (4, .bool ((decide (((2147483647 - m) : Int) < (v : Int))))), (18, .bool false)]) ⟨rfl, rfl, rfl, rfl, rfl, trivial⟩ ?_)
          refine WE.next ?_
          refine WC.condF rfl rfl ?_
          refine WC.skip ?_
          refine WE.blockNormal ?_
          refine WE.next ?_
          refine WC.seq ?_
          refine WC.region ?_
          refine WL.val (.int .i64 v) rfl rfl rfl (fun za zC zh zk => wp_move rfl (zh.ev rfl) zk) ?_
          refine WL.val (.int .i64 m) rfl rfl rfl (fun za zC zh zk => ld_3 rfl (zh.ev rfl) ((hg.cell 0).trans rfl) zk) ?_
          refine WL.val (.int .i64 ((v + m))) rfl rfl rfl (fun za zC zh zk => addb_3 rfl (zh.ev rfl) (zh.ev rfl) (wrap_eq (by omega) (by omega) (by omega)) zk) ?_
          refine WL.val (.int .i64 ((v + m))) rfl rfl rfl (fun za zC zh zk => wp_assign rfl (zh.ev rfl) zk) ?_
          refine WL.nil (WE.sub (K' := [(0, .int .i64 v), (1, .pointer (some ⟨g, 0, none⟩)), (3, .int .i64 ((v + m))), (4, .bool ((decide (((2147483647 - m) : Int) < (v : Int))))), (18, .bool false)]) ⟨rfl, rfl, rfl, rfl, rfl, trivial⟩ ?_)
          refine WE.next ?_
          refine WC.ret ?_
          refine WE.ret1 rfl rfl ?_
          exact ⟨_, rfl, congrArg (Value.int .i64) (by rw [mvTo_yes (mvOk_iff.2 (by omega))]), (Below.refl _ _)⟩
  · refine WL.sub (K' := [(0, .int .i64 v), (1, .pointer (some ⟨g, 0, none⟩)), (3, .int .i64 0), (5, .int .i64 m), (6, .bool ((decide ((0 : Int) ≤ (m : Int))))), (7, .bool false)]) ⟨rfl, rfl, rfl, rfl, rfl, (by exact congrArg (fun z => some (Value.bool z)) h1), trivial⟩ ?_
    have h1 : ¬ ((0 : Int) ≤ (m : Int)) := by simpa using h1
    refine WL.skip (d := 7) rfl rfl rfl rfl rfl ?_
    refine WL.skip (d := 7) rfl rfl rfl rfl rfl ?_
    refine WL.skip (d := 7) rfl rfl rfl rfl rfl ?_
    refine WL.skipU (d := 10) rfl rfl rfl rfl ?_
    refine WL.skipU (d := 10) rfl rfl rfl rfl ?_
    refine WL.skipU (d := 10) rfl rfl rfl rfl ?_
    refine WL.skipU (d := 10) rfl rfl rfl rfl ?_
    refine WL.skip (d := 7) rfl rfl rfl rfl rfl ?_
    refine WL.val (.bool false) rfl rfl rfl (fun za zC zh zk => wp_pickF rfl (zh.ev rfl) (zh.ev rfl) zk) ?_
    refine WL.val (.bool false) rfl rfl rfl (fun za zC zh zk => wp_assign rfl (zh.ev rfl) zk) ?_
    refine WL.nil (WE.sub (K' := [(0, .int .i64 v), (1, .pointer (some ⟨g, 0, none⟩)), (3, .int .i64 0), (4, .bool false)]) ⟨rfl, rfl, rfl, rfl, trivial⟩ ?_)
    refine WE.next ?_
    refine WC.condF rfl rfl ?_
    refine WC.seq ?_
    refine WC.region ?_
    refine WL.val (.int .i64 m) rfl rfl rfl (fun za zC zh zk => ld_3 rfl (zh.ev rfl) ((hg.cell 0).trans rfl) zk) ?_
    refine WL.val (.bool ((decide ((m : Int) < (0 : Int))))) rfl rfl rfl (fun za zC zh zk => lss_3 rfl (zh.ev rfl) (zh.ev rfl) zk) ?_
    refine WL.val (.bool ((decide ((m : Int) < (0 : Int))))) rfl rfl rfl (fun za zC zh zk => wp_move rfl (zh.ev rfl) zk) ?_
    refine bool_split ((decide ((m : Int) < (0 : Int)))) (fun h7 => ?_) (fun h7 => ?_)
    · refine WL.sub (K' := [(0, .int .i64 v), (1, .pointer (some ⟨g, 0, none⟩)), (3, .int .i64 0), (4, .bool false), (19, .int .i64 m), (20, .bool ((decide ((m : Int) < (0 : Int))))), (21, .bool true)]) ⟨rfl, rfl, rfl, rfl, rfl, rfl, (by exact congrArg (fun z => some (Value.bool z)) h7), trivial⟩ ?_
      have h7 : (m : Int) < (0 : Int) := by simpa using h7
      refine WL.want (d := 21) rfl rfl rfl ?_
      refine WL.val (.int .i64 v) rfl rfl rfl (fun za zC zh zk => wp_move rfl (zh.ev rfl) zk) ?_
      refine WL.want (d := 21) rfl rfl rfl ?_
      refine WL.val (.int .i64 m) rfl rfl rfl (fun za zC zh zk => ld_3 rfl (zh.ev rfl) ((hg.cell 0).trans rfl) zk) ?_
      refine WL.want (d := 21) rfl rfl rfl ?_
      refine WL.val (.int .i64 ((v + m))) rfl rfl rfl (fun za zC zh zk => addb_3 rfl (zh.ev rfl) (zh.ev rfl) (wrap_eq (by omega) (by omega) (by omega)) zk) ?_
      refine WL.want (d := 21) rfl rfl rfl ?_
      refine WL.val (.bool ((decide (((v + m) : Int) < (0 : Int))))) rfl rfl rfl (fun za zC zh zk => lss_3 rfl (zh.ev rfl) (zh.ev rfl) zk) ?_
      refine WL.want (d := 21) rfl rfl rfl ?_
      refine WL.val (.bool ((decide (((v + m) : Int) < (0 : Int))))) rfl rfl rfl (fun za zC zh zk => wp_move rfl (zh.ev rfl) zk) ?_
      refine bool_split ((decide (((v + m) : Int) < (0 : Int)))) (fun h8 => ?_) (fun h8 => ?_)
      · refine WL.sub (K' := [(0, .int .i64 v), (1, .pointer (some ⟨g, 0, none⟩)), (3, .int .i64 0), (4, .bool false), (19, .int .i64 m), (20, .bool ((decide ((m : Int) < (0 : Int))))), (21, .bool true), (22, .int .i64 v), (23, .int .i64 m), (24, .int .i64 ((v + m))), (25, .bool ((decide (((v + m) : Int) < (0 : Int))))), (26, .bool true)]) ⟨rfl, rfl, rfl, rfl, rfl, rfl, rfl, rfl, rfl, rfl, rfl, (by exact congrArg (fun z => some (Value.bool z)) h8), trivial⟩ ?_
        have h8 : ((v + m) : Int) < (0 : Int) := by simpa using h8
        refine WL.skip (d := 26) rfl rfl rfl rfl rfl ?_
        refine WL.skip (d := 26) rfl rfl rfl rfl rfl ?_
        refine WL.skip (d := 26) rfl rfl rfl rfl rfl ?_
        refine WL.skip (d := 26) rfl rfl rfl rfl rfl ?_
        refine WL.want (d := 21) rfl rfl rfl ?_
        refine WL.val (.bool true) rfl rfl rfl (fun za zC zh zk => wp_pickT rfl (zh.ev rfl) (zh.ev rfl) zk) ?_
        refine WL.val (.bool true) rfl rfl rfl (fun za zC zh zk => wp_pickT rfl (zh.ev rfl) (zh.ev rfl) zk) ?_
        refine WL.val (.bool true) rfl rfl rfl (fun za zC zh zk => wp_assign rfl (zh.ev rfl) zk) ?_
        refine WL.nil (WE.sub (K' := [(0, .int .i64 v), (1, .pointer (some ⟨g, 0, none⟩)), (3, .int .i64 0), (4, .bool false), (18, .bool true)]) ⟨rfl, rfl, rfl, rfl, rfl, trivial⟩ ?_)
        refine WE.next ?_
        refine WC.condT rfl rfl ?_
        refine WC.seq ?_
        refine WC.region ?_
        refine WL.val (.int .i64 v) rfl rfl rfl (fun za zC zh zk => wp_move rfl (zh.ev rfl) zk) ?_
        refine WL.val (.int .i64 v) rfl rfl rfl (fun za zC zh zk => wp_assign rfl (zh.ev rfl) zk) ?_
        refine WL.nil (WE.sub (K' := [(0, .int .i64 v), (1, .pointer (some ⟨g, 0, none⟩)), (3, .int .i64 v), (4, .bool false), (18, .bool true)]) ⟨rfl, rfl, rfl, rfl, rfl, trivial⟩ ?_)
        refine WE.next ?_
        refine WC.ret ?_
        refine WE.blockRet ?_
        refine WE.thenRet ?_
        refine WE.ret1 rfl rfl ?_
        exact ⟨_, rfl, congrArg (Value.int .i64) (by rw [mvTo_no (fun h => by have z := mvOk_iff.1 h; omega)]), (Below.refl _ _)⟩
      · refine WL.sub (K' := [(0, .int .i64 v), (1, .pointer (some ⟨g, 0, none⟩)), (3, .int .i64 0), (4, .bool false), (19, .int .i64 m), (20, .bool ((decide ((m : Int) < (0 : Int))))), (21, .bool true), (22, .int .i64 v), (23, .int .i64 m), (24, .int .i64 ((v + m))), (25, .bool ((decide (((v + m) : Int) < (0 : Int))))), (26, .bool false)]) ⟨rfl, rfl, rfl, rfl, rfl, rfl, rfl, rfl, rfl, rfl, rfl, (by exact congrArg (fun z => some (Value.bool z)) h8), trivial⟩ ?_
        have h8 : ¬ (((v + m) : Int) < (0 : Int)) := by simpa using h8
        refine WL.want (d := 26) rfl rfl rfl ?_
        refine WL.val (.int .i64 v) rfl rfl rfl (fun za zC zh zk => wp_move rfl (zh.ev rfl) zk) ?_
        refine WL.want (d := 26) rfl rfl rfl ?_
        refine WL.val (.int .i64 m) rfl rfl rfl (fun za zC zh zk => ld_3 rfl (zh.ev rfl) ((hg.cell 0).trans rfl) zk) ?_
        refine WL.want (d := 26) rfl rfl rfl ?_
        refine WL.val (.int .i64 ((v + m))) rfl rfl rfl (fun za zC zh zk => addb_3 rfl (zh.ev rfl) (zh.ev rfl) (wrap_eq (by omega) (by omega) (by omega)) zk) ?_
        refine WL.want (d := 26) rfl rfl rfl ?_
        refine WL.val (.bool ((decide ((2147483647 : Int) < ((v + m) : Int))))) rfl rfl rfl (fun za zC zh zk => gtr_3 rfl (zh.ev rfl) (zh.ev rfl) zk) ?_
        refine WL.want (d := 21) rfl rfl rfl ?_
        refine WL.val (.bool ((decide ((2147483647 : Int) < ((v + m) : Int))))) rfl rfl rfl (fun za zC zh zk => wp_pickF rfl (zh.ev rfl) (zh.ev rfl) zk) ?_
        refine WL.val (.bool ((decide ((2147483647 : Int) < ((v + m) : Int))))) rfl rfl rfl (fun za zC zh zk => wp_pickT rfl (zh.ev rfl) (zh.ev rfl) zk) ?_
        refine WL.val (.bool ((decide ((2147483647 : Int) < ((v + m) : Int))))) rfl rfl rfl (fun za zC zh zk => wp_assign rfl (zh.ev rfl) zk) ?_
        refine WL.nil (WE.sub (K' := [(0, .int .i64 v), (1, .pointer (some ⟨g, 0, none⟩)), (3, .int .i64 0), (4, .bool false), (18, .bool ((decide ((2147483647 : Int) < ((v + m) : Int)))))]) ⟨rfl, rfl, rfl, rfl, rfl, trivial⟩ ?_)
        refine WE.next ?_
        refine WC.cond rfl (fun h9 => ?_) (fun h9 => ?_)
        · have h9 : (2147483647 : Int) < ((v + m) : Int) := by simpa using h9
          refine WC.seq ?_
          refine WC.region ?_
          refine WL.val (.int .i64 v) rfl rfl rfl (fun za zC zh zk => wp_move rfl (zh.ev rfl) zk) ?_
          refine WL.val (.int .i64 v) rfl rfl rfl (fun za zC zh zk => wp_assign rfl (zh.ev rfl) zk) ?_
          refine WL.nil (WE.sub (K' := [(0, .int .i64 v), (1, .pointer (some ⟨g, 0, none⟩)), (3, .int .i64 v), (4, .bool false), (18, .bool ((decide ((2147483647 : Int) < ((v + m) : Int)))))]) ⟨rfl, rfl, rfl, rfl, rfl, trivial⟩ ?_)
          refine WE.next ?_
          refine WC.ret ?_
          refine WE.blockRet ?_
          refine WE.thenRet ?_
          refine WE.ret1 rfl rfl ?_
          exact ⟨_, rfl, congrArg (Value.int .i64) (by rw [mvTo_no (fun h => by have z := mvOk_iff.1 h; omega)]), (Below.refl _ _)⟩
        · have h9 : ¬ ((2147483647 : Int) < ((v + m) : Int)) := by simpa using h9
          refine WC.skip ?_
          refine WE.blockNormal ?_
          refine WE.next ?_
          refine WC.seq ?_
          refine WC.region ?_
          refine WL.val (.int .i64 v) rfl rfl rfl (fun za zC zh zk => wp_move rfl (zh.ev rfl) zk) ?_
          refine WL.val (.int .i64 m) rfl rfl rfl (fun za zC zh zk => ld_3 rfl (zh.ev rfl) ((hg.cell 0).trans rfl) zk) ?_
          refine WL.val (.int .i64 ((v + m))) rfl rfl rfl (fun za zC zh zk => addb_3 rfl (zh.ev rfl) (zh.ev rfl) (wrap_eq (by omega) (by omega) (by omega)) zk) ?_
          refine WL.val (.int .i64 ((v + m))) rfl rfl rfl (fun za zC zh zk => wp_assign rfl (zh.ev rfl) zk) ?_
          refine WL.nil (WE.sub (K' := [(0, .int .i64 v), (1, .pointer (some ⟨g, 0, none⟩)), (3, .int .i64 ((v + m))), (4, .bool false), (18, .bool ((decide ((2147483647 : Int) < ((v + m) : Int)))))]) ⟨rfl, rfl, rfl, rfl, rfl, trivial⟩ ?_)
          refine WE.next ?_
          refine WC.ret ?_
          refine WE.ret1 rfl rfl ?_
          exact ⟨_, rfl, congrArg (Value.int .i64) (by rw [mvTo_yes (mvOk_iff.2 (by omega))]), (Below.refl _ _)⟩
    · refine WL.sub (K' := [(0, .int .i64 v), (1, .pointer (some ⟨g, 0, none⟩)), (3, .int .i64 0), (4, .bool false), (19, .int .i64 m), (20, .bool ((decide ((m : Int) < (0 : Int))))), (21, .bool false)]) ⟨rfl, rfl, rfl, rfl, rfl, rfl, (by exact congrArg (fun z => some (Value.bool z)) h7), trivial⟩ ?_
      have h7 : ¬ ((m : Int) < (0 : Int)) := by simpa using h7
      refine WL.skip (d := 21) rfl rfl rfl rfl rfl ?_
      refine WL.skip (d := 21) rfl rfl rfl rfl rfl ?_
      refine WL.skip (d := 21) rfl rfl rfl rfl rfl ?_
      refine WL.skip (d := 21) rfl rfl rfl rfl rfl ?_
      refine WL.skip (d := 21) rfl rfl rfl rfl rfl ?_
      refine WL.skipU (d := 26) rfl rfl rfl rfl ?_
      refine WL.skipU (d := 26) rfl rfl rfl rfl ?_
      refine WL.skipU (d := 26) rfl rfl rfl rfl ?_
      refine WL.skipU (d := 26) rfl rfl rfl rfl ?_
      refine WL.skip (d := 21) rfl rfl rfl rfl rfl ?_
      refine WL.val (.bool false) rfl rfl rfl (fun za zC zh zk => wp_pickF rfl (zh.ev rfl) (zh.ev rfl) zk) ?_
      refine WL.val (.bool false) rfl rfl rfl (fun za zC zh zk => wp_assign rfl (zh.ev rfl) zk) ?_
      refine WL.nil (WE.sub (K' := [(0, .int .i64 v), (1, .pointer (some ⟨g, 0, none⟩)), (3, .int .i64 0), (4, .bool false), (18, .bool false)]) ⟨rfl, rfl, rfl, rfl, rfl, trivial⟩ ?_)
      refine WE.next ?_
      refine WC.condF rfl rfl ?_
      refine WC.skip ?_
      refine WE.blockNormal ?_
      refine WE.next ?_
      refine WC.seq ?_
      refine WC.region ?_
      refine WL.val (.int .i64 v) rfl rfl rfl (fun za zC zh zk => wp_move rfl (zh.ev rfl) zk) ?_
      refine WL.val (.int .i64 m) rfl rfl rfl (fun za zC zh zk => ld_3 rfl (zh.ev rfl) ((hg.cell 0).trans rfl) zk) ?_
      refine WL.val (.int .i64 ((v + m))) rfl rfl rfl (fun za zC zh zk => addb_3 rfl (zh.ev rfl) (zh.ev rfl) (wrap_eq (by omega) (by omega) (by omega)) zk) ?_
      refine WL.val (.int .i64 ((v + m))) rfl rfl rfl (fun za zC zh zk => wp_assign rfl (zh.ev rfl) zk) ?_
      refine WL.nil (WE.sub (K' := [(0, .int .i64 v), (1, .pointer (some ⟨g, 0, none⟩)), (3, .int .i64 ((v + m))), (4, .bool false), (18, .bool false)]) ⟨rfl, rfl, rfl, rfl, rfl, trivial⟩ ?_)
      refine WE.next ?_
      refine WC.ret ?_
      refine WE.ret1 rfl rfl ?_
      exact ⟨_, rfl, congrArg (Value.int .i64) (by rw [mvTo_yes (mvOk_iff.2 (by omega))]), (Below.refl _ _)⟩

set_option maxRecDepth 100000 in
theorem renamed_any (m : Int) (gs : Nat) (hm : I64 m) : ∀ (t : T) (w : World) (v : Value), t.size ≤ 4294967296 → IsT w t v → Blk w gs 3 #[.int .i64 m] → Calls Try.prog 51 #[v, .func (.func 52) #[] #[.pointer (some ⟨gs, 0, none⟩)]] w (Ret fun v' w' => NewT w w' (t.mv m) v' ∧ Below w.heap.size w w') := by
  refine T.ind (fun f l ih => ?_)
  intro w v hz hv hgs
  have hlen := len_le_sizeL l
  have hz' := hz
  simp only [T.size] at hz'
  obtain ⟨hf, a, c, rfl, hc, hmx, hl⟩ := hv
  have hf' := hf
  unfold I64 at hf'
  have hgl := hgs.lt
  refine Calls.walk (l := [.agg #[.int .i64 f, .slice a l.length c], .func (.func 52) #[] #[.pointer (some ⟨gs, 0, none⟩)]]) Try.func51 rfl (by kernel_rfl) ?_
  refine WC.sub (K' := [(0, .agg #[.int .i64 f, .slice a l.length c]), (1, .func (.func 52) #[] #[.pointer (some ⟨gs, 0, none⟩)])]) ⟨rfl, rfl, trivial⟩ ?_
  refine WC.seq ?_
  refine WC.region ?_
  refine WL.step (post := NewBlk w 32 #[.int .i64 f, .slice a l.length c]) rfl rfl rfl (fun za zC zh zk => box_32 rfl (zh.ev rfl) (zk _ _ (newBlk _ _ _))) ?_
  rintro _ w1 ⟨g2, rfl, hg3, hB4, hb5, hz6⟩
  have hl7 : gs < g2 := by have z1 := hgs.lt; omega
  have hl8 : w.heap.size ≤ g2 := by omega
  refine WL.step (post := NewBlk w1 32 #[.int .i64 0, .slice none 0 0]) rfl rfl rfl (fun za zC zh zk => alloc_32 rfl (zk _ _ (newBlk _ _ _))) ?_
  rintro _ w9 ⟨g10, rfl, hg11, hB12, hb13, hz14⟩
  have hl15 : gs < g10 := by have z1 := hgs.lt; have z2 := (hb5).size; omega
  have hl16 : g2 < g10 := by have z1 := hB4.lt; omega
  have hl17 : w.heap.size ≤ g10 := by have z2 := (hb5).size; omega
  refine WL.nil (WE.sub (K' := [(0, .agg #[.int .i64 f, .slice a l.length c]), (1, .func (.func 52) #[] #[.pointer (some ⟨gs, 0, none⟩)]), (2, .pointer (some ⟨g2, 0, none⟩)), (4, .pointer (some ⟨g10, 0, none⟩))]) ⟨rfl, rfl, rfl, rfl, trivial⟩ ?_)
  refine WE.next ?_
  refine WC.seq ?_
  refine WC.region ?_
  refine WL.val (.pointer (some ⟨g2, 0, none⟩)) rfl rfl rfl (fun za zC zh zk => fld_32_0 rfl (zh.ev rfl) zk) ?_
  have hB18 := hB4.below hb13
  refine WL.val (.int .i64 f) rfl rfl rfl (fun za zC zh zk => ld_3 rfl (zh.ev rfl) ((hB18.cell 0).trans rfl) zk) ?_
  refine WL.val (.agg #[.int .i64 f, .slice none 0 0]) rfl rfl rfl (fun za zC zh zk => build_32_0 rfl (zh.ev rfl) zk) ?_
  refine WL.step (post := NewBlk w9 32 #[.int .i64 0, .slice none 0 0]) rfl rfl rfl (fun za zC zh zk => alloc_32 rfl (zk _ _ (newBlk _ _ _))) ?_
  rintro _ w19 ⟨g20, rfl, hg21, hB22, hb23, hz24⟩
  have hb25 : Below w.heap.size w w9 := (bstep hb5 hb13)
  have hl26 : gs < g20 := by have z1 := hgs.lt; have z2 := (hb25).size; omega
  have hl27 : g2 < g20 := by have z1 := hB18.lt; omega
  have hl28 : g10 < g20 := by have z1 := hB12.lt; omega
  have hl29 : w.heap.size ≤ g20 := by have z2 := (hb25).size; omega
  refine WL.step (post := fun _ w' => Upd g20 w19 w' ∧ Blk w' g20 32 #[.int .i64 f, .slice none 0 0]) rfl rfl rfl (fun za zC zh zk => st_32 rfl (zh.ev rfl) (zh.ev rfl) rfl rfl hB22 (by first | decide | simp) (fun v => zk v _ ⟨(Upd.at_ _ _ _ _).trans (Upd.at_ _ _ _ _), (hB22.set_ 0 _).set_ 1 _⟩)) ?_
  rintro v33 w30 ⟨hu31, hB32⟩
  have hb34 : Below w.heap.size w w19 := (bstep hb25 hb23)
  have hb35 := upd_below hb34 hu31 (by omega)
  have hB36 := hgs.below hb34
  have hB37 := upd_blk hB36 hu31 (by omega)
  have hB38 := hB18.below hb23
  have hB39 := upd_blk hB38 hu31 (by omega)
  have hB40 := hB12.below hb23
  have hB41 := upd_blk hB40 hu31 (by omega)
  refine WL.nil (WE.sub (K' := [(0, .agg #[.int .i64 f, .slice a l.length c]), (1, .func (.func 52) #[] #[.pointer (some ⟨gs, 0, none⟩)]), (2, .pointer (some ⟨g2, 0, none⟩)), (4, .pointer (some ⟨g10, 0, none⟩)), (5, .pointer (some ⟨g20, 0, none⟩))]) ⟨rfl, rfl, rfl, rfl, rfl, trivial⟩ ?_)
  refine WE.next ?_
  refine WC.seq ?_
  refine WC.seq ?_
  refine WC.region ?_
  refine WL.val (.pointer (some ⟨g2, 0, none⟩)) rfl rfl rfl (fun za zC zh zk => fld_32_0 rfl (zh.ev rfl) zk) ?_
  refine WL.val (.int .i64 f) rfl rfl rfl (fun za zC zh zk => ld_3 rfl (zh.ev rfl) ((hB39.cell 0).trans rfl) zk) ?_
  refine WL.val (.bool ((decide ((f : Int) < (0 : Int))))) rfl rfl rfl (fun za zC zh zk => lss_3 rfl (zh.ev rfl) (zh.ev rfl) zk) ?_
  refine WL.nil (WE.sub (K' := [(0, .agg #[.int .i64 f, .slice a l.length c]), (1, .func (.func 52) #[] #[.pointer (some ⟨gs, 0, none⟩)]), (2, .pointer (some ⟨g2, 0, none⟩)), (4, .pointer (some ⟨g10, 0, none⟩)), (5, .pointer (some ⟨g20, 0, none⟩)), (13, .bool ((decide ((f : Int) < (0 : Int)))))]) ⟨rfl, rfl, rfl, rfl, rfl, rfl, trivial⟩ ?_)
  refine WE.next ?_
  refine WC.cond rfl (fun h42 => ?_) (fun h42 => ?_)
  · have h42 : (f : Int) < (0 : Int) := by simpa using h42
    refine WC.region ?_
    refine WL.val (.func (.func 52) #[] #[.pointer (some ⟨gs, 0, none⟩)]) rfl rfl rfl (fun za zC zh zk => wp_move rfl (zh.ev rfl) zk) ?_
    refine WL.val (.pointer (some ⟨g2, 0, none⟩)) rfl rfl rfl (fun za zC zh zk => fld_32_0 rfl (zh.ev rfl) zk) ?_
    refine WL.val (.int .i64 f) rfl rfl rfl (fun za zC zh zk => ld_3 rfl (zh.ev rfl) ((hB39.cell 0).trans rfl) zk) ?_
    refine WL.val (.int .i64 ((-1 - f))) rfl rfl rfl (fun za zC zh zk => subb_3 rfl (zh.ev rfl) (zh.ev rfl) (wrap_eq rfl (by omega) (by omega)) zk) ?_
    refine WL.call rfl rfl rfl (fun za zh zC => wp_callv (by kernel_rfl) rfl (zh.ev rfl) (hv1 (zh.ev rfl))) (move1_any (-1 - f) m _ gs (by omega) (by omega) hm hB37) ?_
    rintro _ w44 ⟨rfl, hq43⟩
    have hrg := mvTo_range (v := -1 - f) (m := m) (by omega) (by omega)
    refine WL.val (.int .i64 ((-1 - mvTo (-1 - f) m))) rfl rfl rfl (fun za zC zh zk => subb_3 rfl (zh.ev rfl) (zh.ev rfl) (wrap_eq rfl (by omega) (by omega)) zk) ?_
    refine WL.val (.pointer (some ⟨g20, 0, none⟩)) rfl rfl rfl (fun za zC zh zk => fld_32_0 rfl (zh.ev rfl) zk) ?_
    have hB45 := hB32.below hq43
    refine WL.step (post := fun _ w' => Upd g20 w44 w' ∧ Blk w' g20 32 #[.int .i64 ((-1 - mvTo (-1 - f) m)), .slice none 0 0]) rfl rfl rfl (fun za zC zh zk => st_3 rfl (zh.ev rfl) (zh.ev rfl) hB45 (by first | decide | simp) (fun v => zk v _ ⟨Upd.at_ _ _ _ _, hB45.set_ 0 _⟩)) ?_
    rintro v49 w46 ⟨hu47, hB48⟩
    have hb50 : Below w.heap.size w w44 := (bstep hb35 hq43)
    have hb51 := upd_below hb50 hu47 (by omega)
    have hB52 := hB37.below hq43
    have hB53 := upd_blk hB52 hu47 (by omega)
    have hB54 := hB39.below hq43
    have hB55 := upd_blk hB54 hu47 (by omega)
    have hB56 := hB41.below hq43
    have hB57 := upd_blk hB56 hu47 (by omega)
    refine WL.nil (WE.sub (K' := [(0, .agg #[.int .i64 f, .slice a l.length c]), (1, .func (.func 52) #[] #[.pointer (some ⟨gs, 0, none⟩)]), (2, .pointer (some ⟨g2, 0, none⟩)), (4, .pointer (some ⟨g10, 0, none⟩)), (5, .pointer (some ⟨g20, 0, none⟩)), (13, .bool ((decide ((f : Int) < (0 : Int)))))]) ⟨rfl, rfl, rfl, rfl, rfl, rfl, trivial⟩ ?_)
    refine WE.next ?_
    refine WC.seq ?_
    refine WC.seq ?_
    refine WC.region ?_
    refine WL.val (.pointer (some ⟨g2, 1, none⟩)) rfl rfl rfl (fun za zC zh zk => fld_32_1 rfl (zh.ev rfl) zk) ?_
    refine WL.val (.slice a l.length c) rfl rfl rfl (fun za zC zh zk => ld_30 rfl (zh.ev rfl) ((hB55.cell 1).trans rfl) zk) ?_
    refine WL.val (.int .i64 (((l.length : Nat) : Int))) rfl rfl rfl (fun za zC zh zk => len_30 rfl (zh.ev rfl) zk) ?_
    refine WL.val (.int .i64 0) rfl rfl rfl (fun za zC zh zk => wp_move rfl (zh.ev rfl) zk) ?_
    refine WL.nil (WE.sub (K' := [(0, .agg #[.int .i64 f, .slice a l.length c]), (1, .func (.func 52) #[] #[.pointer (some ⟨gs, 0, none⟩)]), (2, .pointer (some ⟨g2, 0, none⟩)), (4, .pointer (some ⟨g10, 0, none⟩)), (5, .pointer (some ⟨g20, 0, none⟩)), (13, .bool ((decide ((f : Int) < (0 : Int))))), (22, .slice a l.length c), (23, .int .i64 (((l.length : Nat) : Int))), (24, .int .i64 0)]) ⟨rfl, rfl, rfl, rfl, rfl, rfl, rfl, rfl, rfl, trivial⟩ ?_)
    refine WE.next ?_
    refine WC.block ?_
    have hl58 : gs < w46.heap.size := by have z1 := hB53.lt; omega
    have hl59 : g2 < w46.heap.size := by have z1 := hB55.lt; omega
    have hl60 : g10 < w46.heap.size := by have z1 := hB57.lt; omega
    have hl61 : g20 < w46.heap.size := by have z1 := hB48.lt; omega
    have hl62 : w.heap.size ≤ w46.heap.size := (hb51).size
    have hR63 : RowE eltT w46 w46.heap.size 32 none 0 0 [] := RowE.nil
    refine WC.loop (X := Option Addr × Nat × Nat) (fun x => l.length - x.2.2) (fun x => [(0, .agg #[.int .i64 f, .slice a l.length c]), (1, .func (.func 52) #[] #[.pointer (some ⟨gs, 0, none⟩)]), (2, .pointer (some ⟨g2, 0, none⟩)), (4, .pointer (some ⟨g10, 0, none⟩)), (5, .pointer (some ⟨g20, 0, none⟩)), (13, .bool ((decide ((f : Int) < (0 : Int))))), (22, .slice a l.length c), (23, .int .i64 (((l.length : Nat) : Int))), (24, .int .i64 (((x.2.2 : Nat) : Int)))]) (fun x w64 => x.2.2 ≤ l.length ∧ w46.heap.size ≤ (w64).heap.size ∧ Below w.heap.size w w64 ∧ Blk w64 gs 3 #[.int .i64 m] ∧ Blk w64 g2 32 #[.int .i64 f, .slice a l.length c] ∧ Blk w64 g10 32 #[.int .i64 0, .slice none 0 0] ∧ Blk w64 g20 32 #[.int .i64 ((-1 - mvTo (-1 - f) m)), .slice x.1 x.2.2 x.2.1] ∧ RowE eltT (w64) w46.heap.size 32 x.1 x.2.1 x.2.2 ((l.take x.2.2).map (T.mv m))) ((none, 0, 0)) ⟨rfl, rfl, rfl, rfl, rfl, rfl, rfl, rfl, rfl, trivial⟩ ?_ ?_
    · exact ⟨Nat.zero_le _, Nat.le_refl _, hb51, hB53, hB55, hB57, hB48, (by simpa using hR63)⟩
    · rintro x w64 ⟨hk, hBw, hb65, hB66, hB67, hB68, hB69, ho70⟩
      refine WC.seq ?_
      refine WC.region ?_
      refine WL.val (.bool ((decide ((((x.2.2 : Nat) : Int) : Int) < (((l.length : Nat) : Int) : Int))))) rfl rfl rfl (fun za zC zh zk => lss_3 rfl (zh.ev rfl) (zh.ev rfl) zk) ?_
      refine WL.nil (WE.sub (K' := [(0, .agg #[.int .i64 f, .slice a l.length c]), (1, .func (.func 52) #[] #[.pointer (some ⟨gs, 0, none⟩)]), (2, .pointer (some ⟨g2, 0, none⟩)), (4, .pointer (some ⟨g10, 0, none⟩)), (5, .pointer (some ⟨g20, 0, none⟩)), (13, .bool ((decide ((f : Int) < (0 : Int))))), (22, .slice a l.length c), (23, .int .i64 (((l.length : Nat) : Int))), (24, .int .i64 (((x.2.2 : Nat) : Int))), (25, .bool ((decide ((((x.2.2 : Nat) : Int) : Int) < (((l.length : Nat) : Int) : Int)))))]) ⟨rfl, rfl, rfl, rfl, rfl, rfl, rfl, rfl, rfl, rfl, trivial⟩ ?_)
      refine WE.next ?_
      refine WC.seq ?_
      refine WC.cond rfl (fun h71 => ?_) (fun h71 => ?_)
      · have h71 : (((x.2.2 : Nat) : Int) : Int) < (((l.length : Nat) : Int) : Int) := by simpa using h71
        refine WC.skip ?_
        refine WE.next ?_
        refine WC.seq ?_
        refine WC.block ?_
        refine WC.seq ?_
        refine WC.region ?_
        obtain ⟨b72, o73, A74, C75, ha76, hc77⟩ := IsTs.open hl
        refine WL.val (.pointer (some ⟨b72, o73 + x.2.2 * 2, none⟩)) rfl rfl rfl (fun za zC zh zk => ix_30 (k := x.2.2) rfl (zh.ev rfl) (ha76 x.2.2 (by first | omega | (simp; omega))) (zh.ev rfl) (by first | omega | (simp; omega)) zk) ?_
        refine WL.val (.agg #[.int .i64 ((tget l x.2.2).f), .slice ((A74 x.2.2)) ((tget l x.2.2).args.length) ((C75 x.2.2))]) rfl rfl rfl (fun za zC zh zk => ld_32 rfl (zh.ev rfl) (bkeeps hb65 _ _ (hc77 x.2.2 (by first | omega | (simp; omega))).1) (bkeeps hb65 _ _ (hc77 x.2.2 (by first | omega | (simp; omega))).2.1) zk) ?_
        refine WL.step (post := NewBlk w64 32 #[.int .i64 0, .slice none 0 0]) rfl rfl rfl (fun za zC zh zk => alloc_32 rfl (zk _ _ (newBlk _ _ _))) ?_
        rintro _ w78 ⟨g79, rfl, hg80, hB81, hb82, hz83⟩
        have hl84 : gs < g79 := by have z1 := hB66.lt; omega
        have hl85 : g2 < g79 := by have z1 := hB67.lt; omega
        have hl86 : g10 < g79 := by have z1 := hB68.lt; omega
        have hl87 : g20 < g79 := by have z1 := hB69.lt; omega
        have hl88 : w.heap.size ≤ g79 := by have z2 := (hb65).size; omega
        have hl89 : w64.heap.size ≤ g79 := by omega
        refine WL.step (post := fun _ w' => Upd g79 w78 w' ∧ Blk w' g79 32 #[.int .i64 ((tget l x.2.2).f), .slice ((A74 x.2.2)) ((tget l x.2.2).args.length) ((C75 x.2.2))]) rfl rfl rfl (fun za zC zh zk => st_32 rfl (zh.ev rfl) (zh.ev rfl) rfl rfl hB81 (by first | decide | simp) (fun v => zk v _ ⟨(Upd.at_ _ _ _ _).trans (Upd.at_ _ _ _ _), (hB81.set_ 0 _).set_ 1 _⟩)) ?_
        rintro v93 w90 ⟨hu91, hB92⟩
        have hb94 : Below w.heap.size w w78 := (bstep hb65 hb82)
        have hb95 := upd_below hb94 hu91 (by omega)
        have hb96 := upd_below hb82 hu91 (by omega)
        have hB97 := hB66.below hb82
        have hB98 := upd_blk hB97 hu91 (by omega)
        have hB99 := hB67.below hb82
        have hB100 := upd_blk hB99 hu91 (by omega)
        have hB101 := hB68.below hb82
        have hB102 := upd_blk hB101 hu91 (by omega)
        have hB103 := hB69.below hb82
        have hB104 := upd_blk hB103 hu91 (by omega)
        refine WL.nil (WE.sub (K' := [(0, .agg #[.int .i64 f, .slice a l.length c]), (1, .func (.func 52) #[] #[.pointer (some ⟨gs, 0, none⟩)]), (2, .pointer (some ⟨g2, 0, none⟩)), (4, .pointer (some ⟨g10, 0, none⟩)), (5, .pointer (some ⟨g20, 0, none⟩)), (7, .pointer (some ⟨g79, 0, none⟩)), (13, .bool ((decide ((f : Int) < (0 : Int))))), (22, .slice a l.length c), (23, .int .i64 (((l.length : Nat) : Int))), (24, .int .i64 (((x.2.2 : Nat) : Int))), (25, .bool ((decide ((((x.2.2 : Nat) : Int) : Int) < (((l.length : Nat) : Int) : Int)))))]) ⟨rfl, rfl, rfl, rfl, rfl, rfl, rfl, rfl, rfl, rfl, rfl, trivial⟩ ?_)
        refine WE.next ?_
        have ho105 := ho70.below hb96
        have hSlt : ∀ b, (fun b => b = g20 ∨ (Value.slice x.1 x.2.2 x.2.1).ownBlock = some b) b → b < w90.heap.size := fun b h => h.elim (fun e => e ▸ hB104.lt) (fun h => (ho105.lt b h).2)
        have hSlo : ∀ b, (fun b => b = g20 ∨ (Value.slice x.1 x.2.2 x.2.1).ownBlock = some b) b → b = g20 ∨ (w46.heap.size ≤ b ∧ b < w64.heap.size) := fun b h => h.imp id (fun h => ho70.lt b h)
        have hBW : w46.heap.size ≤ w90.heap.size := by have z1 := (Nat.le_trans hBw hb96.size); omega
        have hlL : x.2.2 = (((l.take x.2.2).map (T.mv m))).length := ho105.len
        refine WC.tail2 (S := ((fun b => b = g20 ∨ (Value.slice x.1 x.2.2 x.2.1).ownBlock = some b))) [(true, .val (.pointer (some ⟨g20, 1, none⟩))), (true, .val (.slice x.1 x.2.2 x.2.1)), (true, .val (.agg #[.int .i64 ((tget l x.2.2).f), .slice ((A74 x.2.2)) ((tget l x.2.2).args.length) ((C75 x.2.2))])), (true, .val (.func (.func 52) #[] #[.pointer (some ⟨gs, 0, none⟩)])), (true, .mem (fun v w' => NewT w90 w' (((tget l x.2.2).mv m)) v) (fun v w w' hc h => InT.chg h hc (fun b hb hs => by have z := hSlt b hs; omega))), (true, .mem (fun v w' => OneRow eltT w90 32 (((tget l x.2.2).mv m)) v w') (fun v w w' hc h => h.chg hc hSlt)), (true, .val undef), (true, .val (.pointer (some ⟨g20, 1, none⟩))), (true, .val undef)] [(0, .agg #[.int .i64 f, .slice a l.length c]), (1, .func (.func 52) #[] #[.pointer (some ⟨gs, 0, none⟩)]), (2, .pointer (some ⟨g2, 0, none⟩)), (4, .pointer (some ⟨g10, 0, none⟩)), (5, .pointer (some ⟨g20, 0, none⟩)), (7, .pointer (some ⟨g79, 0, none⟩)), (13, .bool ((decide ((f : Int) < (0 : Int))))), (22, .slice a l.length c), (23, .int .i64 (((l.length : Nat) : Int))), (24, .int .i64 (((x.2.2 : Nat) : Int))), (25, .bool ((decide ((((x.2.2 : Nat) : Int) : Int) < (((l.length : Nat) : Int) : Int)))))] 6 8 ((x.2.2 + 1)) 34 (fun ra rc wz => RowE eltT wz w46.heap.size 32 ra rc (x.2.2 + 1) (((l.take x.2.2).map (T.mv m) ++ [((tget l x.2.2).mv m)])) ∧ Blk wz g20 32 #[.int .i64 ((-1 - mvTo (-1 - f) m)), .slice x.1 x.2.2 x.2.1]) (fun ra rc wz => RowE eltT wz w46.heap.size 32 ra rc (x.2.2 + 1) (((l.take x.2.2).map (T.mv m) ++ [((tget l x.2.2).mv m)])) ∧ Blk wz g20 32 #[.int .i64 ((-1 - mvTo (-1 - f) m)), .slice ra ((x.2.2 + 1)) rc]) (by decide) (fun ra rc w w' hb h => ⟨h.1.below hb, h.2.below hb⟩) (fun ra rc w w' hb h => ⟨h.1.below hb, h.2.below hb⟩) ⟨rfl, rfl, rfl, rfl, rfl, rfl, rfl, rfl, rfl, rfl, rfl, trivial⟩ (by kernel_rfl) (by kernel_rfl) (by kernel_rfl) (by kernel_rfl) (by kernel_rfl) ?_ ?_
        · refine ⟨.inl ⟨rfl, true, .none rfl, (fun gg b h => by cases h), fun h w => optUndef h, fun zβ za zw zc => ?_⟩, ?_⟩
          · exact fld_32_1 rfl (zc.kn.ev rfl) ⟨_, rfl, Below.refl _ _, optDef zβ rfl⟩
          refine ⟨.inl ⟨rfl, true, .none rfl, (fun gg b h => by cases h), fun h w => optUndef h, fun zβ za zw zc => ?_⟩, ?_⟩
          · exact ld_30 rfl ((show za.eval (.tmp 28) = za.tmps.getD 28 undef from rfl).trans (optSVal (zc.dep 0 28 (by kernel_rfl) (by decide)) rfl rfl)) (bkeeps (zc.early (by kernel_rfl)) _ _ ((hB104.cell 1).trans rfl)) ⟨_, rfl, Below.refl _ _, optDef zβ rfl⟩
          refine ⟨.inl ⟨rfl, true, .none rfl, (fun gg b h => by cases h), fun h w => optUndef h, fun zβ za zw zc => ?_⟩, ?_⟩
          · exact ld_32 rfl (zc.kn.ev rfl) (bkeeps (zc.early (by kernel_rfl)) _ _ ((hB92.cell 0).trans rfl)) (bkeeps (zc.early (by kernel_rfl)) _ _ ((hB92.cell 1).trans rfl)) ⟨_, rfl, Below.refl _ _, optDef zβ rfl⟩
          refine ⟨.inl ⟨rfl, true, .none rfl, (fun gg b h => by cases h), fun h w => optUndef h, fun zβ za zw zc => ?_⟩, ?_⟩
          · exact wp_move rfl (zc.kn.ev rfl) ⟨_, rfl, Below.refl _ _, optDef zβ rfl⟩
          refine ⟨.inl ⟨rfl, true, .none rfl, (fun gg b h => by cases h), fun h w => optUndef h, fun zβ za zw zc => ?_⟩, ?_⟩
          · exact wp_call (by kernel_rfl) rfl (hv2 ((show za.eval (.tmp 30) = za.tmps.getD 30 undef from rfl).trans (optSVal (zc.dep 2 30 (by kernel_rfl) (by decide)) rfl rfl)) ((show za.eval (.tmp 31) = za.tmps.getD 31 undef from rfl).trans (optSVal (zc.dep 3 31 (by kernel_rfl) (by decide)) rfl rfl))) (ih _ (tget_mem (by omega)) _ _ (size_at (by omega) hz) (IsT.below (bstep hb95 (zc.early (by kernel_rfl))) (hc77 x.2.2 (by first | omega | (simp; omega))).2.2) (hB98.below (zc.early (by kernel_rfl)))) (fun v w' h => ⟨v, rfl, h.2, optDef zβ (InT.mono (fun b hb _ => Nat.le_trans (zc.early (by kernel_rfl)).size hb) h.1)⟩)
          refine ⟨.inl ⟨rfl, true, .none rfl, (fun gg b h => by cases h), fun h w => optUndef h, fun zβ za zw zc => ?_⟩, ?_⟩
          · have zv := (optSMem (zc.dep 4 32 (by kernel_rfl) (by decide)) rfl rfl)
            obtain ⟨_, a1, c1, e1, _⟩ := zv.form
            rw [e1] at zv
            exact row_30_1 rfl ((show za.eval (.tmp 32) = za.tmps.getD 32 undef from rfl).trans e1) ⟨_, rfl, balloc _ _, optDef zβ ⟨_, _, rfl, zc.chg.size, Blk.new' rfl, _, _, rfl, zv.below (balloc _ _)⟩⟩
          refine ⟨.inr (.inl ⟨rfl, rfl, fun za zw zc => ?_⟩), ?_⟩
          · obtain ⟨g1, cs, e1, hg1, hB1, hin⟩ := (optSMem (zc.dep 5 33 (by kernel_rfl) (by decide)) rfl rfl)
            exact wp_appE (E := eltT) (size := 2) (bytes := 32) (z := .agg #[.int .i64 0, .slice none 0 0]) rfl Try.underlying30 (by kernel_rfl) rfl (by decide) rfl ((show za.eval (.tmp 29) = za.tmps.getD 29 undef from rfl).trans (optSVal (zc.dep 1 29 (by kernel_rfl) (by decide)) rfl rfl)) ((show za.eval (.tmp 33) = za.tmps.getD 33 undef from rfl).trans e1) (ho105.below zc.below) hB1 (eltT.mono (fun b hb _ => ⟨by omega, fun e => by have z := (ho105.lt b e).2; omega⟩) hin) (by omega) (by omega) (by have z := zc.below.size; omega) (fun ra rc w' h1 h2 _ => ⟨ra, rc, rfl, ⟨h1, chg_blk (hB104.below zc.below) h2 (fun e => by have z := (ho105.lt _ e).1; omega)⟩, h2.mono (fun b hb => .inr hb)⟩)
          refine ⟨.inl ⟨rfl, true, .none rfl, (fun gg b h => by cases h), fun h w => optUndef h, fun zβ za zw zc => ?_⟩, ?_⟩
          · exact fld_32_1 rfl (zc.kn.ev rfl) ⟨_, rfl, Below.refl _ _, optDef zβ rfl⟩
          refine ⟨.inr (.inr ⟨rfl, rfl, 34, by kernel_rfl, fun za zw ra rc zk zd zv zg => ?_⟩), ?_⟩
          · exact st_30 rfl ((show za.eval (.tmp 35) = za.tmps.getD 35 undef from rfl).trans (optSVal (zd 7 35 (by kernel_rfl) (by decide)) rfl rfl)) ((show za.eval (.tmp 34) = za.tmps.getD 34 undef from rfl).trans zv) zg.2 (by first | decide | simp) (fun v => ⟨v, rfl, ⟨zg.1.upd (Upd.at_ _ _ _ _) (by omega), zg.2.set_ 1 _⟩, .ofUpd (Upd.at_ _ _ _ _) (.inl rfl)⟩)
          exact trivial
        · intro za w106 ra109 rc110 zh zv hG107 hc108 zu
          have hb111 := chg_below hb95 hc108 (fun b hb => (fun h => by rcases hSlo _ h with h | h <;> omega))
          have hB112 := chg_blk hB98 hc108 (fun h => by rcases hSlo _ h with h | h <;> omega)
          have hB113 := chg_blk hB100 hc108 (fun h => by rcases hSlo _ h with h | h <;> omega)
          have hB114 := chg_blk hB102 hc108 (fun h => by rcases hSlo _ h with h | h <;> omega)
          have hB115 := chg_blk hB92 hc108 (fun h => by rcases hSlo _ h with h | h <;> omega)
          clear zu
          refine (show WE _ [(0, .agg #[.int .i64 f, .slice a l.length c]), (1, .func (.func 52) #[] #[.pointer (some ⟨gs, 0, none⟩)]), (2, .pointer (some ⟨g2, 0, none⟩)), (4, .pointer (some ⟨g10, 0, none⟩)), (5, .pointer (some ⟨g20, 0, none⟩)), (7, .pointer (some ⟨g79, 0, none⟩)), (13, .bool ((decide ((f : Int) < (0 : Int))))), (22, .slice a l.length c), (23, .int .i64 (((l.length : Nat) : Int))), (24, .int .i64 (((x.2.2 : Nat) : Int))), (25, .bool ((decide ((((x.2.2 : Nat) : Int) : Int) < (((l.length : Nat) : Int) : Int)))))] w106 _ .normal from ?_) za (zh.sub ⟨rfl, rfl, rfl, rfl, rfl, rfl, rfl, rfl, rfl, rfl, rfl, trivial⟩)
          refine WE.blockNormal ?_
          refine WE.next ?_
          refine WC.region ?_
          refine WL.val (.int .i64 ((((x.2.2 + 1) : Nat) : Int))) rfl rfl rfl (fun za zC zh zk => addb_3 rfl (zh.ev rfl) (zh.ev rfl) (wrap_eq (by omega) (by omega) (by omega)) zk) ?_
          refine WL.val (.int .i64 ((((x.2.2 + 1) : Nat) : Int))) rfl rfl rfl (fun za zC zh zk => wp_move rfl (zh.ev rfl) zk) ?_
          refine WL.nil (WE.sub (K' := [(0, .agg #[.int .i64 f, .slice a l.length c]), (1, .func (.func 52) #[] #[.pointer (some ⟨gs, 0, none⟩)]), (2, .pointer (some ⟨g2, 0, none⟩)), (4, .pointer (some ⟨g10, 0, none⟩)), (5, .pointer (some ⟨g20, 0, none⟩)), (7, .pointer (some ⟨g79, 0, none⟩)), (13, .bool ((decide ((f : Int) < (0 : Int))))), (22, .slice a l.length c), (23, .int .i64 (((l.length : Nat) : Int))), (24, .int .i64 ((((x.2.2 + 1) : Nat) : Int))), (25, .bool ((decide ((((x.2.2 : Nat) : Int) : Int) < (((l.length : Nat) : Int) : Int)))))]) ⟨rfl, rfl, rfl, rfl, rfl, rfl, rfl, rfl, rfl, rfl, rfl, trivial⟩ ?_)
          refine WE.round ((ra109, rc110, x.2.2 + 1)) ⟨rfl, rfl, rfl, rfl, rfl, rfl, rfl, rfl, rfl, trivial⟩ ?_ ?_
          · exact ⟨by (try dsimp only at *); omega, (Nat.le_trans (Nat.le_trans hBw hb96.size) hc108.size), hb111, hB112, hB113, hB114, hG107.2, (by rw [← take_mv (by (try dsimp only at *); omega)]; exact hG107.1)⟩
          · dsimp only; omega
      · have h71 : ¬ ((((x.2.2 : Nat) : Int) : Int) < (((l.length : Nat) : Int) : Int)) := by simpa using h71
        refine WC.exit ?_
        refine WE.thenExit ?_
        refine WE.thenExit ?_
        refine WE.blockIs rfl ?_
        refine WE.next ?_
        refine WC.seq ?_
        refine WC.region ?_
        refine WL.val (.agg #[.int .i64 ((-1 - mvTo (-1 - f) m)), .slice x.1 x.2.2 x.2.1]) rfl rfl rfl (fun za zC zh zk => ld_32 rfl (zh.ev rfl) ((hB69.cell 0).trans rfl) ((hB69.cell 1).trans rfl) zk) ?_
        refine WL.step (post := fun _ w' => Upd g10 w64 w' ∧ Blk w' g10 32 #[.int .i64 ((-1 - mvTo (-1 - f) m)), .slice x.1 x.2.2 x.2.1]) rfl rfl rfl (fun za zC zh zk => st_32 rfl (zh.ev rfl) (zh.ev rfl) rfl rfl hB68 (by first | decide | simp) (fun v => zk v _ ⟨(Upd.at_ _ _ _ _).trans (Upd.at_ _ _ _ _), (hB68.set_ 0 _).set_ 1 _⟩)) ?_
        rintro v119 w116 ⟨hu117, hB118⟩
        have hb120 := upd_below hb65 hu117 (by omega)
        have hB121 := upd_blk hB66 hu117 (by omega)
        have hB122 := upd_blk hB67 hu117 (by omega)
        have hB123 := upd_blk hB69 hu117 (by omega)
        have ho124 := ho70.upd hu117 (by omega)
        refine WL.nil (WE.sub (K' := [(0, .agg #[.int .i64 f, .slice a l.length c]), (1, .func (.func 52) #[] #[.pointer (some ⟨gs, 0, none⟩)]), (2, .pointer (some ⟨g2, 0, none⟩)), (4, .pointer (some ⟨g10, 0, none⟩)), (5, .pointer (some ⟨g20, 0, none⟩)), (13, .bool ((decide ((f : Int) < (0 : Int))))), (22, .slice a l.length c), (23, .int .i64 (((l.length : Nat) : Int))), (24, .int .i64 (((x.2.2 : Nat) : Int))), (25, .bool ((decide ((((x.2.2 : Nat) : Int) : Int) < (((l.length : Nat) : Int) : Int)))))]) ⟨rfl, rfl, rfl, rfl, rfl, rfl, rfl, rfl, rfl, rfl, trivial⟩ ?_)
        refine WE.next ?_
        refine WC.ret ?_
        refine WE.retAny (v := .agg #[.int .i64 ((-1 - mvTo (-1 - f) m)), .slice x.1 x.2.2 x.2.1]) (fun za zh => ?_) ?_
        · have z0 : za.tmps[4]?.getD undef = .pointer (some ⟨g10, 0, none⟩) := by rw [← Array.getD_eq_getD_getElem?]; exact zh.knows 4 _ rfl
          have y0 : w116.cell? ⟨g10, 0, none⟩ = some (.int .i64 ((-1 - mvTo (-1 - f) m))) := ((hB118.cell 0).trans rfl)
          have y1 : w116.cell? ⟨g10, 1, none⟩ = some (.slice x.1 x.2.2 x.2.1) := ((hB118.cell 1).trans rfl)
          simp [results, Try.results51, z0, y0, y1, go_sem]
        · have z := ho124
          rw [List.take_of_length_le (by omega)] at z
          exact ⟨_, rfl, by rw [mv_mk, mvF_neg ‹_›]; exact newT_row (by rw [← mvF_neg ‹_›]; exact mvF_i64 hf) z (by omega), hb120⟩
  · have h42 : ¬ ((f : Int) < (0 : Int)) := by simpa using h42
    refine WC.skip ?_
    refine WE.next ?_
    refine WC.seq ?_
    refine WC.seq ?_
    refine WC.region ?_
    refine WL.val (.pointer (some ⟨g2, 1, none⟩)) rfl rfl rfl (fun za zC zh zk => fld_32_1 rfl (zh.ev rfl) zk) ?_
    refine WL.val (.slice a l.length c) rfl rfl rfl (fun za zC zh zk => ld_30 rfl (zh.ev rfl) ((hB39.cell 1).trans rfl) zk) ?_
    refine WL.val (.int .i64 (((l.length : Nat) : Int))) rfl rfl rfl (fun za zC zh zk => len_30 rfl (zh.ev rfl) zk) ?_
    refine WL.val (.int .i64 0) rfl rfl rfl (fun za zC zh zk => wp_move rfl (zh.ev rfl) zk) ?_
    refine WL.nil (WE.sub (K' := [(0, .agg #[.int .i64 f, .slice a l.length c]), (1, .func (.func 52) #[] #[.pointer (some ⟨gs, 0, none⟩)]), (2, .pointer (some ⟨g2, 0, none⟩)), (4, .pointer (some ⟨g10, 0, none⟩)), (5, .pointer (some ⟨g20, 0, none⟩)), (13, .bool ((decide ((f : Int) < (0 : Int))))), (22, .slice a l.length c), (23, .int .i64 (((l.length : Nat) : Int))), (24, .int .i64 0)]) ⟨rfl, rfl, rfl, rfl, rfl, rfl, rfl, rfl, rfl, trivial⟩ ?_)
    refine WE.next ?_
    refine WC.block ?_
    have hl125 : gs < w30.heap.size := by have z1 := hB37.lt; omega
    have hl126 : g2 < w30.heap.size := by have z1 := hB39.lt; omega
    have hl127 : g10 < w30.heap.size := by have z1 := hB41.lt; omega
    have hl128 : g20 < w30.heap.size := by have z1 := hB32.lt; omega
    have hl129 : w.heap.size ≤ w30.heap.size := (hb35).size
    have hR130 : RowE eltT w30 w30.heap.size 32 none 0 0 [] := RowE.nil
    refine WC.loop (X := Option Addr × Nat × Nat) (fun x => l.length - x.2.2) (fun x => [(0, .agg #[.int .i64 f, .slice a l.length c]), (1, .func (.func 52) #[] #[.pointer (some ⟨gs, 0, none⟩)]), (2, .pointer (some ⟨g2, 0, none⟩)), (4, .pointer (some ⟨g10, 0, none⟩)), (5, .pointer (some ⟨g20, 0, none⟩)), (13, .bool ((decide ((f : Int) < (0 : Int))))), (22, .slice a l.length c), (23, .int .i64 (((l.length : Nat) : Int))), (24, .int .i64 (((x.2.2 : Nat) : Int)))]) (fun x w131 => x.2.2 ≤ l.length ∧ w30.heap.size ≤ (w131).heap.size ∧ Below w.heap.size w w131 ∧ Blk w131 gs 3 #[.int .i64 m] ∧ Blk w131 g2 32 #[.int .i64 f, .slice a l.length c] ∧ Blk w131 g10 32 #[.int .i64 0, .slice none 0 0] ∧ Blk w131 g20 32 #[.int .i64 f, .slice x.1 x.2.2 x.2.1] ∧ RowE eltT (w131) w30.heap.size 32 x.1 x.2.1 x.2.2 ((l.take x.2.2).map (T.mv m))) ((none, 0, 0)) ⟨rfl, rfl, rfl, rfl, rfl, rfl, rfl, rfl, rfl, trivial⟩ ?_ ?_
    · exact ⟨Nat.zero_le _, Nat.le_refl _, hb35, hB37, hB39, hB41, hB32, (by simpa using hR130)⟩
    · rintro x w131 ⟨hk, hBw, hb132, hB133, hB134, hB135, hB136, ho137⟩
      refine WC.seq ?_
      refine WC.region ?_
      refine WL.val (.bool ((decide ((((x.2.2 : Nat) : Int) : Int) < (((l.length : Nat) : Int) : Int))))) rfl rfl rfl (fun za zC zh zk => lss_3 rfl (zh.ev rfl) (zh.ev rfl) zk) ?_
      refine WL.nil (WE.sub (K' := [(0, .agg #[.int .i64 f, .slice a l.length c]), (1, .func (.func 52) #[] #[.pointer (some ⟨gs, 0, none⟩)]), (2, .pointer (some ⟨g2, 0, none⟩)), (4, .pointer (some ⟨g10, 0, none⟩)), (5, .pointer (some ⟨g20, 0, none⟩)), (13, .bool ((decide ((f : Int) < (0 : Int))))), (22, .slice a l.length c), (23, .int .i64 (((l.length : Nat) : Int))), (24, .int .i64 (((x.2.2 : Nat) : Int))), (25, .bool ((decide ((((x.2.2 : Nat) : Int) : Int) < (((l.length : Nat) : Int) : Int)))))]) ⟨rfl, rfl, rfl, rfl, rfl, rfl, rfl, rfl, rfl, rfl, trivial⟩ ?_)
      refine WE.next ?_
      refine WC.seq ?_
      refine WC.cond rfl (fun h138 => ?_) (fun h138 => ?_)
      · have h138 : (((x.2.2 : Nat) : Int) : Int) < (((l.length : Nat) : Int) : Int) := by simpa using h138
        refine WC.skip ?_
        refine WE.next ?_
        refine WC.seq ?_
        refine WC.block ?_
        refine WC.seq ?_
        refine WC.region ?_
        obtain ⟨b139, o140, A141, C142, ha143, hc144⟩ := IsTs.open hl
        refine WL.val (.pointer (some ⟨b139, o140 + x.2.2 * 2, none⟩)) rfl rfl rfl (fun za zC zh zk => ix_30 (k := x.2.2) rfl (zh.ev rfl) (ha143 x.2.2 (by first | omega | (simp; omega))) (zh.ev rfl) (by first | omega | (simp; omega)) zk) ?_
        refine WL.val (.agg #[.int .i64 ((tget l x.2.2).f), .slice ((A141 x.2.2)) ((tget l x.2.2).args.length) ((C142 x.2.2))]) rfl rfl rfl (fun za zC zh zk => ld_32 rfl (zh.ev rfl) (bkeeps hb132 _ _ (hc144 x.2.2 (by first | omega | (simp; omega))).1) (bkeeps hb132 _ _ (hc144 x.2.2 (by first | omega | (simp; omega))).2.1) zk) ?_
        refine WL.step (post := NewBlk w131 32 #[.int .i64 0, .slice none 0 0]) rfl rfl rfl (fun za zC zh zk => alloc_32 rfl (zk _ _ (newBlk _ _ _))) ?_
        rintro _ w145 ⟨g146, rfl, hg147, hB148, hb149, hz150⟩
        have hl151 : gs < g146 := by have z1 := hB133.lt; omega
        have hl152 : g2 < g146 := by have z1 := hB134.lt; omega
        have hl153 : g10 < g146 := by have z1 := hB135.lt; omega
        have hl154 : g20 < g146 := by have z1 := hB136.lt; omega
        have hl155 : w.heap.size ≤ g146 := by have z2 := (hb132).size; omega
        have hl156 : w131.heap.size ≤ g146 := by omega
        refine WL.step (post := fun _ w' => Upd g146 w145 w' ∧ Blk w' g146 32 #[.int .i64 ((tget l x.2.2).f), .slice ((A141 x.2.2)) ((tget l x.2.2).args.length) ((C142 x.2.2))]) rfl rfl rfl (fun za zC zh zk => st_32 rfl (zh.ev rfl) (zh.ev rfl) rfl rfl hB148 (by first | decide | simp) (fun v => zk v _ ⟨(Upd.at_ _ _ _ _).trans (Upd.at_ _ _ _ _), (hB148.set_ 0 _).set_ 1 _⟩)) ?_
        rintro v160 w157 ⟨hu158, hB159⟩
        have hb161 : Below w.heap.size w w145 := (bstep hb132 hb149)
        have hb162 := upd_below hb161 hu158 (by omega)
        have hb163 := upd_below hb149 hu158 (by omega)
        have hB164 := hB133.below hb149
        have hB165 := upd_blk hB164 hu158 (by omega)
        have hB166 := hB134.below hb149
        have hB167 := upd_blk hB166 hu158 (by omega)
        have hB168 := hB135.below hb149
        have hB169 := upd_blk hB168 hu158 (by omega)
        have hB170 := hB136.below hb149
        have hB171 := upd_blk hB170 hu158 (by omega)
        refine WL.nil (WE.sub (K' := [(0, .agg #[.int .i64 f, .slice a l.length c]), (1, .func (.func 52) #[] #[.pointer (some ⟨gs, 0, none⟩)]), (2, .pointer (some ⟨g2, 0, none⟩)), (4, .pointer (some ⟨g10, 0, none⟩)), (5, .pointer (some ⟨g20, 0, none⟩)), (7, .pointer (some ⟨g146, 0, none⟩)), (13, .bool ((decide ((f : Int) < (0 : Int))))), (22, .slice a l.length c), (23, .int .i64 (((l.length : Nat) : Int))), (24, .int .i64 (((x.2.2 : Nat) : Int))), (25, .bool ((decide ((((x.2.2 : Nat) : Int) : Int) < (((l.length : Nat) : Int) : Int)))))]) ⟨rfl, rfl, rfl, rfl, rfl, rfl, rfl, rfl, rfl, rfl, rfl, trivial⟩ ?_)
        refine WE.next ?_
        have ho172 := ho137.below hb163
        have hSlt : ∀ b, (fun b => b = g20 ∨ (Value.slice x.1 x.2.2 x.2.1).ownBlock = some b) b → b < w157.heap.size := fun b h => h.elim (fun e => e ▸ hB171.lt) (fun h => (ho172.lt b h).2)
        have hSlo : ∀ b, (fun b => b = g20 ∨ (Value.slice x.1 x.2.2 x.2.1).ownBlock = some b) b → b = g20 ∨ (w30.heap.size ≤ b ∧ b < w131.heap.size) := fun b h => h.imp id (fun h => ho137.lt b h)
        have hBW : w30.heap.size ≤ w157.heap.size := by have z1 := (Nat.le_trans hBw hb163.size); omega
        have hlL : x.2.2 = (((l.take x.2.2).map (T.mv m))).length := ho172.len
        refine WC.tail2 (S := ((fun b => b = g20 ∨ (Value.slice x.1 x.2.2 x.2.1).ownBlock = some b))) [(true, .val (.pointer (some ⟨g20, 1, none⟩))), (true, .val (.slice x.1 x.2.2 x.2.1)), (true, .val (.agg #[.int .i64 ((tget l x.2.2).f), .slice ((A141 x.2.2)) ((tget l x.2.2).args.length) ((C142 x.2.2))])), (true, .val (.func (.func 52) #[] #[.pointer (some ⟨gs, 0, none⟩)])), (true, .mem (fun v w' => NewT w157 w' (((tget l x.2.2).mv m)) v) (fun v w w' hc h => InT.chg h hc (fun b hb hs => by have z := hSlt b hs; omega))), (true, .mem (fun v w' => OneRow eltT w157 32 (((tget l x.2.2).mv m)) v w') (fun v w w' hc h => h.chg hc hSlt)), (true, .val undef), (true, .val (.pointer (some ⟨g20, 1, none⟩))), (true, .val undef)] [(0, .agg #[.int .i64 f, .slice a l.length c]), (1, .func (.func 52) #[] #[.pointer (some ⟨gs, 0, none⟩)]), (2, .pointer (some ⟨g2, 0, none⟩)), (4, .pointer (some ⟨g10, 0, none⟩)), (5, .pointer (some ⟨g20, 0, none⟩)), (7, .pointer (some ⟨g146, 0, none⟩)), (13, .bool ((decide ((f : Int) < (0 : Int))))), (22, .slice a l.length c), (23, .int .i64 (((l.length : Nat) : Int))), (24, .int .i64 (((x.2.2 : Nat) : Int))), (25, .bool ((decide ((((x.2.2 : Nat) : Int) : Int) < (((l.length : Nat) : Int) : Int)))))] 6 8 ((x.2.2 + 1)) 34 (fun ra rc wz => RowE eltT wz w30.heap.size 32 ra rc (x.2.2 + 1) (((l.take x.2.2).map (T.mv m) ++ [((tget l x.2.2).mv m)])) ∧ Blk wz g20 32 #[.int .i64 f, .slice x.1 x.2.2 x.2.1]) (fun ra rc wz => RowE eltT wz w30.heap.size 32 ra rc (x.2.2 + 1) (((l.take x.2.2).map (T.mv m) ++ [((tget l x.2.2).mv m)])) ∧ Blk wz g20 32 #[.int .i64 f, .slice ra ((x.2.2 + 1)) rc]) (by decide) (fun ra rc w w' hb h => ⟨h.1.below hb, h.2.below hb⟩) (fun ra rc w w' hb h => ⟨h.1.below hb, h.2.below hb⟩) ⟨rfl, rfl, rfl, rfl, rfl, rfl, rfl, rfl, rfl, rfl, rfl, trivial⟩ (by kernel_rfl) (by kernel_rfl) (by kernel_rfl) (by kernel_rfl) (by kernel_rfl) ?_ ?_
        · refine ⟨.inl ⟨rfl, true, .none rfl, (fun gg b h => by cases h), fun h w => optUndef h, fun zβ za zw zc => ?_⟩, ?_⟩
          · exact fld_32_1 rfl (zc.kn.ev rfl) ⟨_, rfl, Below.refl _ _, optDef zβ rfl⟩
          refine ⟨.inl ⟨rfl, true, .none rfl, (fun gg b h => by cases h), fun h w => optUndef h, fun zβ za zw zc => ?_⟩, ?_⟩
          · exact ld_30 rfl ((show za.eval (.tmp 28) = za.tmps.getD 28 undef from rfl).trans (optSVal (zc.dep 0 28 (by kernel_rfl) (by decide)) rfl rfl)) (bkeeps (zc.early (by kernel_rfl)) _ _ ((hB171.cell 1).trans rfl)) ⟨_, rfl, Below.refl _ _, optDef zβ rfl⟩
          refine ⟨.inl ⟨rfl, true, .none rfl, (fun gg b h => by cases h), fun h w => optUndef h, fun zβ za zw zc => ?_⟩, ?_⟩
          · exact ld_32 rfl (zc.kn.ev rfl) (bkeeps (zc.early (by kernel_rfl)) _ _ ((hB159.cell 0).trans rfl)) (bkeeps (zc.early (by kernel_rfl)) _ _ ((hB159.cell 1).trans rfl)) ⟨_, rfl, Below.refl _ _, optDef zβ rfl⟩
          refine ⟨.inl ⟨rfl, true, .none rfl, (fun gg b h => by cases h), fun h w => optUndef h, fun zβ za zw zc => ?_⟩, ?_⟩
          · exact wp_move rfl (zc.kn.ev rfl) ⟨_, rfl, Below.refl _ _, optDef zβ rfl⟩
          refine ⟨.inl ⟨rfl, true, .none rfl, (fun gg b h => by cases h), fun h w => optUndef h, fun zβ za zw zc => ?_⟩, ?_⟩
          · exact wp_call (by kernel_rfl) rfl (hv2 ((show za.eval (.tmp 30) = za.tmps.getD 30 undef from rfl).trans (optSVal (zc.dep 2 30 (by kernel_rfl) (by decide)) rfl rfl)) ((show za.eval (.tmp 31) = za.tmps.getD 31 undef from rfl).trans (optSVal (zc.dep 3 31 (by kernel_rfl) (by decide)) rfl rfl))) (ih _ (tget_mem (by omega)) _ _ (size_at (by omega) hz) (IsT.below (bstep hb162 (zc.early (by kernel_rfl))) (hc144 x.2.2 (by first | omega | (simp; omega))).2.2) (hB165.below (zc.early (by kernel_rfl)))) (fun v w' h => ⟨v, rfl, h.2, optDef zβ (InT.mono (fun b hb _ => Nat.le_trans (zc.early (by kernel_rfl)).size hb) h.1)⟩)
          refine ⟨.inl ⟨rfl, true, .none rfl, (fun gg b h => by cases h), fun h w => optUndef h, fun zβ za zw zc => ?_⟩, ?_⟩
          · have zv := (optSMem (zc.dep 4 32 (by kernel_rfl) (by decide)) rfl rfl)
            obtain ⟨_, a1, c1, e1, _⟩ := zv.form
            rw [e1] at zv
            exact row_30_1 rfl ((show za.eval (.tmp 32) = za.tmps.getD 32 undef from rfl).trans e1) ⟨_, rfl, balloc _ _, optDef zβ ⟨_, _, rfl, zc.chg.size, Blk.new' rfl, _, _, rfl, zv.below (balloc _ _)⟩⟩
          refine ⟨.inr (.inl ⟨rfl, rfl, fun za zw zc => ?_⟩), ?_⟩
          · obtain ⟨g1, cs, e1, hg1, hB1, hin⟩ := (optSMem (zc.dep 5 33 (by kernel_rfl) (by decide)) rfl rfl)
            exact wp_appE (E := eltT) (size := 2) (bytes := 32) (z := .agg #[.int .i64 0, .slice none 0 0]) rfl Try.underlying30 (by kernel_rfl) rfl (by decide) rfl ((show za.eval (.tmp 29) = za.tmps.getD 29 undef from rfl).trans (optSVal (zc.dep 1 29 (by kernel_rfl) (by decide)) rfl rfl)) ((show za.eval (.tmp 33) = za.tmps.getD 33 undef from rfl).trans e1) (ho172.below zc.below) hB1 (eltT.mono (fun b hb _ => ⟨by omega, fun e => by have z := (ho172.lt b e).2; omega⟩) hin) (by omega) (by omega) (by have z := zc.below.size; omega) (fun ra rc w' h1 h2 _ => ⟨ra, rc, rfl, ⟨h1, chg_blk (hB171.below zc.below) h2 (fun e => by have z := (ho172.lt _ e).1; omega)⟩, h2.mono (fun b hb => .inr hb)⟩)
          refine ⟨.inl ⟨rfl, true, .none rfl, (fun gg b h => by cases h), fun h w => optUndef h, fun zβ za zw zc => ?_⟩, ?_⟩
          · exact fld_32_1 rfl (zc.kn.ev rfl) ⟨_, rfl, Below.refl _ _, optDef zβ rfl⟩
          refine ⟨.inr (.inr ⟨rfl, rfl, 34, by kernel_rfl, fun za zw ra rc zk zd zv zg => ?_⟩), ?_⟩
          · exact st_30 rfl ((show za.eval (.tmp 35) = za.tmps.getD 35 undef from rfl).trans (optSVal (zd 7 35 (by kernel_rfl) (by decide)) rfl rfl)) ((show za.eval (.tmp 34) = za.tmps.getD 34 undef from rfl).trans zv) zg.2 (by first | decide | simp) (fun v => ⟨v, rfl, ⟨zg.1.upd (Upd.at_ _ _ _ _) (by omega), zg.2.set_ 1 _⟩, .ofUpd (Upd.at_ _ _ _ _) (.inl rfl)⟩)
          exact trivial
        · intro za w173 ra176 rc177 zh zv hG174 hc175 zu
          have hb178 := chg_below hb162 hc175 (fun b hb => (fun h => by rcases hSlo _ h with h | h <;> omega))
          have hB179 := chg_blk hB165 hc175 (fun h => by rcases hSlo _ h with h | h <;> omega)
          have hB180 := chg_blk hB167 hc175 (fun h => by rcases hSlo _ h with h | h <;> omega)
          have hB181 := chg_blk hB169 hc175 (fun h => by rcases hSlo _ h with h | h <;> omega)
          have hB182 := chg_blk hB159 hc175 (fun h => by rcases hSlo _ h with h | h <;> omega)
          clear zu
          refine (show WE _ [(0, .agg #[.int .i64 f, .slice a l.length c]), (1, .func (.func 52) #[] #[.pointer (some ⟨gs, 0, none⟩)]), (2, .pointer (some ⟨g2, 0, none⟩)), (4, .pointer (some ⟨g10, 0, none⟩)), (5, .pointer (some ⟨g20, 0, none⟩)), (7, .pointer (some ⟨g146, 0, none⟩)), (13, .bool ((decide ((f : Int) < (0 : Int))))), (22, .slice a l.length c), (23, .int .i64 (((l.length : Nat) : Int))), (24, .int .i64 (((x.2.2 : Nat) : Int))), (25, .bool ((decide ((((x.2.2 : Nat) : Int) : Int) < (((l.length : Nat) : Int) : Int)))))] w173 _ .normal from ?_) za (zh.sub ⟨rfl, rfl, rfl, rfl, rfl, rfl, rfl, rfl, rfl, rfl, rfl, trivial⟩)
          refine WE.blockNormal ?_
          refine WE.next ?_
          refine WC.region ?_
          refine WL.val (.int .i64 ((((x.2.2 + 1) : Nat) : Int))) rfl rfl rfl (fun za zC zh zk => addb_3 rfl (zh.ev rfl) (zh.ev rfl) (wrap_eq (by omega) (by omega) (by omega)) zk) ?_
          refine WL.val (.int .i64 ((((x.2.2 + 1) : Nat) : Int))) rfl rfl rfl (fun za zC zh zk => wp_move rfl (zh.ev rfl) zk) ?_
          refine WL.nil (WE.sub (K' := [(0, .agg #[.int .i64 f, .slice a l.length c]), (1, .func (.func 52) #[] #[.pointer (some ⟨gs, 0, none⟩)]), (2, .pointer (some ⟨g2, 0, none⟩)), (4, .pointer (some ⟨g10, 0, none⟩)), (5, .pointer (some ⟨g20, 0, none⟩)), (7, .pointer (some ⟨g146, 0, none⟩)), (13, .bool ((decide ((f : Int) < (0 : Int))))), (22, .slice a l.length c), (23, .int .i64 (((l.length : Nat) : Int))), (24, .int .i64 ((((x.2.2 + 1) : Nat) : Int))), (25, .bool ((decide ((((x.2.2 : Nat) : Int) : Int) < (((l.length : Nat) : Int) : Int)))))]) ⟨rfl, rfl, rfl, rfl, rfl, rfl, rfl, rfl, rfl, rfl, rfl, trivial⟩ ?_)
          refine WE.round ((ra176, rc177, x.2.2 + 1)) ⟨rfl, rfl, rfl, rfl, rfl, rfl, rfl, rfl, rfl, trivial⟩ ?_ ?_
          · exact ⟨by (try dsimp only at *); omega, (Nat.le_trans (Nat.le_trans hBw hb163.size) hc175.size), hb178, hB179, hB180, hB181, hG174.2, (by rw [← take_mv (by (try dsimp only at *); omega)]; exact hG174.1)⟩
          · dsimp only; omega
      · have h138 : ¬ ((((x.2.2 : Nat) : Int) : Int) < (((l.length : Nat) : Int) : Int)) := by simpa using h138
        refine WC.exit ?_
        refine WE.thenExit ?_
        refine WE.thenExit ?_
        refine WE.blockIs rfl ?_
        refine WE.next ?_
        refine WC.seq ?_
        refine WC.region ?_
        refine WL.val (.agg #[.int .i64 f, .slice x.1 x.2.2 x.2.1]) rfl rfl rfl (fun za zC zh zk => ld_32 rfl (zh.ev rfl) ((hB136.cell 0).trans rfl) ((hB136.cell 1).trans rfl) zk) ?_
        refine WL.step (post := fun _ w' => Upd g10 w131 w' ∧ Blk w' g10 32 #[.int .i64 f, .slice x.1 x.2.2 x.2.1]) rfl rfl rfl (fun za zC zh zk => st_32 rfl (zh.ev rfl) (zh.ev rfl) rfl rfl hB135 (by first | decide | simp) (fun v => zk v _ ⟨(Upd.at_ _ _ _ _).trans (Upd.at_ _ _ _ _), (hB135.set_ 0 _).set_ 1 _⟩)) ?_
        rintro v186 w183 ⟨hu184, hB185⟩
        have hb187 := upd_below hb132 hu184 (by omega)
        have hB188 := upd_blk hB133 hu184 (by omega)
        have hB189 := upd_blk hB134 hu184 (by omega)
        have hB190 := upd_blk hB136 hu184 (by omega)
        have ho191 := ho137.upd hu184 (by omega)
        refine WL.nil (WE.sub (K' := [(0, .agg #[.int .i64 f, .slice a l.length c]), (1, .func (.func 52) #[] #[.pointer (some ⟨gs, 0, none⟩)]), (2, .pointer (some ⟨g2, 0, none⟩)), (4, .pointer (some ⟨g10, 0, none⟩)), (5, .pointer (some ⟨g20, 0, none⟩)), (13, .bool ((decide ((f : Int) < (0 : Int))))), (22, .slice a l.length c), (23, .int .i64 (((l.length : Nat) : Int))), (24, .int .i64 (((x.2.2 : Nat) : Int))), (25, .bool ((decide ((((x.2.2 : Nat) : Int) : Int) < (((l.length : Nat) : Int) : Int)))))]) ⟨rfl, rfl, rfl, rfl, rfl, rfl, rfl, rfl, rfl, rfl, trivial⟩ ?_)
        refine WE.next ?_
        refine WC.ret ?_
        refine WE.retAny (v := .agg #[.int .i64 f, .slice x.1 x.2.2 x.2.1]) (fun za zh => ?_) ?_
        · have z0 : za.tmps[4]?.getD undef = .pointer (some ⟨g10, 0, none⟩) := by rw [← Array.getD_eq_getD_getElem?]; exact zh.knows 4 _ rfl
          have y0 : w183.cell? ⟨g10, 0, none⟩ = some (.int .i64 f) := ((hB185.cell 0).trans rfl)
          have y1 : w183.cell? ⟨g10, 1, none⟩ = some (.slice x.1 x.2.2 x.2.1) := ((hB185.cell 1).trans rfl)
          simp [results, Try.results51, z0, y0, y1, go_sem]
        · have z := ho191
          rw [List.take_of_length_le (by omega)] at z
          exact ⟨_, rfl, by rw [mv_mk, mvF_pos ‹_›]; exact newT_row hf z (by omega), hb187⟩

set_option maxRecDepth 100000 in
theorem move_any (t : T) (m : Int) (w : World) (v : Value) (hz : t.size ≤ 4294967296) (hv : IsT w t v) (hm : I64 m) : Calls Try.prog 21 #[v, .int .i64 m] w (Ret fun v' w' => NewT w w' (t.mv m) v' ∧ Below w.heap.size w w') := by
  obtain ⟨hf, a, c, rfl, hc, hmx, hl⟩ := hv.form
  refine Calls.walk (l := [.agg #[.int .i64 t.f, .slice a t.args.length c], .int .i64 m]) Try.func21 rfl (by kernel_rfl) ?_
  refine WC.sub (K' := [(0, .agg #[.int .i64 t.f, .slice a t.args.length c]), (1, .int .i64 m)]) ⟨rfl, rfl, trivial⟩ ?_
  refine WC.seq ?_
  refine WC.region ?_
  refine WL.step (post := NewBlk w 32 #[.int .i64 t.f, .slice a t.args.length c]) rfl rfl rfl (fun za zC zh zk => box_32 rfl (zh.ev rfl) (zk _ _ (newBlk _ _ _))) ?_
  rintro _ w1 ⟨g2, rfl, hg3, hB4, hb5, hz6⟩
  have hl7 : w.heap.size ≤ g2 := by omega
  refine WL.step (post := NewBlk w1 3 #[.int .i64 m]) rfl rfl rfl (fun za zC zh zk => box_3 rfl (zh.ev rfl) (zk _ _ (newBlk _ _ _))) ?_
  rintro _ w8 ⟨g9, rfl, hg10, hB11, hb12, hz13⟩
  have hl14 : g2 < g9 := by have z1 := hB4.lt; omega
  have hl15 : w.heap.size ≤ g9 := by have z2 := (hb5).size; omega
  refine WL.step (post := NewBlk w8 32 #[.int .i64 0, .slice none 0 0]) rfl rfl rfl (fun za zC zh zk => alloc_32 rfl (zk _ _ (newBlk _ _ _))) ?_
  rintro _ w16 ⟨g17, rfl, hg18, hB19, hb20, hz21⟩
  have hl22 : g2 < g17 := by have z1 := hB4.lt; have z2 := (hb12).size; omega
  have hl23 : g9 < g17 := by have z1 := hB11.lt; omega
  have hb24 : Below w.heap.size w w8 := (bstep hb5 hb12)
  have hl25 : w.heap.size ≤ g17 := by have z2 := (hb24).size; omega
  refine WL.nil (WE.sub (K' := [(0, .agg #[.int .i64 t.f, .slice a t.args.length c]), (1, .int .i64 m), (2, .pointer (some ⟨g2, 0, none⟩)), (3, .pointer (some ⟨g9, 0, none⟩)), (4, .pointer (some ⟨g17, 0, none⟩))]) ⟨rfl, rfl, rfl, rfl, rfl, trivial⟩ ?_)
  refine WE.next ?_
  refine WC.seq ?_
  refine WC.region ?_
  have hb27 : Below w1.heap.size w1 w16 := (bstep hb12 hb20)
  have hB26 := hB4.below hb27
  refine WL.val (.agg #[.int .i64 t.f, .slice a t.args.length c]) rfl rfl rfl (fun za zC zh zk => ld_32 rfl (zh.ev rfl) ((hB26.cell 0).trans rfl) ((hB26.cell 1).trans rfl) zk) ?_
  refine WL.val (.func (Fn.func 52) #[] #[.pointer (some ⟨g9, 0, none⟩)]) rfl rfl rfl (fun za zC zh zk => mkfn rfl (hv0) (hv1 (zh.ev rfl)) zk) ?_
  have hB28 := hB11.below hb20
  have hb29 : Below w.heap.size w w16 := (bstep hb5 hb27)
  have hl33 : g2 < w16.heap.size := by have z1 := hB26.lt; omega
  have hl34 : g9 < w16.heap.size := by have z1 := hB28.lt; omega
  have hl35 : g17 < w16.heap.size := by have z1 := hB19.lt; omega
  have hl36 : w.heap.size ≤ w16.heap.size := (hb29).size
  refine WL.call rfl rfl rfl (fun za zh zC => wp_call (by kernel_rfl) rfl (hv2 (zh.ev rfl) (zh.ev rfl))) (renamed_any m _ hm t _ _ hz (IsT.below hb29 hv) hB28) ?_
  rintro v30 w37 ⟨hn31, hb32⟩
  obtain ⟨_, a38, c39, rfl, _, _, _⟩ := hn31.form
  have hB40 := hB19.below hb32
  refine WL.step (post := fun _ w' => Upd g17 w37 w' ∧ Blk w' g17 32 #[.int .i64 ((t.mv m).f), .slice a38 ((t.mv m).args.length) c39]) rfl rfl rfl (fun za zC zh zk => st_32 rfl (zh.ev rfl) (zh.ev rfl) rfl rfl hB40 (by first | decide | simp) (fun v => zk v _ ⟨(Upd.at_ _ _ _ _).trans (Upd.at_ _ _ _ _), (hB40.set_ 0 _).set_ 1 _⟩)) ?_
  rintro v44 w41 ⟨hu42, hB43⟩
  have hb45 : Below w.heap.size w w37 := (bstep hb29 hb32)
  have hb46 := upd_below hb45 hu42 (by omega)
  have hB47 := hB26.below hb32
  have hB48 := upd_blk hB47 hu42 (by omega)
  have hB49 := hB28.below hb32
  have hB50 := upd_blk hB49 hu42 (by omega)
  have ho51 := hn31.upd hu42 (by omega)
  refine WL.nil (WE.sub (K' := [(0, .agg #[.int .i64 t.f, .slice a t.args.length c]), (1, .int .i64 m), (2, .pointer (some ⟨g2, 0, none⟩)), (3, .pointer (some ⟨g9, 0, none⟩)), (4, .pointer (some ⟨g17, 0, none⟩))]) ⟨rfl, rfl, rfl, rfl, rfl, trivial⟩ ?_)
  refine WE.next ?_
  refine WC.ret ?_
  refine WE.retAny (v := .agg #[.int .i64 ((t.mv m).f), .slice a38 ((t.mv m).args.length) c39]) (fun za zh => ?_) ?_
  · have z0 : za.tmps[4]?.getD undef = .pointer (some ⟨g17, 0, none⟩) := by rw [← Array.getD_eq_getD_getElem?]; exact zh.knows 4 _ rfl
    have y0 : w41.cell? ⟨g17, 0, none⟩ = some (.int .i64 ((t.mv m).f)) := ((hB43.cell 0).trans rfl)
    have y1 : w41.cell? ⟨g17, 1, none⟩ = some (.slice a38 ((t.mv m).args.length) c39) := ((hB43.cell 1).trans rfl)
    simp [results, Try.results21, z0, y0, y1, go_sem]
  · have hgz := (hb29).size
    exact ⟨_, rfl, (ho51).mono (fun b hb _ => by omega), hb46⟩

end Go.Proofs.Ytgechlgdnnpoeaa

/- Names make no difference to a clause's normal form: plain. -/
namespace Go.Proofs.Ytgechlgdnnpoeaa
open Go.RowKit Go
set_option linter.unusedVariables false
set_option linter.unusedSimpArgs false

/-- Clauses alike but for their variables. -/
def clRel (R : Int → Int → Prop) : List Li → List Li → Prop
  | [], ms => ms = []
  | x :: r, ms => ∃ y s, ms = y :: s ∧ x.neg = y.neg ∧ x.l.rel R y.l ∧ x.r.rel R y.r ∧ clRel R r s
theorem clRel_rn {R : Int → Int → Prop} (hR : BiFun R) : ∀ (l m : List Li) (A B : List Int), clRel R l m → InvR R A B → (clRn l A).1 = (clRn m B).1 ∧ InvR R (clRn l A).2 (clRn m B).2
  | [], m, A, B, h, hi => by
    have : m = [] := h
    subst this
    rw [clRn, clRn]; exact ⟨rfl, hi⟩
  | x :: r, m, A, B, h, hi => by
    obtain ⟨y, s, rfl, h0, h1, h2, h3⟩ := h
    obtain ⟨k1, k2⟩ := T.rel_rn hR _ _ A B h1 hi
    obtain ⟨k3, k4⟩ := T.rel_rn hR _ _ _ _ h2 k2
    obtain ⟨k5, k6⟩ := clRel_rn hR r s _ _ h3 k4
    rw [clRn, clRn]
    refine ⟨?_, k6⟩
    show (x.rn A).1 :: _ = (y.rn B).1 :: _
    have e : (x.rn A).1 = (y.rn B).1 := by
      unfold Li.rn
      simp only
      rw [h0, k1, k3]
    rw [e]
    congr 1
theorem clRn_pre : ∀ (l : List Li) (ns : List Int), ns <+: (clRn l ns).2
  | [], ns => List.prefix_refl _
  | x :: r, ns => ((T.rn_pre x.l ns).trans (T.rn_pre x.r _)).trans (clRn_pre r _)
theorem clRn_nd : ∀ (l : List Li) (ns : List Int), ns.Nodup → (clRn l ns).2.Nodup
  | [], ns, h => h
  | x :: r, ns, h => clRn_nd r _ (T.rn_nd x.r _ (T.rn_nd x.l ns h))
def AtN (N : List Int) (v u : Int) : Prop := 0 ≤ u ∧ N[u.toNat]? = some v
theorem clRn_at {N : List Int} : ∀ (l : List Li) (ns : List Int), (∀ x ∈ l, x.l.plain = true ∧ x.r.plain = true) → (clRn l ns).2 <+: N → clRel (AtN N) l (clRn l ns).1
  | [], ns, _, _ => rfl
  | x :: r, ns, hp, h => by
    have h1 : (clRn r (x.rn ns).2).2 <+: N := h
    have h2 : (x.r.rn (x.l.rn ns).2).2 <+: N := (clRn_pre r _).trans h1
    exact ⟨_, _, rfl, rfl, T.rn_at x.l ns (hp x (by simp)).1 ((T.rn_pre x.r _).trans h2), T.rn_at x.r _ (hp x (by simp)).2 h2, clRn_at r _ (fun y hy => hp y (List.mem_cons_of_mem _ hy)) h1⟩
/-- A normal form is its own; nothing is put in for it. -/
theorem cl_twice {l : List Li} (hp : ∀ x ∈ l, x.l.plain = true ∧ x.r.plain = true) : (clRn (clRn l []).1 []).1 = (clRn l []).1 ∧ nmB (clRn (clRn l []).1 []).2 0 = [] := by
  have hn := clRn_nd l [] List.nodup_nil
  obtain ⟨h1, h2⟩ := clRel_rn (at_bi hn) l _ [] [] (clRn_at l [] hp (List.prefix_refl _)) inv_nil
  exact ⟨h1.symm, inv_id hn h2⟩
theorem clRn_parts {q : Nat} : ∀ (l : List Li) (ns : List Int), (∀ x ∈ l, x.l.size ≤ q ∧ x.r.size ≤ q) → ∀ y ∈ (clRn l ns).1, y.l.size ≤ q ∧ y.r.size ≤ q
  | [], ns, _, y, hy => nomatch hy
  | x :: r, ns, h, y, hy => by
    rcases List.mem_cons.1 (show y ∈ (x.rn ns).1 :: (clRn r (x.rn ns).2).1 from hy) with rfl | hy
    · have := h x (by simp)
      unfold Li.rn
      simp only
      rw [T.rn_size, T.rn_size]; exact this
    · exact clRn_parts r _ (fun z hz => h z (List.mem_cons_of_mem _ hz)) y hy
theorem clSz_bd {q : Nat} : ∀ (l : List Li), (∀ x ∈ l, x.l.size ≤ q ∧ x.r.size ≤ q) → clSz l ≤ l.length * (2 * q)
  | [], _ => by simp [clSz]
  | x :: r, h => by
    have h1 := h x (by simp)
    have h2 := clSz_bd r (fun z hz => h z (List.mem_cons_of_mem _ hz))
    rw [clSz, List.length_cons, Nat.add_mul]
    omega
-- what was named, put in
mutual
theorem T.rel_put {R : Int → Int → Prop} {z : List Bd} (hz : ∀ v u, R v u → (T.mk (-1 - v) []).app z = .mk (-1 - u) []) : ∀ (a b : T), a.rel R b → a.app z = b
  | .mk f l, .mk g m, h => by
    rw [T.rel] at h
    split at h
    · rename_i hf
      obtain ⟨rfl, hg, hm, hr⟩ := h
      have hm' : m = [] := hm
      subst hm'
      have := hz _ _ hr
      rw [show -1 - (-1 - f) = f by omega] at this
      rw [this]
      show T.mk (-1 - (-1 - g)) [] = T.mk g []
      rw [show -1 - (-1 - g) = g by omega]
    · rename_i hf
      obtain ⟨he, hl⟩ := h
      have he' : f = g := he
      rw [app_none (fun q => absurd q hf), T.relL_put hz l m hl, he']
theorem T.relL_put {R : Int → Int → Prop} {z : List Bd} (hz : ∀ v u, R v u → (T.mk (-1 - v) []).app z = .mk (-1 - u) []) : ∀ (l m : List T), T.relL R l m → l.map (T.app z) = m
  | [], m, h => by have : m = [] := h; subst this; rfl
  | p :: ps, m, h => by
    obtain ⟨t, r, rfl, h1, h2⟩ := h
    rw [List.map_cons, T.rel_put hz p t h1, T.relL_put hz ps r h2]
end
theorem clRel_put {R : Int → Int → Prop} {z : List Bd} (hz : ∀ v u, R v u → (T.mk (-1 - v) []).app z = .mk (-1 - u) []) : ∀ (l m : List Li), clRel R l m → l.map (Li.app z) = m
  | [], m, h => by have : m = [] := h; subst this; rfl
  | x :: r, m, h => by
    obtain ⟨y, s, rfl, h0, h1, h2, h3⟩ := h
    rw [List.map_cons, clRel_put hz r s h3]
    congr 1
    unfold Li.app
    rw [T.rel_put hz _ _ h1, T.rel_put hz _ _ h2, h0]
theorem nmB_mem : ∀ (N : List Int) (k : Nat) (b : Bd), b ∈ nmB N k ↔ ∃ i : Nat, N[i]? = some b.var ∧ ((k + i : Nat) : Int) ≠ b.var ∧ b.t = .mk (-1 - ((k + i : Nat) : Int)) []
  | [], k, b => by simp [nmB]
  | u :: r, k, b => by
    rw [nmB, List.mem_append, nmB_mem r (k + 1) b]
    constructor
    · rintro (h | ⟨i, h1, h2, h3⟩)
      · split at h
        · cases h
        · rename_i hk
          rw [List.mem_singleton] at h
          subst h
          exact ⟨0, by simp, by simpa using hk, by simp⟩
      · exact ⟨i + 1, by rw [List.getElem?_cons_succ]; exact h1, by rw [show k + (i + 1) = k + 1 + i by omega]; exact h2, by rw [show k + (i + 1) = k + 1 + i by omega]; exact h3⟩
    · rintro ⟨i, h1, h2, h3⟩
      cases i with
      | zero =>
        left
        simp at h1 h2 h3
        rw [if_neg (by rw [h1]; exact h2), List.mem_singleton]
        obtain ⟨bv, bt⟩ := b
        simp only at h1 h3
        rw [h1, h3]
      | succ i =>
        right
        rw [List.getElem?_cons_succ] at h1
        rw [show k + (i + 1) = k + 1 + i by omega] at h2 h3
        exact ⟨i, h1, h2, h3⟩
theorem put_name {N : List Int} {z : List Bd} (hn : N.Nodup) (hp : z.Perm (nmB N 0)) {v u : Int} (h0 : 0 ≤ v) (h : AtN N v u) : (T.mk (-1 - v) []).app z = .mk (-1 - u) [] := by
  obtain ⟨hu, hN⟩ := h
  have hf : -1 - v < 0 := by omega
  have hvv : -1 - (-1 - v) = v := by omega
  have hm : ∀ b, b ∈ z → b.var = v → b.t = .mk (-1 - u) [] ∧ u ≠ v := by
    intro b hb hbv
    obtain ⟨i, h1, h2, h3⟩ := (nmB_mem N 0 b).1 (hp.mem_iff.1 hb)
    rw [hbv] at h1 h2
    obtain ⟨q1, e1⟩ := List.getElem?_eq_some_iff.1 h1
    obtain ⟨q2, e2⟩ := List.getElem?_eq_some_iff.1 hN
    have := nd_inj hn q1 q2 (e1.trans e2.symm)
    have e3 : ((0 + i : Nat) : Int) = u := by omega
    rw [e3] at h2 h3
    exact ⟨h3, h2⟩
  cases hs : subFind z v with
  | some t =>
    rw [app_some hf (by rw [hvv]; exact hs)]
    unfold subFind at hs
    rw [Option.map_eq_some_iff] at hs
    obtain ⟨b, hb, rfl⟩ := hs
    have hb1 := List.mem_of_find?_eq_some hb
    have hb2 := List.find?_some hb
    simp only [decide_eq_true_eq] at hb2
    exact (hm b hb1 hb2).1
  | none =>
    rw [app_none (fun _ => by rw [hvv]; exact hs)]
    have : u = v := by
      refine Classical.byContradiction fun hne => ?_
      have hb : (⟨v, .mk (-1 - u) []⟩ : Bd) ∈ nmB N 0 := (nmB_mem N 0 _).2 ⟨u.toNat, hN, by simp; omega, by simp; omega⟩
      have hz := hp.mem_iff.2 hb
      unfold subFind at hs
      rw [Option.map_eq_none_iff, List.find?_eq_none] at hs
      exact hs _ hz (by simp)
    rw [this]; rfl
/-- All that was named is a variable. -/
def NNeg (N : List Int) : Prop := ∀ v ∈ N, 0 ≤ v
theorem nmTo_nn {N : List Int} {v : Int} (h : NNeg N) (hv : 0 ≤ v) : NNeg (nmTo N v).2 := by
  unfold nmTo
  split
  · exact h
  · intro x hx
    rcases List.mem_append.1 hx with hx | hx
    · exact h x hx
    · rw [List.mem_singleton] at hx; omega
mutual
theorem T.rn_nn : ∀ (t : T) (ns : List Int), NNeg ns → NNeg (t.rn ns).2
  | .mk f l, ns, h => by
    rw [T.rn]
    split
    · exact T.rnL_nn l _ (nmTo_nn h (by omega))
    · exact T.rnL_nn l ns h
theorem T.rnL_nn : ∀ (l : List T) (ns : List Int), NNeg ns → NNeg (T.rnL l ns).2
  | [], ns, h => by rw [T.rnL]; exact h
  | t :: r, ns, h => by rw [T.rnL]; exact T.rnL_nn r _ (T.rn_nn t ns h)
end
theorem clRn_nn : ∀ (l : List Li) (ns : List Int), NNeg ns → NNeg (clRn l ns).2
  | [], ns, h => h
  | x :: r, ns, h => clRn_nn r _ (T.rn_nn x.r _ (T.rn_nn x.l ns h))
/-- What Normal tells makes the normal form. -/
theorem cl_puts {l : List Li} {z : List Bd} (hp : ∀ x ∈ l, x.l.plain = true ∧ x.r.plain = true) (hz : z.Perm (nmB (clRn l []).2 0)) : l.map (Li.app z) = (clRn l []).1 := by
  have hn := clRn_nd l [] List.nodup_nil
  have h0 : NNeg (clRn l []).2 := clRn_nn l [] (fun v hv => nomatch hv)
  exact clRel_put (R := AtN (clRn l []).2) (fun v u h => put_name hn hz (h0 v (List.mem_of_getElem? h.2)) h) l _ (clRn_at l [] hp (List.prefix_refl _))
-- variables moved
def ShR (m v u : Int) : Prop := u = v + m
theorem shR_bi (m : Int) : BiFun (ShR m) := ⟨fun v u u' h h' => by unfold ShR at *; omega, fun v v' u h h' => by unfold ShR at *; omega⟩
mutual
theorem T.mv_rel {m : Int} (h0 : 0 ≤ m) (h1 : m ≤ 1000000) : ∀ t : T, t.low 48 = true → t.rel (ShR m) (t.mv m) ∧ (t.mv m).plain = true
  | .mk f l, h => by
    rw [T.low] at h
    rw [T.rel, T.mv]
    by_cases hf : f < 0
    · rw [if_pos hf] at h ⊢
      simp only [Bool.and_eq_true, decide_eq_true_eq] at h
      have hl : l = [] := List.length_eq_zero_iff.1 h.2
      subst hl
      have e : mvF f m = -1 - (-1 - f + m) := by rw [mvF_neg hf, mvTo_yes (mvOk_iff.2 (.inl ⟨h0, by omega, by omega⟩))]
      rw [e, T.mvL]
      refine ⟨⟨rfl, by show -1 - (-1 - f + m) < 0; omega, rfl, by show -1 - (-1 - (-1 - f + m)) = -1 - f + m; omega⟩, by simp [T.plain, T.plainL]⟩
    · rw [if_neg hf] at h ⊢
      obtain ⟨k1, k2⟩ := T.mvL_rel h0 h1 l h
      rw [mvF_pos hf]
      refine ⟨⟨rfl, k1⟩, ?_⟩
      rw [T.plain]; simp [k2]; omega
theorem T.mvL_rel {m : Int} (h0 : 0 ≤ m) (h1 : m ≤ 1000000) : ∀ l : List T, T.lowL 48 l = true → T.relL (ShR m) l (T.mvL m l) ∧ T.plainL (T.mvL m l) = true
  | [], _ => by rw [T.mvL]; exact ⟨rfl, rfl⟩
  | t :: r, h => by
    rw [T.lowL, Bool.and_eq_true] at h
    obtain ⟨k1, k2⟩ := T.mv_rel h0 h1 t h.1
    obtain ⟨k3, k4⟩ := T.mvL_rel h0 h1 r h.2
    rw [T.mvL]
    exact ⟨⟨_, _, rfl, k1, k3⟩, by rw [T.plainL, k2, k4]; rfl⟩
end
mutual
theorem T.mv_size (m : Int) : ∀ t : T, (t.mv m).size = t.size
  | .mk f l => by rw [T.mv, T.size, T.size, T.mvL_size m l]
theorem T.mvL_size (m : Int) : ∀ l : List T, T.sizeL (T.mvL m l) = T.sizeL l
  | [] => by rw [T.mvL]
  | t :: r => by rw [T.mvL, T.sizeL, T.sizeL, T.mv_size m t, T.mvL_size m r]
end
def Li.mv (m : Int) (x : Li) : Li := ⟨x.neg, x.l.mv m, x.r.mv m⟩
theorem cl_mvrel {m : Int} (h0 : 0 ≤ m) (h1 : m ≤ 1000000) : ∀ l : List Li, (∀ x ∈ l, x.l.low 48 = true ∧ x.r.low 48 = true) → clRel (ShR m) l (l.map (Li.mv m))
  | [], _ => rfl
  | x :: r, h => ⟨_, _, rfl, rfl, (T.mv_rel h0 h1 _ (h x (by simp)).1).1, (T.mv_rel h0 h1 _ (h x (by simp)).2).1, cl_mvrel h0 h1 r (fun z hz => h z (List.mem_cons_of_mem _ hz))⟩
theorem cl_moved {m : Int} (h0 : 0 ≤ m) (h1 : m ≤ 1000000) {l : List Li} (h : ∀ x ∈ l, x.l.low 48 = true ∧ x.r.low 48 = true) : (clRn l []).1 = (clRn (l.map (Li.mv m)) []).1 := (clRel_rn (shR_bi m) l _ [] [] (cl_mvrel h0 h1 l h) inv_nil).1
theorem cl_mvplain {m : Int} (h0 : 0 ≤ m) (h1 : m ≤ 1000000) {l : List Li} (h : ∀ x ∈ l, x.l.low 48 = true ∧ x.r.low 48 = true) : ∀ y ∈ l.map (Li.mv m), y.l.plain = true ∧ y.r.plain = true := by
  intro y hy
  obtain ⟨x, hx, rfl⟩ := List.mem_map.1 hy
  exact ⟨(T.mv_rel h0 h1 _ (h x hx).1).2, (T.mv_rel h0 h1 _ (h x hx).2).2⟩
theorem cl_mvsize {m : Int} {q : Nat} {l : List Li} (h : ∀ x ∈ l, x.l.size ≤ q ∧ x.r.size ≤ q) : ∀ y ∈ l.map (Li.mv m), y.l.size ≤ q ∧ y.r.size ≤ q := by
  intro y hy
  obtain ⟨x, hx, rfl⟩ := List.mem_map.1 hy
  have := h x hx
  unfold Li.mv
  simp only
  rw [T.mv_size, T.mv_size]; exact this
end Go.Proofs.Ytgechlgdnnpoeaa

/- Operations, one law a kind and type. -/
namespace Go.Proofs.Ytgechlgdnnpoeaa
open Go.RowKit Go
set_option linter.unusedVariables false
set_option linter.unusedSimpArgs false
set_option maxRecDepth 100000



end Go.Proofs.Ytgechlgdnnpoeaa

/- A variable is named: the closure that writes what was named. -/
namespace Go.Proofs.Ytgechlgdnnpoeaa
open Go.RowKit Go
set_option linter.unusedVariables false
set_option linter.unusedSimpArgs false

set_option linter.unnecessarySimpa false

theorem zeroInt (w : World) : (zeroValue 3).run Try.prog w = .ok (.int .i64 0) w := by kernel_rfl
theorem inT_lf {S : Nat → Prop} {w : World} {f : Int} (hf : I64 f) : InT S w (.mk f []) (.agg #[.int .i64 f, .slice none 0 0]) := ⟨hf, none, 0, rfl, Nat.le_refl _, Nat.zero_le _, trivial⟩
theorem nmTo_some {ns : List Int} {v : Int} {i : Nat} (h : nmIx ns v 0 = some i) : nmTo ns v = (i, ns) := by unfold nmTo; rw [h]
theorem nmTo_none {ns : List Int} {v : Int} (h : nmIx ns v 0 = none) : nmTo ns v = (ns.length, ns ++ [v]) := by unfold nmTo; rw [h]
set_option maxRecDepth 100000 in
theorem nto_any {gn gs : Nat} {ns : List Int} {C : Nat → Prop} (v : Int) (w : World) (h : NmAt w gn gs ns C) (hv : I64 v) (hl : ns.length ≤ 1099511627776) : Calls Try.prog 54 #[.int .i64 v, .pointer (some ⟨gn, 0, none⟩), .pointer (some ⟨gs, 0, none⟩)] w (Ret fun v' w' => (∃ C', v' = .int .i64 ((nmTo ns v).1 : Nat) ∧ NmAt w' gn gs (nmTo ns v).2 C' ∧ ∀ b, C' b → C b ∨ w.heap.size ≤ b) ∧ Chg C w w') := by
  have h0 := h
  obtain ⟨mb, es, cl, a, c, hN⟩ := h
  have hmn := hN.mn
  have hms := hN.ms
  have hgn := hN.bn.lt
  have hgs := hN.bs.lt
  have hgm := hN.mp.lt
  have hgg := hN.ne
  have hr1 := hN.rown
  have hr2 := hN.rows
  have hr3 := hN.rowm
  have hbl := nmB_len ns 0
  have hri := hN.row.inRow
  have hv2 := hv
  unfold I64 at hv2
  refine Calls.walk (l := [.int .i64 v, .pointer (some ⟨gn, 0, none⟩), .pointer (some ⟨gs, 0, none⟩)]) Try.func54 rfl (by kernel_rfl) ?_
  refine WC.sub (K' := [(0, .int .i64 v), (1, .pointer (some ⟨gn, 0, none⟩)), (2, .pointer (some ⟨gs, 0, none⟩))]) ⟨rfl, rfl, rfl, trivial⟩ ?_
  refine WC.seq ?_
  refine WC.region ?_
  refine WL.val (.int .i64 0) rfl rfl rfl (fun za zC zh zk => wp_assign rfl (zh.ev rfl) zk) ?_
  refine WL.nil (WE.sub (K' := [(0, .int .i64 v), (1, .pointer (some ⟨gn, 0, none⟩)), (2, .pointer (some ⟨gs, 0, none⟩)), (4, .int .i64 0)]) ⟨rfl, rfl, rfl, rfl, trivial⟩ ?_)
  refine WE.next ?_
  refine WC.seq ?_
  refine WC.region ?_
  refine WL.val (.map ((some mb))) rfl rfl rfl (fun za zC zh zk => ld_75 rfl (zh.ev rfl) ((hN.bn.cell 0).trans rfl) zk) ?_
  refine WL.val (.int .i64 v) rfl rfl rfl (fun za zC zh zk => wp_move rfl (zh.ev rfl) zk) ?_
  rcases hix : nmIx ns v 0 with _ | i
  · refine WL.val (.tuple #[.int .i64 0, .bool false]) rfl rfl rfl (fun za zC zh zk => wp_lookok_im Try.underlying75 Try.underlying3 (zeroInt _) hN.mp hN.ent rfl (zh.ev rfl) (zh.ev rfl) (by rw [nm_look, hix]; exact zk)) ?_
    refine WL.val (.tuple #[.int .i64 0, .bool false]) rfl rfl rfl (fun za zC zh zk => wp_move rfl (zh.ev rfl) zk) ?_
    refine WL.val (.int .i64 0) rfl rfl rfl (fun za zC zh zk => ext2_0 rfl (zh.ev rfl) zk) ?_
    refine WL.val (.bool false) rfl rfl rfl (fun za zC zh zk => ext2_1 rfl (zh.ev rfl) zk) ?_
    refine WL.val (.int .i64 0) rfl rfl rfl (fun za zC zh zk => wp_assign rfl (zh.ev rfl) zk) ?_
    refine WL.val (.bool false) rfl rfl rfl (fun za zC zh zk => wp_assign rfl (zh.ev rfl) zk) ?_
    refine WL.nil (WE.sub (K' := [(0, .int .i64 v), (1, .pointer (some ⟨gn, 0, none⟩)), (2, .pointer (some ⟨gs, 0, none⟩)), (4, .int .i64 0), (5, .int .i64 0), (6, .bool false)]) ⟨rfl, rfl, rfl, rfl, rfl, rfl, trivial⟩ ?_)
    refine WE.next ?_
    refine WC.seq ?_
    refine WC.seq ?_
    refine WC.region ?_
    refine WL.val (.bool false) rfl rfl rfl (fun za zC zh zk => wp_move rfl (zh.ev rfl) zk) ?_
    refine WL.val (.bool true) rfl rfl rfl (fun za zC zh zk => wp_not rfl (zh.ev rfl) zk) ?_
    refine WL.nil (WE.sub (K' := [(0, .int .i64 v), (1, .pointer (some ⟨gn, 0, none⟩)), (2, .pointer (some ⟨gs, 0, none⟩)), (4, .int .i64 0), (5, .int .i64 0), (6, .bool false), (14, .bool true)]) ⟨rfl, rfl, rfl, rfl, rfl, rfl, rfl, trivial⟩ ?_)
    refine WE.next ?_
    refine WC.condT rfl rfl ?_
    refine WC.seq ?_
    refine WC.region ?_
    refine WL.val (.map ((some mb))) rfl rfl rfl (fun za zC zh zk => ld_75 rfl (zh.ev rfl) ((hN.bn.cell 0).trans rfl) zk) ?_
    refine WL.val (.int .i64 ((ns.length : Nat) : Int)) rfl rfl rfl (fun za zC zh zk => wp_lenMap_im Try.underlying75 hN.mp hN.ent rfl (zh.ev rfl) (by rw [nmL_len]; exact zk)) ?_
    refine WL.val (.int .i64 (((ns.length : Nat) : Int))) rfl rfl rfl (fun za zC zh zk => wp_assign rfl (zh.ev rfl) zk) ?_
    refine WL.nil (WE.sub (K' := [(0, .int .i64 v), (1, .pointer (some ⟨gn, 0, none⟩)), (2, .pointer (some ⟨gs, 0, none⟩)), (4, .int .i64 0), (5, .int .i64 (((ns.length : Nat) : Int))), (6, .bool false), (14, .bool true)]) ⟨rfl, rfl, rfl, rfl, rfl, rfl, rfl, trivial⟩ ?_)
    refine WE.next ?_
    refine WC.seq ?_
    refine WC.region ?_
    refine WL.val (.map ((some mb))) rfl rfl rfl (fun za zC zh zk => ld_75 rfl (zh.ev rfl) ((hN.bn.cell 0).trans rfl) zk) ?_
    refine WL.val (.int .i64 v) rfl rfl rfl (fun za zC zh zk => wp_move rfl (zh.ev rfl) zk) ?_
    refine WL.val (.int .i64 (((ns.length : Nat) : Int))) rfl rfl rfl (fun za zC zh zk => wp_move rfl (zh.ev rfl) zk) ?_
    refine WL.step (post := fun _ w' => ∃ es' cl', ObjAt w' mb (.map es' cl') ∧ ImE es' cl' (nmL ns 0 ++ [(v, .int .i64 ((ns.length : Nat) : Int))]) ∧ Upd mb w w') rfl rfl rfl (fun za zC zh zk => wp_put_im Try.underlying75 Try.underlying3 hN.mp hN.ent rfl (zh.ev rfl) (zh.ev rfl) (zh.ev rfl) (nm_none hix) (fun w' es' cl' h1 h2 h3 => zk _ _ ⟨es', cl', h1, h2, h3⟩)) ?_
    rintro _ w1 ⟨es2, cl3, hM4, hE5, hu6⟩
    have hB7 := upd_blk hN.bn hu6 (by omega)
    have hB8 := upd_blk hN.bs hu6 (by omega)
    refine WL.nil (WE.sub (K' := [(0, .int .i64 v), (1, .pointer (some ⟨gn, 0, none⟩)), (2, .pointer (some ⟨gs, 0, none⟩)), (4, .int .i64 0), (5, .int .i64 (((ns.length : Nat) : Int))), (6, .bool false), (14, .bool true)]) ⟨rfl, rfl, rfl, rfl, rfl, rfl, rfl, trivial⟩ ?_)
    refine WE.next ?_
    refine WC.seq ?_
    refine WC.region ?_
    refine WL.val (.int .i64 (((ns.length : Nat) : Int))) rfl rfl rfl (fun za zC zh zk => wp_move rfl (zh.ev rfl) zk) ?_
    refine WL.val (.int .i64 v) rfl rfl rfl (fun za zC zh zk => wp_move rfl (zh.ev rfl) zk) ?_
    refine WL.val (.bool (((((ns.length : Nat) : Int) : Int) != (v : Int)))) rfl rfl rfl (fun za zC zh zk => neq_3 rfl (zh.ev rfl) (zh.ev rfl) zk) ?_
    refine WL.nil (WE.sub (K' := [(0, .int .i64 v), (1, .pointer (some ⟨gn, 0, none⟩)), (2, .pointer (some ⟨gs, 0, none⟩)), (4, .int .i64 0), (5, .int .i64 (((ns.length : Nat) : Int))), (6, .bool false), (14, .bool true), (22, .bool (((((ns.length : Nat) : Int) : Int) != (v : Int))))]) ⟨rfl, rfl, rfl, rfl, rfl, rfl, rfl, rfl, trivial⟩ ?_)
    refine WE.next ?_
    refine WC.cond rfl (fun h9 => ?_) (fun h9 => ?_)
    · have h9 : (((ns.length : Nat) : Int) : Int) ≠ (v : Int) := by simpa using h9
      refine WC.region ?_
      refine WL.val (.slice a ((nmB ns 0).length) c) rfl rfl rfl (fun za zC zh zk => ld_23 rfl (zh.ev rfl) ((hB8.cell 0).trans rfl) zk) ?_
      refine WL.val (.int .i64 v) rfl rfl rfl (fun za zC zh zk => wp_move rfl (zh.ev rfl) zk) ?_
      refine WL.val (.int .i64 (((ns.length : Nat) : Int))) rfl rfl rfl (fun za zC zh zk => wp_move rfl (zh.ev rfl) zk) ?_
      refine WL.val (.int .i64 ((-1 - ((ns.length : Nat) : Int)))) rfl rfl rfl (fun za zC zh zk => subb_3 rfl (zh.ev rfl) (zh.ev rfl) (wrap_eq rfl (by omega) (by omega)) zk) ?_
      refine WL.val (.agg #[.int .i64 ((-1 - ((ns.length : Nat) : Int))), .slice none 0 0]) rfl rfl rfl (fun za zC zh zk => build_32_0 rfl (zh.ev rfl) zk) ?_
      refine WL.val (.agg #[.int .i64 v, .int .i64 ((-1 - ((ns.length : Nat) : Int))), .slice none 0 0]) rfl rfl rfl (fun za zC zh zk => build_56_0_1 rfl (zh.ev rfl) (zh.ev rfl) zk) ?_
      refine WL.step (post := NewRow w1 56 #[.int .i64 v, .int .i64 ((-1 - ((ns.length : Nat) : Int))), .slice none 0 0] 1) rfl rfl rfl (fun za zC zh zk => row_23_1 rfl (zh.ev rfl) (zk _ _ (newRow _ _ _ _))) ?_
      rintro _ w10 ⟨g11, rfl, hg12, hB13, hb14, hz15⟩
      have hl16 : gn < g11 := by have z1 := hB7.lt; omega
      have hl17 : gs < g11 := by have z1 := hB8.lt; omega
      have hl18 : mb < g11 := by have z1 := hM4.lt; omega
      have hs19 : Chg ((fun b => b = mb)) w w10 := (Chg.trans2 (Chg.trans2 (Chg.refl ((fun b => b = mb)) _) (Chg.ofUpd (S := fun k => k = mb) hu6 rfl) (fun i h1 h2 => by first | exact h2 | exact .inl ⟨h2, h1⟩ | exact .inl h2 | exact .inr h2 | exact .inr (.inl h2) | exact .inr (.inr h2) | ((try dsimp only at *); omega))) (Chg.ofBelow (S := fun k => k < 0) hb14) (fun i h1 h2 => by first | exact h2 | exact .inl ⟨h2, h1⟩ | exact .inl h2 | exact .inr h2 | exact .inr (.inl h2) | exact .inr (.inr h2) | ((try dsimp only at *); omega)))
      have hrw := hN.row.chg hs19 (fun b q e => hr3 (by subst e; exact q)) (fun _ q => q.elim)
      have hB20 := hB7.below hb14
      have hB21 := hB8.below hb14
      refine WL.step (post := fun v' w' => ∃ ra rc, v' = .slice ra ((nmB ns 0).length + 1) rc ∧ RowD eltB (fun _ => False) w' 56 ra rc ((nmB ns 0).length + 1) (nmB ns 0 ++ [(⟨v, .mk (-1 - ((ns.length : Nat) : Int)) []⟩ : Bd)]) ∧ Chg (fun b => (Value.slice a (nmB ns 0).length c).ownBlock = some b) w10 w' ∧ ∀ b, (Value.slice ra ((nmB ns 0).length + 1) rc).ownBlock = some b → (Value.slice a (nmB ns 0).length c).ownBlock = some b ∨ w10.heap.size ≤ b) rfl rfl rfl (fun za zC zh zk => wp_appD (E := eltB) (S2 := fun _ => False) (size := 3) (bytes := 40) (z := .agg #[.int .i64 0, .int .i64 0, .slice none 0 0]) (y := (⟨v, .mk (-1 - ((ns.length : Nat) : Int)) []⟩ : Bd)) (cs := [.int .i64 v, .int .i64 (-1 - ((ns.length : Nat) : Int)), .slice none 0 0]) rfl Try.underlying23 (by kernel_rfl) rfl (by decide) rfl (zh.ev rfl) (zh.ev rfl) hrw hB13 ⟨_, _, rfl, hv, inT_lf (by unfold I64; omega)⟩ (fun _ q => q.elim) (by omega) (by omega) (fun ra rc w' h1 h2 h3 => zk _ _ ⟨ra, rc, rfl, h1.mono (fun b q _ => q.1.elim id id) (fun _ q => q.elim), h2, h3⟩)) ?_
      rintro _ w22 ⟨ra23, rc24, rfl, hR25, hc26, ho27⟩
      have ho28 := hM4.below hb14
      have hB29 := chg_blk hB20 hc26 (by assumption)
      have hB30 := chg_blk hB21 hc26 (by assumption)
      have ho31 := ho28.chg hc26 (by assumption)
      have hRne := hR25.neBlk hB30 (by decide)
      refine WL.step (post := fun _ w' => Upd gs w22 w' ∧ Blk w' gs 23 #[.slice ra23 (((nmB ns 0).length + 1)) rc24]) rfl rfl rfl (fun za zC zh zk => st_23 rfl (zh.ev rfl) (zh.ev rfl) hB30 (by first | decide | simp) (fun v => zk v _ ⟨Upd.at_ _ _ _ _, hB30.set_ 0 _⟩)) ?_
      rintro v35 w32 ⟨hu33, hB34⟩
      have hB36 := upd_blk hB29 hu33 (by omega)
      have ho37 := ho31.upd hu33 (by omega)
      refine WL.nil (WE.sub (K' := [(0, .int .i64 v), (1, .pointer (some ⟨gn, 0, none⟩)), (2, .pointer (some ⟨gs, 0, none⟩)), (4, .int .i64 0), (5, .int .i64 (((ns.length : Nat) : Int))), (6, .bool false), (14, .bool true), (22, .bool (((((ns.length : Nat) : Int) : Int) != (v : Int))))]) ⟨rfl, rfl, rfl, rfl, rfl, rfl, rfl, rfl, trivial⟩ ?_)
      refine WE.next ?_
      refine WC.seq ?_
      refine WC.region ?_
      refine WL.val (.int .i64 (((ns.length : Nat) : Int))) rfl rfl rfl (fun za zC zh zk => wp_move rfl (zh.ev rfl) zk) ?_
      refine WL.val (.int .i64 (((ns.length : Nat) : Int))) rfl rfl rfl (fun za zC zh zk => wp_assign rfl (zh.ev rfl) zk) ?_
      refine WL.nil (WE.sub (K' := [(0, .int .i64 v), (1, .pointer (some ⟨gn, 0, none⟩)), (2, .pointer (some ⟨gs, 0, none⟩)), (4, .int .i64 (((ns.length : Nat) : Int))), (5, .int .i64 (((ns.length : Nat) : Int))), (6, .bool false), (14, .bool true), (22, .bool (((((ns.length : Nat) : Int) : Int) != (v : Int))))]) ⟨rfl, rfl, rfl, rfl, rfl, rfl, rfl, rfl, trivial⟩ ?_)
      refine WE.next ?_
      refine WC.ret ?_
      refine WE.ret1 rfl rfl ?_
      rw [nmTo_none hix]
      have heq := nmB_snoc ns v 0
      rw [Nat.zero_add] at heq
      have hs38 : Chg ((fun b => b = mb ∨ b = gs ∨ (Value.slice a (nmB ns 0).length c).ownBlock = some b)) w w32 := (Chg.trans2 (Chg.trans2 (Chg.trans2 (Chg.trans2 (Chg.refl ((fun b => b = mb ∨ b = gs ∨ (Value.slice a (nmB ns 0).length c).ownBlock = some b)) _) (Chg.ofUpd (S := fun k => k = mb) hu6 rfl) (fun i h1 h2 => by first | exact h2 | exact .inl ⟨h2, h1⟩ | exact .inl h2 | exact .inr h2 | exact .inr (.inl h2) | exact .inr (.inr h2) | ((try dsimp only at *); omega))) (Chg.ofBelow (S := fun k => k < 0) hb14) (fun i h1 h2 => by first | exact h2 | exact .inl ⟨h2, h1⟩ | exact .inl h2 | exact .inr h2 | exact .inr (.inl h2) | exact .inr (.inr h2) | ((try dsimp only at *); omega))) hc26 (fun i h1 h2 => by first | exact h2 | exact .inl ⟨h2, h1⟩ | exact .inl h2 | exact .inr h2 | exact .inr (.inl h2) | exact .inr (.inr h2) | ((try dsimp only at *); omega))) (Chg.ofUpd (S := fun k => k = gs) hu33 rfl) (fun i h1 h2 => by first | exact h2 | exact .inl ⟨h2, h1⟩ | exact .inl h2 | exact .inr h2 | exact .inr (.inl h2) | exact .inr (.inr h2) | ((try dsimp only at *); omega)))
      have hs39 : Chg ((fun b => b = gs)) w22 w32 := (Chg.trans2 (Chg.refl ((fun b => b = gs)) _) (Chg.ofUpd (S := fun k => k = gs) hu33 rfl) (fun i h1 h2 => by first | exact h2 | exact .inl ⟨h2, h1⟩ | exact .inl h2 | exact .inr h2 | exact .inr (.inl h2) | exact .inr (.inr h2) | ((try dsimp only at *); omega)))
      rw [if_neg (by omega)] at heq
      have hln : (nmB (ns ++ [v]) 0).length = (nmB ns 0).length + 1 := by rw [heq]; simp
      have hng : (Value.slice ra23 ((nmB ns 0).length + 1) rc24).ownBlock ≠ some gs := hRne
      have hrw := hR25.chg hs39 (fun b q e => hng (by subst e; exact q)) (fun _ q => q.elim)
      have hle := hs38.size
      refine ⟨_, rfl, ⟨fun b => C b ∨ (w.heap.size ≤ b ∧ b < w32.heap.size), rfl, ⟨mb, es2, cl3, ra23, rc24, ?_⟩, fun b q => q.imp id (fun q => q.1)⟩, hs38.mono (fun b q => by rcases q with rfl | rfl | q; exact hN.cm; exact hN.cs; exact hN.crow b q)⟩
      refine ⟨hB36, ho37, by rw [nmL_snoc, Nat.zero_add]; exact hE5, by rw [hln]; exact hB34, by rw [hln, heq]; exact hrw, hN.ne, .inl hN.cn, .inl hN.cs, .inl hN.cm, ?_, fun b q => q.elim (fun q => Nat.lt_of_lt_of_le (hN.clt b q) hle) (fun q => q.2)⟩
      rw [hln]
      intro b q
      rcases ho27 b q with q2 | q2
      · exact .inl (hN.crow b q2)
      · exact .inr ⟨by have z : w.heap.size ≤ _ := (Nat.le_trans (Nat.le_of_eq hu6.size.symm) hb14.size); omega, hrw.lt b q⟩
    · have h9 : ¬ ((((ns.length : Nat) : Int) : Int) ≠ (v : Int)) := by simpa using h9
      refine WC.skip ?_
      refine WE.next ?_
      refine WC.seq ?_
      refine WC.region ?_
      refine WL.val (.int .i64 (((ns.length : Nat) : Int))) rfl rfl rfl (fun za zC zh zk => wp_move rfl (zh.ev rfl) zk) ?_
      refine WL.val (.int .i64 (((ns.length : Nat) : Int))) rfl rfl rfl (fun za zC zh zk => wp_assign rfl (zh.ev rfl) zk) ?_
      refine WL.nil (WE.sub (K' := [(0, .int .i64 v), (1, .pointer (some ⟨gn, 0, none⟩)), (2, .pointer (some ⟨gs, 0, none⟩)), (4, .int .i64 (((ns.length : Nat) : Int))), (5, .int .i64 (((ns.length : Nat) : Int))), (6, .bool false), (14, .bool true), (22, .bool (((((ns.length : Nat) : Int) : Int) != (v : Int))))]) ⟨rfl, rfl, rfl, rfl, rfl, rfl, rfl, rfl, trivial⟩ ?_)
      refine WE.next ?_
      refine WC.ret ?_
      refine WE.ret1 rfl rfl ?_
      rw [nmTo_none hix]
      have heq := nmB_snoc ns v 0
      rw [Nat.zero_add] at heq
      have hs40 : Chg ((fun b => b = mb)) w w1 := (Chg.trans2 (Chg.refl ((fun b => b = mb)) _) (Chg.ofUpd (S := fun k => k = mb) hu6 rfl) (fun i h1 h2 => by first | exact h2 | exact .inl ⟨h2, h1⟩ | exact .inl h2 | exact .inr h2 | exact .inr (.inl h2) | exact .inr (.inr h2) | ((try dsimp only at *); omega)))
      rw [if_pos (by omega), List.append_nil] at heq
      have hrw := hN.row.chg hs40 (fun b q e => hr3 (by subst e; exact q)) (fun _ q => q.elim)
      have hle := hs40.size
      exact ⟨_, rfl, ⟨C, rfl, ⟨mb, es2, cl3, a, c, ⟨hB7, hM4, by rw [nmL_snoc, Nat.zero_add]; exact hE5, by rw [heq]; exact hB8, by rw [heq]; exact hrw, hN.ne, hN.cn, hN.cs, hN.cm, by rw [heq]; exact hN.crow, fun b q => Nat.lt_of_lt_of_le (hN.clt b q) hle⟩⟩, fun b q => .inl q⟩, hs40.mono (fun b q => q ▸ hN.cm)⟩
  · refine WL.val (.tuple #[.int .i64 (((i : Nat) : Int)), .bool true]) rfl rfl rfl (fun za zC zh zk => wp_lookok_im Try.underlying75 Try.underlying3 (zeroInt _) hN.mp hN.ent rfl (zh.ev rfl) (zh.ev rfl) (by rw [nm_look, hix]; exact zk)) ?_
    refine WL.val (.tuple #[.int .i64 (((i : Nat) : Int)), .bool true]) rfl rfl rfl (fun za zC zh zk => wp_move rfl (zh.ev rfl) zk) ?_
    refine WL.val (.int .i64 (((i : Nat) : Int))) rfl rfl rfl (fun za zC zh zk => ext2_0 rfl (zh.ev rfl) zk) ?_
    refine WL.val (.bool true) rfl rfl rfl (fun za zC zh zk => ext2_1 rfl (zh.ev rfl) zk) ?_
    refine WL.val (.int .i64 (((i : Nat) : Int))) rfl rfl rfl (fun za zC zh zk => wp_assign rfl (zh.ev rfl) zk) ?_
    refine WL.val (.bool true) rfl rfl rfl (fun za zC zh zk => wp_assign rfl (zh.ev rfl) zk) ?_
    refine WL.nil (WE.sub (K' := [(0, .int .i64 v), (1, .pointer (some ⟨gn, 0, none⟩)), (2, .pointer (some ⟨gs, 0, none⟩)), (4, .int .i64 0), (5, .int .i64 (((i : Nat) : Int))), (6, .bool true)]) ⟨rfl, rfl, rfl, rfl, rfl, rfl, trivial⟩ ?_)
    refine WE.next ?_
    refine WC.seq ?_
    refine WC.seq ?_
    refine WC.region ?_
    refine WL.val (.bool true) rfl rfl rfl (fun za zC zh zk => wp_move rfl (zh.ev rfl) zk) ?_
    refine WL.val (.bool false) rfl rfl rfl (fun za zC zh zk => wp_not rfl (zh.ev rfl) zk) ?_
    refine WL.nil (WE.sub (K' := [(0, .int .i64 v), (1, .pointer (some ⟨gn, 0, none⟩)), (2, .pointer (some ⟨gs, 0, none⟩)), (4, .int .i64 0), (5, .int .i64 (((i : Nat) : Int))), (6, .bool true), (14, .bool false)]) ⟨rfl, rfl, rfl, rfl, rfl, rfl, rfl, trivial⟩ ?_)
    refine WE.next ?_
    refine WC.condF rfl rfl ?_
    refine WC.skip ?_
    refine WE.next ?_
    refine WC.seq ?_
    refine WC.region ?_
    refine WL.val (.int .i64 (((i : Nat) : Int))) rfl rfl rfl (fun za zC zh zk => wp_move rfl (zh.ev rfl) zk) ?_
    refine WL.val (.int .i64 (((i : Nat) : Int))) rfl rfl rfl (fun za zC zh zk => wp_assign rfl (zh.ev rfl) zk) ?_
    refine WL.nil (WE.sub (K' := [(0, .int .i64 v), (1, .pointer (some ⟨gn, 0, none⟩)), (2, .pointer (some ⟨gs, 0, none⟩)), (4, .int .i64 (((i : Nat) : Int))), (5, .int .i64 (((i : Nat) : Int))), (6, .bool true), (14, .bool false)]) ⟨rfl, rfl, rfl, rfl, rfl, rfl, rfl, trivial⟩ ?_)
    refine WE.next ?_
    refine WC.ret ?_
    refine WE.ret1 rfl rfl ?_
    rw [nmTo_some hix]
    exact ⟨_, rfl, ⟨C, rfl, h0.below (Below.refl _ _), fun b q => .inl q⟩, .ofBelow (Below.refl _ _)⟩

end Go.Proofs.Ytgechlgdnnpoeaa

/- Regions in whatever order, in which operations that change the memory may be guarded: one behind the other, each with what it yields. -/
namespace Go.Proofs.Ytgechlgdnnpoeaa
open Go.RowKit Go
set_option linter.unusedVariables false
set_option linter.unusedSimpArgs false
section
variable {P : Program} {ops : Array Oper}
structure CtxQ (ops : Array Oper) (chain : List Nat) (R : Nat → Value → World → Prop) (G : List (Option Value) → World → Prop) (n : Fr) (K Ke : Known) (i : Nat) (o : Oper) (a : Act) (w : World) (vs : List (Option Value)) : Prop extends CtxH ops chain R G n K Ke i o a w vs where
  anc : ∀ (p c : Nat), chain[p]? = some c → o.after.any (fun e => Region.binds .any e && (ancL ops e.on).contains c) = true → ∃ v, vs[p]? = some (some v)
def SoundQ (P : Program) (ops : Array Oper) (Q : Exit → Act → World → Prop) (chain : List Nat) (R : Nat → Value → World → Prop) (Le : World → World → Prop) (G : List (Option Value) → World → Prop) (n : Fr) (K Ke : Known) (i : Nat) (o : Oper) : Prop :=
  (chain.contains i = false ∧ ∃ β, GuardIs R o β ∧ (∀ g b, o.guard = some (g, b) → chain.contains g = false) ∧ (β = false → ∀ w, R i undef w) ∧
    (β = true → ∀ (a : Act) (w : World) (vs : List (Option Value)), CtxQ ops chain R G n K Ke i o a w vs →
      o.wpIn (fen n.r) 0 P a w (fun a' w' => ∃ v, a' = Act.put a o.dst v ∧ Le w w' ∧ G vs w' ∧ R i v w') Q)) ∨
  (∃ p, chain[p]? = some i ∧ ∃ β, GuardIs R o β ∧ (∀ g b, o.guard = some (g, b) → chain.contains g = false) ∧
    (β = false → ∀ (a : Act) (w : World) (vs : List (Option Value)), CtxQ ops chain R G n K Ke i o a w vs → vs[p]? = some none → G (vs.set p (some undef)) w) ∧
    (β = true → ∀ (a : Act) (w : World) (vs : List (Option Value)), CtxQ ops chain R G n K Ke i o a w vs → vs[p]? = some none →
      o.wpIn (fen n.r) 0 P a w (fun a' w' => ∃ v, a' = Act.put a o.dst v ∧ Le w w' ∧ G (vs.set p (some v)) w') Q))
def SoundFromQ (P : Program) (ops : Array Oper) (Q : Exit → Act → World → Prop) (chain : List Nat) (R : Nat → Value → World → Prop) (Le : World → World → Prop) (G : List (Option Value) → World → Prop) (n : Fr) (K Ke : Known) : Nat → List Oper → Prop
  | _, [] => True
  | k, o :: r => SoundQ P ops Q chain R Le G n K Ke k o ∧ SoundFromQ P ops Q chain R Le G n K Ke (k + 1) r
theorem SoundFromQ.at_ {Q : Exit → Act → World → Prop} {chain : List Nat} {R : Nat → Value → World → Prop} {Le : World → World → Prop} {G : List (Option Value) → World → Prop} {n : Fr} {K Ke : Known} : ∀ {l : List Oper} {k : Nat}, SoundFromQ P ops Q chain R Le G n K Ke k l → ∀ i o, l[i]? = some o → SoundQ P ops Q chain R Le G n K Ke (k + i) o
  | [], _, _, i, o, h => by simp at h
  | x :: r, k, h, 0, o, ho => by simp at ho; subst ho; exact h.1
  | x :: r, k, h, i + 1, o, ho => by
    have := h.2.at_ i o (by simpa using ho)
    rwa [show k + 1 + i = k + (i + 1) by omega] at this

theorem wp_any_genQ {Q : Exit → Act → World → Prop} {n : Fr} {K Ke : Known} (chain : List Nat) (R : Nat → Value → World → Prop) (Le : World → World → Prop) (G : List (Option Value) → World → Prop)
    (hB : opsB ops n.n = true) (hnd : chain.Nodup) (hin : (chain.all fun c => Nat.blt c ops.size) = true) (hclear : clearB ops K = true)
    (hR : ∀ i v w w', R i v w → Le w w' → R i v w')
    (h : SoundFromQ P ops Q chain R Le G n K Ke 0 ops.toList)
    (hQ : ∀ (a : Act) (w : World) (vs : List (Option Value)), Kn n K a → vs.length = chain.length → (∀ p, p < chain.length → ∃ v, vs[p]? = some (some v)) → G vs w → (∀ i d, (ops[i]?).bind (·.dst) = some d → chain.contains i = false → R i (a.tmps.getD d undef) w) → (∀ (p c d : Nat), chain[p]? = some c → (ops[c]?).bind (·.dst) = some d → vs[p]? = some (some (a.tmps.getD d undef))) → Q .normal a w) :
    ∀ (a0 : Act) (w0 : World), Kn n K a0 → Kn n Ke a0 → G (List.replicate chain.length none) w0 → wpAnyIn (fen n.r) 0 P .any ops Q ops.size (Array.replicate ops.size false) a0 w0 := by
  have main : ∀ (fuel : Nat) (listed : Array Bool) (a : Act) (vs : List (Option Value)) (w : World), listed.toList.count false ≤ fuel → AtH ops chain R G n K Ke listed a vs w →
      wpAnyIn (fen n.r) 0 P .any ops Q fuel listed a w := by
    intro fuel
    have done : ∀ (listed : Array Bool) (a : Act) (vs : List (Option Value)) (w : World), Region.ready .any ops listed = [] → AtH ops chain R G n K Ke listed a vs w → Q .normal a w := by
      intro listed a vs w hr H
      have all : ∀ i, i < ops.size → listed.getD i false = true := fun i hi => by
        have := ready_nil hB H.size hr i hi
        have hs := H.size
        simpa [Array.getD, show i < listed.size by omega] using this
      have hin' : ∀ p c, chain[p]? = some c → c < ops.size := fun p c hc => by
        have := List.all_eq_true.1 hin _ (List.mem_of_getElem? hc)
        simpa [Nat.blt_eq] using this
      have lt_of : ∀ i d, (ops[i]?).bind (·.dst) = some d → i < ops.size := fun i d hd => by
        rcases Nat.lt_or_ge i ops.size with h | h
        · exact h
        · simp [Array.getElem?_eq_none h] at hd
      exact hQ a w vs H.kn H.len (fun p hp => (H.link p chain[p] (by simp [hp])).1 (all _ (hin' p _ (by simp [hp])))) H.now (fun i d hd hc => H.plain i d hc (all i (lt_of i d hd)) hd) (fun p c d hc hd => H.vals p c d hc (all c (hin' p c hc)) hd)
    induction fuel with
    | zero =>
      intro listed a vs w hc H
      have hr : Region.ready .any ops listed = [] := by
        cases hr : Region.ready .any ops listed with
        | nil => rfl
        | cons i r =>
          have := (mem_ready (md := .any) (ops := ops) (j := i) (listed := listed)).1 (by rw [hr]; simp)
          rw [count_zero hc i] at this
          simp at this
      exact ⟨hr, done listed a vs w hr H⟩
    | succ fuel ih =>
      intro listed a vs w hc H
      refine ⟨fun hr => done listed a vs w hr H, fun i hi => ?_⟩
      obtain ⟨hun, o, ho, haf⟩ := mem_ready.1 hi
      have hilt : i < ops.size := by
        rcases Nat.lt_or_ge i ops.size with h | h
        · exact h
        · simp [Array.getElem?_eq_none h] at ho
      have hils : i < listed.size := by have := H.size; omega
      have hun' := getD_false_of hun
      have ok := opsB_spec hB ho
      have hs2 := h.at_ i o (by simpa using ho)
      rw [Nat.zero_add] at hs2
      have after_of : ∀ j d, depB ops o j d = true → listed.getD j false = true ∧ (ops[j]?).bind (·.dst) = some d := by
        intro j d hj
        simp only [depB, Bool.and_eq_true, Array.any_eq_true, beq_iff_eq] at hj
        obtain ⟨⟨k, hk, h1, h2⟩, h3⟩ := hj
        exact ⟨h1 ▸ haf _ (Array.getElem_mem hk) h2, h3⟩
      have ctx : CtxH ops chain R G n K Ke i o a w vs := by
        have opt : ∀ p c, chain[p]? = some c → listed.getD c false = false → vs[p]? = some none := fun p c hc hl => by
          have hp : p < vs.length := by rw [H.len]; exact (List.getElem?_eq_some_iff.1 hc).1
          rw [List.getElem?_eq_getElem hp]
          cases hx : vs[p] with
          | none => rfl
          | some v =>
            have := (H.link p c hc).2 ⟨v, by rw [List.getElem?_eq_getElem hp, hx]⟩
            rw [hl] at this; cases this
        refine ⟨H.now, H.kn, fun j d hj hc => H.plain j d hc (after_of j d hj).1 (after_of j d hj).2, H.len, fun p c d hc hj => H.vals p c d hc (after_of c d hj).1 (after_of c d hj).2, fun p c hc ha => ?_, fun p c hc ha => opt p c hc ?_, fun p c hc ha => opt p c hc ?_, fun d v hd hc => H.old d v hd fun c hcd => ?_⟩
        · simp only [Array.any_eq_true, Bool.and_eq_true, beq_iff_eq] at ha
          obtain ⟨k, hk, h1, h2⟩ := ha
          exact (H.link p c hc).1 (h1 ▸ haf _ (Array.getElem_mem hk) h2)
        · cases hl : listed.getD c false with
          | false => rfl
          | true =>
            exfalso
            unfold afterB at ha
            split at ha
            · rename_i oc hoc
              simp only [Array.any_eq_true, Bool.and_eq_true, beq_iff_eq] at ha
              obtain ⟨k, hk, h1, h2⟩ := ha
              have := H.closed c oc hoc hl _ (Array.getElem_mem hk) h2
              rw [h1, hun'] at this
              cases this
            · cases ha
        · cases hl : listed.getD c false with
          | false => rfl
          | true =>
            exfalso
            have := anc_listed H.closed hl i (by simpa using ha)
            rw [hun'] at this
            cases this
        · cases hl : listed.getD c false with
          | false => rfl
          | true =>
            exfalso
            have := anc_listed H.closed hl i (by simpa using hc c hcd)
            rw [hun'] at this
            cases this
      have ctxQ : CtxQ ops chain R G n K Ke i o a w vs := ⟨ctx, fun p c hc ha => by
        simp only [Array.any_eq_true, Bool.and_eq_true] at ha
        obtain ⟨k, hk, h1, h2⟩ := ha
        exact (H.link p c hc).1 (anc_listed H.closed (haf _ (Array.getElem_mem hk) h1) c (by simpa using h2))⟩
      unfold wpOpIn
      simp only [ho]
      -- what is behind a step
      have step : ∀ (v : Value) (vs' : List (Option Value)) (w' : World), (∀ j u, R j u w → R j u w') → G vs' w' → (∀ d, o.dst = some d → chain.contains i = false → R i v w') →
          ((chain.contains i = false ∧ vs' = vs) ∨ (∃ p, chain[p]? = some i ∧ vs' = vs.set p (some v))) →
          wpAnyIn (fen n.r) 0 P .any ops Q fuel (listed.setIfInBounds i true) (Act.put a o.dst v) w' := by
        intro v vs' w' hle hG hRi hvs
        have hc' := count_set (l := listed) hils hun hc
        have hset : ∀ j, (listed.setIfInBounds i true).getD j false = true ↔ j = i ∨ listed.getD j false = true := by
          intro j
          by_cases hj : j = i
          · subst hj; simp [getD_set_eq hils]
          · rw [getD_set_ne false (Ne.symm hj)]; simp [hj]
        have hother : ∀ j k, j ≠ i → (ops[j]?).bind (·.dst) = some k → (Act.put a o.dst v).tmps.getD k undef = a.tmps.getD k undef := by
          intro j k hji hjk
          refine act_put_other (fun hd => ?_)
          have hjlt : j < ops.size := by
            rcases Nat.lt_or_ge j ops.size with h | h
            · exact h
            · simp [Array.getElem?_eq_none h] at hjk
          exact hji (ok.own k j hd hjlt hjk).symm
        have hself : ∀ d, (ops[i]?).bind (·.dst) = some d → (Act.put a o.dst v).tmps.getD d undef = v := by
          intro d hd
          rw [ho] at hd
          simp only [Option.bind_some] at hd
          rw [hd]
          exact act_put_self (by rw [H.kn.size]; exact ok.lt d hd)
        refine ih _ _ vs' w' hc' ⟨by simpa using H.size, H.kn.put_clear (fun k hk => clearB_look hclear (mem_dsts ho hk)) v, fun j d hjc hj hjd => ?_, fun p c hpc => ?_, fun p c d hpc hp hcd => ?_, ?_, fun j oj hoj hj e he hb => ?_, hG, fun d u hd hc => ?_⟩
        · by_cases hji : j = i
          · subst hji
            rw [hself d hjd]
            rw [ho] at hjd
            exact hRi d hjd hjc
          · rw [hother j d hji hjd]
            exact hle _ _ (H.plain j d hjc (((hset j).1 hj).resolve_left hji) hjd)
        · rw [hset]
          rcases hvs with ⟨hci, rfl⟩ | ⟨q, hq, rfl⟩
          · have : c ≠ i := by
              rintro rfl
              have := List.mem_of_getElem? hpc
              simp [this] at hci
            exact ⟨fun h => (H.link p c hpc).1 (h.resolve_left this), fun h => .inr ((H.link p c hpc).2 h)⟩
          · have hpl : q < vs.length := by rw [H.len]; exact (List.getElem?_eq_some_iff.1 hq).1
            by_cases hpq : p = q
            · subst hpq
              rw [hq] at hpc
              simp only [Option.some.injEq] at hpc
              subst hpc
              exact ⟨fun _ => ⟨v, by rw [List.getElem?_set_self hpl]⟩, fun _ => .inl rfl⟩
            · have hci : c ≠ i := by
                rintro rfl
                exact hpq ((List.getElem?_inj (List.getElem?_eq_some_iff.1 hpc).1 hnd).1 (hpc.trans hq.symm))
              rw [List.getElem?_set_ne (Ne.symm hpq)]
              exact ⟨fun h => (H.link p c hpc).1 (h.resolve_left hci), fun h => .inr ((H.link p c hpc).2 h)⟩
        · rcases hvs with ⟨hci, rfl⟩ | ⟨q, hq, rfl⟩
          · have hne : c ≠ i := by
              rintro rfl
              have := List.mem_of_getElem? hpc
              simp [this] at hci
            rw [hother c d hne hcd]
            exact H.vals p c d hpc (((hset c).1 hp).resolve_left hne) hcd
          · have hpl : q < vs.length := by rw [H.len]; exact (List.getElem?_eq_some_iff.1 hq).1
            by_cases hpq : p = q
            · subst hpq
              rw [hq] at hpc
              simp only [Option.some.injEq] at hpc
              subst hpc
              rw [hself d hcd, List.getElem?_set_self hpl]
            · have hne : c ≠ i := by
                rintro rfl
                exact hpq ((List.getElem?_inj (List.getElem?_eq_some_iff.1 hpc).1 hnd).1 (hpc.trans hq.symm))
              rw [hother c d hne hcd, List.getElem?_set_ne (Ne.symm hpq)]
              exact H.vals p c d hpc (((hset c).1 hp).resolve_left hne) hcd
        · rcases hvs with ⟨hci, rfl⟩ | ⟨q, hq, rfl⟩
          · exact H.len
          · rw [List.length_set]; exact H.len
        · rw [hset]
          by_cases hji : j = i
          · subst hji
            rw [ho] at hoj
            simp only [Option.some.injEq] at hoj
            subst hoj
            exact .inr (haf e he hb)
          · exact .inr (H.closed j oj hoj (((hset j).1 hj).resolve_left hji) e he hb)
        · have hne : o.dst ≠ some d := fun e => by
            have := hc i (by rw [ho]; exact e)
            rw [(hset i).2 (.inl rfl)] at this
            cases this
          rw [act_put_other hne]
          refine H.old d u hd fun c hcd => ?_
          cases hl : listed.getD c false with
          | false => rfl
          | true => have := hc c hcd; rw [(hset c).2 (.inr hl)] at this; cases this
      have known : ∀ {β : Bool}, GuardIs R o β → (∀ g b, o.guard = some (g, b) → chain.contains g = false) → Region.wanted o (yielded ops a.tmps) = β := by
        intro β hg hgc
        have known : ∀ g c d b, o.guard = some (g, b) → (∀ v w, R g v w → (d = true → v = .bool c) ∧ (d = false → v = undef)) → yielded ops a.tmps g = if d then some c else none := by
          intro g c dd b hgb hv
          obtain ⟨⟨e, he, h1, h2⟩, d, hd⟩ := ok.guard g b hgb
          have hv := hv (a.tmps.getD d undef) w (H.plain g d (hgc g b hgb) (h1 ▸ haf e he h2) hd)
          have hdlt : d < a.tmps.size := by
            obtain ⟨og, hog, hgd⟩ := Option.bind_eq_some_iff.1 hd
            rw [H.kn.size]
            exact (opsB_spec hB hog).lt d hgd
          unfold yielded
          rw [hd]
          simp only [Array.getD_eq_getD_getElem?, Array.getElem?_eq_getElem hdlt, Option.getD_some] at hv
          cases dd with
          | true => simp [hdlt, hv.1 rfl]
          | false => simp [hdlt, hv.2 rfl, undef]
        cases hg with
        | none h => unfold Region.wanted; rw [h]
        | @yes g c d h hv => have := known _ _ _ _ h hv; unfold Region.wanted; rw [h]; simp only [this]; cases d <;> simp
        | @no g c d h hv => have := known _ _ _ _ h hv; unfold Region.wanted; rw [h]; simp only [this]; cases d <;> cases c <;> simp
      rcases hs2 with ⟨hci, β, hg, hgc, hs1, hs2⟩ | ⟨p, hp, β, hg, hgc, hs1, hs2⟩
      · have hwant := known hg hgc
        cases hβ : β with
        | false =>
          rw [hβ] at hwant
          simp only [hwant, Bool.false_eq_true, if_false]
          refine ⟨fun f _ => fen_fn _ f, ?_⟩
          exact step undef vs w (fun _ _ h => h) H.now (fun _ _ _ => hs1 hβ w) (.inl ⟨hci, rfl⟩)
        | true =>
          rw [hβ] at hwant
          simp only [hwant, if_true]
          refine Oper.wpIn_mono ?_ (hs2 hβ a w vs ctxQ)
          rintro a' w' ⟨v, rfl, hle, hG, hRi⟩
          exact step v vs w' (fun j u hj => hR j u _ _ hj hle) hG (fun _ _ _ => hRi) (.inl ⟨hci, rfl⟩)
      · have hwant := known hg hgc
        have hnone : vs[p]? = some none := by
          have hp' : p < vs.length := by rw [H.len]; exact (List.getElem?_eq_some_iff.1 hp).1
          rw [List.getElem?_eq_getElem hp']
          cases hx : vs[p] with
          | none => rfl
          | some v =>
            have := (H.link p i hp).2 ⟨v, by rw [List.getElem?_eq_getElem hp', hx]⟩
            rw [hun'] at this; cases this
        have hcc : chain.contains i = true := by
          have := List.mem_of_getElem? hp
          simpa using this
        cases hβ : β with
        | false =>
          rw [hβ] at hwant
          simp only [hwant, Bool.false_eq_true, if_false]
          refine ⟨fun f _ => fen_fn _ f, ?_⟩
          exact step undef (vs.set p (some undef)) w (fun _ _ h => h) (hs1 hβ a w vs ctxQ hnone) (fun _ _ h => by rw [hcc] at h; cases h) (.inr ⟨p, hp, rfl⟩)
        | true =>
          rw [hβ] at hwant
          simp only [hwant, if_true]
          refine Oper.wpIn_mono ?_ (hs2 hβ a w vs ctxQ hnone)
          rintro a' w' ⟨v, rfl, hle, hG⟩
          exact step v (vs.set p (some v)) w' (fun j u hj => hR j u _ _ hj hle) hG (fun _ _ h => by rw [hcc] at h; cases h) (.inr ⟨p, hp, rfl⟩)
  intro a0 w0 hk0 hke h0
  have nothing' : ∀ i, (Array.replicate ops.size false).getD i false = false := fun i => by
    by_cases h : i < ops.size <;> simp [Array.getD, h]
  refine main _ _ _ (List.replicate chain.length none) _ (by simp) ⟨by simp, hk0, fun i d _ hi => ?_, fun p c hpc => ?_, fun p c d _ hp => ?_, by simp, fun i o _ hi => ?_, h0, fun d v hd _ => hke.knows d v hd⟩
  · rw [nothing'] at hi; cases hi
  · rw [nothing']
    refine ⟨fun h => (by cases h), fun ⟨v, hv⟩ => ?_⟩
    have hp := (List.getElem?_eq_some_iff.1 hpc).1
    simp [hp] at hv
  · rw [nothing'] at hp; cases hp
  · rw [nothing'] at hi; cases hi

theorem WC.genQ {id : Nat} {dr : Bool} {Q : Exit → Act → World → Prop} {n : Fr} {K : Known} {w : World} (chain : List Nat) (R : Nat → Value → World → Prop) (Le : World → World → Prop) (G : List (Option Value) → World → Prop) (K0 : Known)
    (hs : subK K0 K) (hclear : clearB ops K0 = true) (hm : P.follows .mixedOrders = true) (hB : opsB ops n.n = true) (hnd : chain.Nodup) (hin : (chain.all fun c => Nat.blt c ops.size) = true)
    (hR : ∀ i v w w', R i v w → Le w w' → R i v w') (h0 : G (List.replicate chain.length none) (bif dr then w.drew else w))
    (h : SoundFromQ P ops Q chain R Le G n K0 K 0 ops.toList)
    (hQ : ∀ (a : Act) (w : World) (vs : List (Option Value)), Kn n K0 a → vs.length = chain.length → (∀ p, p < chain.length → ∃ v, vs[p]? = some (some v)) → G vs w → (∀ i d, (ops[i]?).bind (·.dst) = some d → chain.contains i = false → R i (a.tmps.getD d undef) w) → (∀ (p c d : Nat), chain[p]? = some c → (ops[c]?).bind (·.dst) = some d → vs[p]? = some (some (a.tmps.getD d undef))) → Q .normal a w) :
    WC P n K w (.region id ops dr) Q := by
  intro a ha
  have main := wp_any_genQ (Ke := K) chain R Le G hB hnd hin hclear hR h hQ a
  cases dr with
  | true => exact wpIn_region_any hm (main _ (ha.sub hs) ha h0)
  | false => exact any_start hB (main _ (ha.sub hs) ha h0)

/-! ### Values that are told -/
/-- Which of the operations of the chain are done, and what they have yielded. -/
def Vals (vals : List Value) (m : Nat) : List (Option Value) := vals.map some ++ List.replicate (m - vals.length) none
variable {S : Nat → Prop}
def GH (S : Nat → Prop) (w0 : World) (m : Nat) (cv : List (Option (Bool × Value))) (GV : List Value → World → Prop) (vs : List (Option Value)) (w : World) : Prop :=
  ∃ vals, vals.length ≤ m ∧ vs = Vals vals m ∧ GV vals w ∧ Chg S w0 w ∧ ∀ (q : Nat) b x, cv[q]? = some (some (b, x)) → b = true → ∀ v, vals[q]? = some v → v = x
theorem vals_some {vals : List Value} {m q : Nat} {v : Value} (h : (Vals vals m)[q]? = some (some v)) : vals[q]? = some v := by
  unfold Vals at h
  rcases Nat.lt_or_ge q vals.length with hq | hq
  · rw [List.getElem?_append_left (by simpa using hq), List.getElem?_map, List.getElem?_eq_getElem hq] at h
    rw [List.getElem?_eq_getElem hq]; simpa using h
  · rw [List.getElem?_append_right (by simpa using hq), List.getElem?_replicate] at h
    split at h
    · cases h
    · cases h
theorem vals_none {vals : List Value} {m q : Nat} (h : (Vals vals m)[q]? = some none) : vals.length ≤ q := by
  unfold Vals at h
  rcases Nat.lt_or_ge q vals.length with hq | hq
  · rw [List.getElem?_append_left (by simpa using hq), List.getElem?_map, List.getElem?_eq_getElem hq] at h
    cases h
  · exact hq
theorem vals_set {vals : List Value} {m : Nat} {v : Value} (h : vals.length < m) : (Vals vals m).set vals.length (some v) = Vals (vals ++ [v]) m := by
  unfold Vals
  rw [List.set_append_right _ _ (by simp), List.map_append, List.length_append, List.append_assoc]
  congr 1
  obtain ⟨k, hk⟩ : ∃ k, m - vals.length = k + 1 := ⟨m - vals.length - 1, by omega⟩
  rw [hk, List.replicate_succ, List.length_map, Nat.sub_self, List.set_cons_zero, show m - (vals.length + [v].length) = k by simp; omega]
  rfl
/-- What an operation finds: 'l' says what the others yield, 'cv' what those of the chain do; 'early': where it must come ahead of an operation of the chain. -/
structure CtxV (ops : Array Oper) (S : Nat → Prop) (l : List (Bool × SpS S)) (chain : List Nat) (cv : List (Option (Bool × Value))) (GV : List Value → World → Prop) (n : Fr) (K Ke : Known) (w0 : World) (i : Nat) (o : Oper) (a : Act) (w : World) : Prop where
  chg : Chg S w0 w
  kn : Kn n K a
  dep : ∀ j d, depB ops o j d = true → chain.contains j = false → optS l j (a.tmps.getD d undef) w
  link : ∀ (q c d : Nat) (b : Bool) (x : Value), chain[q]? = some c → depB ops o c d = true → cv[q]? = some (some (b, x)) → b = true → a.tmps.getD d undef = x
  old : ∀ d v, look Ke d = some v → earlyB ops i d = true → a.tmps.getD d undef = v
  early : ∀ (q c : Nat), chain[q]? = some c → (ancL ops c).contains i = true → ∃ vals, vals.length ≤ q ∧ GV vals w ∧ ∀ (q' c' d : Nat), chain[q']? = some c' → depB ops o c' d = true → vals[q']? = some (a.tmps.getD d undef)
/-- .. and an operation of the chain: what was yielded before it. -/
structure CtxW (ops : Array Oper) (S : Nat → Prop) (l : List (Bool × SpS S)) (chain : List Nat) (cv : List (Option (Bool × Value))) (GV : List Value → World → Prop) (n : Fr) (K Ke : Known) (w0 : World) (i p : Nat) (o : Oper) (a : Act) (w : World) (vals : List Value) : Prop extends CtxV ops S l chain cv GV n K Ke w0 i o a w where
  len : vals.length = p
  now : GV vals w
  val : ∀ (q c d : Nat), chain[q]? = some c → depB ops o c d = true → vals[q]? = some (a.tmps.getD d undef)
/-- That the operation 'o' comes behind the one ahead of it in the chain. -/
def behind (ops : Array Oper) (chain : List Nat) (p : Nat) (o : Oper) : Bool := match p with | 0 => true | p + 1 => match chain[p]? with | some c => o.after.any (fun e => Region.binds .any e && (ancL ops e.on).contains c) | none => false
def SeqV (P : Program) (ops : Array Oper) (Q : Exit → Act → World → Prop) (l : List (Bool × SpS S)) (chain : List Nat) (cv : List (Option (Bool × Value))) (GV : List Value → World → Prop) (n : Fr) (K Ke : Known) (w0 : World) : Nat → List Oper → Prop
  | _, [] => True
  | i, o :: r => ((chain.contains i = false ∧ ∃ β, GuardIs (optS l) o β ∧ (∀ g b, o.guard = some (g, b) → chain.contains g = false) ∧ (β = false → ∀ w, optS l i undef w) ∧
      (β = true → ∀ a w, CtxV ops S l chain cv GV n K Ke w0 i o a w → o.wp P a w (fun a' w' => ∃ v, a' = Act.put a o.dst v ∧ Below w.heap.size w w' ∧ optS l i v w') Q)) ∨
    (∃ p, chain[p]? = some i ∧ behind ops chain p o = true ∧ ∃ β, GuardIs (optS l) o β ∧ (∀ g b, o.guard = some (g, b) → chain.contains g = false) ∧
      (β = false → ∀ w vals, vals.length = p → GV vals w → GV (vals ++ [undef]) w ∧ ∀ b x, cv[p]? = some (some (b, x)) → b = true → undef = x) ∧
      (β = true → ∀ a w vals, CtxW ops S l chain cv GV n K Ke w0 i p o a w vals → o.wp P a w (fun a' w' => ∃ v, a' = Act.put a o.dst v ∧ Chg S w w' ∧ GV (vals ++ [v]) w' ∧ ∀ b x, cv[p]? = some (some (b, x)) → b = true → v = x) Q))) ∧ SeqV P ops Q l chain cv GV n K Ke w0 (i + 1) r
theorem cv_snoc {cv : List (Option (Bool × Value))} {vals : List Value} {v : Value} (h : ∀ (q : Nat) b x, cv[q]? = some (some (b, x)) → b = true → ∀ v, vals[q]? = some v → v = x) (hv : ∀ b x, cv[vals.length]? = some (some (b, x)) → b = true → v = x) : ∀ (q : Nat) b x, cv[q]? = some (some (b, x)) → b = true → ∀ u, (vals ++ [v])[q]? = some u → u = x := by
  intro q b x hq hb u hu
  rcases Nat.lt_trichotomy q vals.length with c | c | c
  · rw [List.getElem?_append_left c] at hu; exact h q b x hq hb u hu
  · subst c
    rw [List.getElem?_append_right (Nat.le_refl _), Nat.sub_self] at hu
    have : v = u := by simpa using hu
    rw [← this]; exact hv b x hq hb
  · rw [List.getElem?_append_right (by omega)] at hu
    obtain ⟨k, hk⟩ : ∃ k, q - vals.length = k + 1 := ⟨q - vals.length - 1, by omega⟩
    rw [hk] at hu; cases hu
theorem SeqV.gen {Q : Exit → Act → World → Prop} {l : List (Bool × SpS S)} {chain : List Nat} {cv : List (Option (Bool × Value))} {GV : List Value → World → Prop} {n : Fr} {K Ke : Known} {w0 : World} (hGV : ∀ vals w w', Below w.heap.size w w' → GV vals w → GV vals w') : ∀ {lo : List Oper} {i : Nat}, SeqV P ops Q l chain cv GV n K Ke w0 i lo →
    SoundFromQ P ops Q chain (optS l) (Chg S) (GH S w0 chain.length cv GV) n K Ke i lo
  | [], _, _ => trivial
  | o :: r, i, ⟨h, hr⟩ => by
    refine ⟨?_, hr.gen hGV⟩
    have ctx : ∀ {a w vs vals}, CtxQ ops chain (optS l) (GH S w0 chain.length cv GV) n K Ke i o a w vs → vs = Vals vals chain.length → Chg S w0 w → (∀ (q : Nat) b x, cv[q]? = some (some (b, x)) → b = true → ∀ v, vals[q]? = some v → v = x) → GV vals w → CtxV ops S l chain cv GV n K Ke w0 i o a w := fun {a w vs vals} C e hc hv hg =>
      ⟨hc, C.kn, C.dep, fun q c d b x h1 h2 h3 h4 => hv q b x h3 h4 _ (vals_some (e ▸ C.link q c d h1 h2)), fun d v hd hb => C.old d v hd (earlyB_of hb), fun q c h1 h2 => ⟨vals, vals_none (e ▸ C.mostT q c h1 h2), hg, fun q' c' d h3 h4 => vals_some (e ▸ C.link q' c' d h3 h4)⟩⟩
    rcases h with ⟨hi, β, h1, h2, h3, h4⟩ | ⟨p, hp, hbh, β, h1, h2, h3, h4⟩
    · refine .inl ⟨hi, β, h1, h2, h3, fun hβ a w vs C => ?_⟩
      obtain ⟨vals, k1, k2, k3, k4, k5⟩ := C.now
      refine Oper.wpIn_mono ?_ (wpIn_of (h4 hβ a w (ctx C k2 k4 k5 k3)) (by rintro a' w' ⟨v, rfl, _⟩; exact put_defers _ _ _))
      rintro a' w' ⟨v, rfl, hb, hR⟩
      exact ⟨v, rfl, .ofBelow hb, ⟨vals, k1, k2, hGV _ _ _ hb k3, k4.trans (.ofBelow hb), k5⟩, hR⟩
    · have hpl : p < chain.length := (List.getElem?_eq_some_iff.1 hp).1
      have len : ∀ {a w vs vals}, CtxQ ops chain (optS l) (GH S w0 chain.length cv GV) n K Ke i o a w vs → vs = Vals vals chain.length → vs[p]? = some none → vals.length = p := fun {a w vs vals} C e hn => by
        have h5 := vals_none (e ▸ hn)
        cases p with
        | zero => omega
        | succ p =>
          unfold behind at hbh
          obtain ⟨c, hc⟩ : ∃ c, chain[p]? = some c := ⟨chain[p], List.getElem?_eq_getElem (by omega)⟩
          simp only [hc] at hbh
          obtain ⟨v, hv⟩ := C.anc p c hc hbh
          have h6 := vals_some (e ▸ hv)
          have := (List.getElem?_eq_some_iff.1 h6).1
          omega
      refine .inr ⟨p, hp, β, h1, h2, fun hβ a w vs C hn => ?_, fun hβ a w vs C hn => ?_⟩
      · obtain ⟨vals, k1, k2, k3, k4, k5⟩ := C.now
        have hl := len C k2 hn
        obtain ⟨z1, z2⟩ := h3 hβ w vals hl k3
        refine ⟨vals ++ [undef], by simp; omega, ?_, z1, k4, cv_snoc k5 (hl ▸ z2)⟩
        rw [k2, ← hl, vals_set (by omega)]
      · obtain ⟨vals, k1, k2, k3, k4, k5⟩ := C.now
        have hl := len C k2 hn
        refine Oper.wpIn_mono ?_ (wpIn_of (h4 hβ a w vals ⟨ctx C k2 k4 k5 k3, hl, k3, fun q c d z1 z2 => vals_some (k2 ▸ C.link q c d z1 z2)⟩) (by rintro a' w' ⟨v, rfl, _⟩; exact put_defers _ _ _))
        rintro a' w' ⟨v, rfl, hc, z1, z2⟩
        refine ⟨v, rfl, hc, vals ++ [v], by simp; omega, ?_, z1, k4.trans hc, cv_snoc k5 (hl ▸ z2)⟩
        rw [k2, ← hl, vals_set (by omega)]
theorem cvIs {v X : Value} {β : Bool} (h : v = X) : ∀ b x, (some (some (β, X)) : Option (Option (Bool × Value))) = some (some (b, x)) → b = true → v = x := fun b x e _ => by cases e; exact h
theorem cvOff {v X : Value} {β : Bool} (h : β = false) : ∀ b x, (some (some (β, X)) : Option (Option (Bool × Value))) = some (some (b, x)) → b = true → v = x := fun b x e hb => by cases e; rw [h] at hb; cases hb
theorem cvNo {v : Value} : ∀ b x, (some none : Option (Option (Bool × Value))) = some (some (b, x)) → b = true → v = x := fun b x e => by cases e
theorem vlen0 {l : List Value} (h : l.length = 0) : l = [] := List.length_eq_zero_iff.1 h
theorem vlen1 {l : List Value} (h : l.length = 1) : ∃ a, l = [a] := by
  match l, h with
  | [a], _ => exact ⟨a, rfl⟩
theorem vlen2 {l : List Value} (h : l.length = 2) : ∃ a b, l = [a, b] := by
  match l, h with
  | [a, b], _ => exact ⟨a, b, rfl⟩
theorem vlen3 {l : List Value} (h : l.length = 3) : ∃ a b c, l = [a, b, c] := by
  match l, h with
  | [a, b, c], _ => exact ⟨a, b, c, rfl⟩
theorem vlen4 {l : List Value} (h : l.length = 4) : ∃ a b c d, l = [a, b, c, d] := by
  match l, h with
  | [a, b, c, d], _ => exact ⟨a, b, c, d, rfl⟩
theorem vlen5 {l : List Value} (h : l.length = 5) : ∃ a b c d e, l = [a, b, c, d, e] := by
  match l, h with
  | [a, b, c, d, e], _ => exact ⟨a, b, c, d, e, rfl⟩
theorem WC.seqV {id : Nat} {dr : Bool} {Q : Exit → Act → World → Prop} {n : Fr} {K : Known} {w : World} (l : List (Bool × SpS S)) (K0 : Known) (chain : List Nat) (cv : List (Option (Bool × Value))) (GV : List Value → World → Prop) (hGV : ∀ vals w w', Below w.heap.size w w' → GV vals w → GV vals w') (hnd : chain.Nodup)
    (hs : subK K0 K) (hclear : clearB ops K0 = true) (hm : P.follows .mixedOrders = true) (hB : opsB ops n.n = true) (hin : (chain.all fun c => Nat.blt c ops.size) = true) (h0 : GV [] w)
    (h : SeqV P ops Q l chain cv GV n K0 K w 0 ops.toList)
    (hQ : ∀ (a : Act) (w' : World) (vals : List Value), Kn n K0 a → vals.length = chain.length → GV vals w' → Chg S w w' → (∀ i d, (ops[i]?).bind (·.dst) = some d → chain.contains i = false → optS l i (a.tmps.getD d undef) w') → (∀ (p c d : Nat), chain[p]? = some c → (ops[c]?).bind (·.dst) = some d → vals[p]? = some (a.tmps.getD d undef)) → (∀ (p c d : Nat) b x, chain[p]? = some c → (ops[c]?).bind (·.dst) = some d → cv[p]? = some (some (b, x)) → b = true → a.tmps.getD d undef = x) → Q .normal a w') :
    WC P n K w (.region id ops dr) Q := by
  refine WC.genQ chain (optS l) (Chg S) (GH S w chain.length cv GV) K0 hs hclear hm hB hnd hin (optSKeep l) ?_ (h.gen hGV) (fun a w' vs hk hlen hall hG hu hl => ?_)
  · refine ⟨[], Nat.zero_le _, by simp [Vals], ?_, ?_, fun q b x _ _ v hv => (nomatch hv)⟩
    · cases dr with
      | true => exact hGV _ _ _ (Below.refl _ _).drew h0
      | false => exact h0
    · cases dr with
      | true => exact .ofBelow (Below.refl _ _).drew
      | false => exact .ofBelow (Below.refl _ _)
  · obtain ⟨vals, k1, k2, k3, k4, k5⟩ := hG
    have hlv : vals.length = chain.length := by
      rcases Nat.lt_or_ge vals.length chain.length with c | c
      · obtain ⟨v, hv⟩ := hall vals.length c
        have h6 := (List.getElem?_eq_some_iff.1 (vals_some (k2 ▸ hv))).1
        omega
      · omega
    have hv : ∀ (p c d : Nat), chain[p]? = some c → (ops[c]?).bind (·.dst) = some d → vals[p]? = some (a.tmps.getD d undef) := fun p c d z1 z2 => vals_some (k2 ▸ hl p c d z1 z2)
    exact hQ a w' vals hk hlv k3 k4 hu hv (fun p c d b x z1 z2 z3 z4 => k5 p b x z3 z4 _ (hv p c d z1 z2))
end
end Go.Proofs.Ytgechlgdnnpoeaa

namespace Go.Proofs.Ytgechlgdnnpoeaa
open Go.RowKit Go
set_option linter.unusedVariables false
set_option linter.unusedSimpArgs false
section
variable {P : Program} {n : Fr} {K : Known} {w : World} {Q : Exit → Act → World → Prop} {c : Code}
theorem WC.scope (hr : n.r = none) (h : WC P n K w c (Exit.noGoto Q)) : WC P n K w (.scope c) Q := fun a ha => by
  have z := h a ha
  rw [hr] at z ⊢
  exact wpIn_wide.2 (wp_scope_straight (wpIn_wide.1 z))
theorem WE.scopeNormal (h : WE n K w Q .normal) : WE n K w (Exit.noGoto Q) .normal := h
theorem WE.scopeRet (h : WE n K w Q .ret) : WE n K w (Exit.noGoto Q) .ret := h
theorem WE.scopeExit {i : Nat} (h : WE n K w Q (.exit i)) : WE n K w (Exit.noGoto Q) (.exit i) := h
end
end Go.Proofs.Ytgechlgdnnpoeaa
