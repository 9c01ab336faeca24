/- Two rows of literals that grow in turn: one of new literals, one of literals whose sides lie below. -/
import Derived.Test.YtnokgjajcnhkkaaCNMi
import Derived.Test.YtnokgjajcnhkkaaCNMb
import Derived.Test.YtnokgjajcnhkkaaCNMa
import Derived.Test.YtnokgjajcnhkkaaCNMc
import Derived.Test.YtnokgjajcnhkkaaCNMf
import Derived.WalkKit
import Derived.ProofKit
import Derived.JoinedCond
import Derived.OpenShut
import Derived.Laws.IdiomRangeMap

/- Variables moved: the program and the document. -/
namespace Go.Proofs.Ytnokgjajcnhkkaa
open Go.RowKit Go
set_option linter.unusedVariables false
set_option linter.unusedSimpArgs false
/-- A variable's number, moved, where that may be. -/
def mvOk (v m : Int) : Bool := if 0 ≤ m then decide (m ≤ 2147483647) && decide (v ≤ 2147483647 - m) else decide (0 ≤ v + m) && decide (v + m ≤ 2147483647)
def mvTo (v m : Int) : Int := if mvOk v m then v + m else v
def mvF (f m : Int) : Int := if f < 0 then -1 - mvTo (-1 - f) m else f
mutual
def T.mv (m : Int) : T → T
 | .mk f l => .mk (mvF f m) (T.mvL m l)
def T.mvL (m : Int) : List T → List T
 | [] => []
 | t :: r => t.mv m :: T.mvL m r
end
theorem T.mvL_eq (m : Int) : ∀ l : List T, T.mvL m l = l.map (T.mv m)
 | [] => rfl
 | t :: r => by rw [T.mvL, T.mvL_eq m r]; rfl
theorem mv_mk (m f : Int) (l : List T) : (T.mk f l).mv m = .mk (mvF f m) (l.map (T.mv m)) := by rw [T.mv, T.mvL_eq]
theorem take_mv {m : Int} {l : List T} {k : Nat} (h : k < l.length) : (l.take k).map (T.mv m) ++ [(tget l k).mv m] = (l.take (k + 1)).map (T.mv m) := by
 rw [List.take_succ_eq_append_getElem h, List.map_append, tget_lt h]; rfl
theorem mvOk_iff {v m : Int} : mvOk v m = true ↔ (0 ≤ m ∧ m ≤ 2147483647 ∧ v ≤ 2147483647 - m) ∨ (m < 0 ∧ 0 ≤ v + m ∧ v + m ≤ 2147483647) := by
 unfold mvOk
 split <;> simp <;> omega
theorem mvTo_range {v m : Int} (h0 : 0 ≤ v) (h1 : v ≤ 9223372036854775807) : 0 ≤ mvTo v m ∧ mvTo v m ≤ 9223372036854775807 := by
 unfold mvTo
 split
 ·have := mvOk_iff.1 ‹_›; omega
 ·omega
theorem mvF_i64 {f m : Int} (h : I64 f) : I64 (mvF f m) := by
 unfold I64 at *
 unfold mvF
 split
 ·have := mvTo_range (v := -1 - f) (m := m) (by omega) (by omega); omega
 ·exact h
theorem mvF_neg {f m : Int} (h : f < 0) : mvF f m = -1 - mvTo (-1 - f) m := by unfold mvF; rw [if_pos h]
theorem mvF_pos {f m : Int} (h : ¬ f < 0) : mvF f m = f := by unfold mvF; rw [if_neg h]
theorem mvTo_yes {v m : Int} (h : mvOk v m = true) : mvTo v m = v + m := by unfold mvTo; rw [if_pos h]
theorem mvTo_no {v m : Int} (h : ¬ mvOk v m = true) : mvTo v m = v := by unfold mvTo; rw [if_neg h]
set_option maxRecDepth 100000 in
theorem move1_any (v m : Int) (w : World) (g : Nat) (h0 : 0 ≤ v) (h1 : v ≤ 9223372036854775807) (hm : I64 m) (hg : Blk w g 3 #[.int .i64 m]) : Calls Try.prog 30 #[.int .i64 v, .pointer (some ⟨g, 0, none⟩)] w (Ret fun v' w' => v' = .int .i64 (mvTo v m) ∧ Below w.heap.size w w') := by
 have hgl := hg.lt
 have hm' := hm
 unfold I64 at hm
 refine Calls.walk (l := [.int .i64 v, .pointer (some ⟨g, 0, none⟩)]) Try.func30 rfl (by kernel_rfl) ?_
 refine WC.sub (K' := [(0, .int .i64 v), (1, .pointer (some ⟨g, 0, none⟩))]) ⟨rfl, rfl, trivial⟩ ?_
 refine WC.seq (WC.region (WL.asg rfl rfl rfl rfl rfl (WL.nil (WE.next (WC.seq (WC.block (WC.seq (WC.region ?_))))))))
 refine WL.val _ rfl rfl rfl (fun za zC zh zk => ld_3 rfl (zh.ev rfl) ((hg.cell 0).trans rfl) zk) ?_
 refine WL.val (.bool ((decide ((0 : Int) ≤ (m : Int))))) rfl rfl rfl (fun za zC zh zk => geq_3 rfl (zh.ev rfl) (zh.ev rfl) zk) ?_
 refine WL.mv rfl rfl rfl rfl rfl ?_
 refine bool_split ((decide ((0 : Int) ≤ (m : Int)))) (fun h1 => ?_) (fun h1 => ?_)
 ·refine WL.setb (d := 7) (b := true) rfl h1 ?_
  have h1 : (0 : Int) ≤ (m : Int) := by simpa using h1
  refine WL.want (d := 7) rfl rfl rfl ?_
  refine WL.val _ rfl rfl rfl (fun za zC zh zk => ld_3 rfl (zh.ev rfl) ((hg.cell 0).trans rfl) zk) ?_
  refine WL.want (d := 7) rfl rfl rfl ?_
  refine WL.val (.bool ((decide ((2147483647 : Int) < (m : Int))))) rfl rfl rfl (fun za zC zh zk => gtr_3 rfl (zh.ev rfl) (zh.ev rfl) zk) ?_
  refine WL.want (d := 7) rfl rfl rfl ?_
  refine WL.mv rfl rfl rfl rfl rfl ?_
  refine bool_split ((decide ((2147483647 : Int) < (m : Int)))) (fun h2 => ?_) (fun h2 => ?_)
  ·refine WL.setb (d := 10) (b := true) rfl h2 ?_
   have h2 : (2147483647 : Int) < (m : Int) := by simpa using h2
   refine WL.skip (d := 10) rfl rfl rfl rfl rfl ?_
   refine WL.skip (d := 10) rfl rfl rfl rfl rfl ?_
   refine WL.skip (d := 10) rfl rfl rfl rfl rfl ?_
   refine WL.skip (d := 10) rfl rfl rfl rfl rfl ?_
   refine WL.want (d := 7) rfl rfl rfl ?_
   refine WL.val (.bool true) rfl rfl rfl (fun za zC zh zk => wp_pickT rfl (zh.ev rfl) (zh.ev rfl) zk) ?_
   refine WL.val (.bool true) rfl rfl rfl (fun za zC zh zk => wp_pickT rfl (zh.ev rfl) (zh.ev rfl) zk) ?_
   refine WL.asg rfl rfl rfl rfl rfl (WL.nil (WE.next ?_))
   refine WC.condT rfl rfl ?_
   refine WC.seq (WC.region (WL.mv rfl rfl rfl rfl rfl (WL.asg rfl rfl rfl rfl rfl (WL.nil (WE.next (WC.ret (WE.blockRet (WE.thenRet (WE.ret1 rfl rfl ?_)))))))))
   exact ⟨_, rfl, congrArg (Value.int .i64) (by rw [mvTo_no (fun h => by have z := mvOk_iff.1 h; omega)]), (Below.refl _ _)⟩
  ·refine WL.setb (d := 10) (b := false) rfl h2 ?_
   have h2 : ¬ ((2147483647 : Int) < (m : Int)) := by simpa using h2
   refine WL.want (d := 10) rfl rfl rfl ?_
   refine WL.mv rfl rfl rfl rfl rfl ?_
   refine WL.want (d := 10) rfl rfl rfl ?_
   refine WL.val _ rfl rfl rfl (fun za zC zh zk => ld_3 rfl (zh.ev rfl) ((hg.cell 0).trans rfl) zk) ?_
   refine WL.want (d := 10) rfl rfl rfl ?_
   refine WL.val (.int .i64 ((2147483647 - m))) rfl rfl rfl (fun za zC zh zk => subb_3 rfl (zh.ev rfl) (zh.ev rfl) (wrap_eq (by omega) (by omega) (by omega)) zk) ?_
   refine WL.want (d := 10) rfl rfl rfl ?_
   refine WL.val (.bool ((decide (((2147483647 - m) : Int) < (v : Int))))) rfl rfl rfl (fun za zC zh zk => gtr_3 rfl (zh.ev rfl) (zh.ev rfl) zk) ?_
   refine WL.want (d := 7) rfl rfl rfl ?_
   refine WL.val (.bool ((decide (((2147483647 - m) : Int) < (v : Int))))) rfl rfl rfl (fun za zC zh zk => wp_pickF rfl (zh.ev rfl) (zh.ev rfl) zk) ?_
   refine WL.val (.bool ((decide (((2147483647 - m) : Int) < (v : Int))))) rfl rfl rfl (fun za zC zh zk => wp_pickT rfl (zh.ev rfl) (zh.ev rfl) zk) ?_
   refine WL.asg rfl rfl rfl rfl rfl (WL.nil (WE.next ?_))
   refine WC.cond rfl (fun h3 => ?_) (fun h3 => ?_)
   ·have h3 : ((2147483647 - m) : Int) < (v : Int) := by simpa using h3
    refine WC.seq (WC.region (WL.mv rfl rfl rfl rfl rfl (WL.asg rfl rfl rfl rfl rfl (WL.nil (WE.next (WC.ret (WE.blockRet (WE.thenRet (WE.ret1 rfl rfl ?_)))))))))
    exact ⟨_, rfl, congrArg (Value.int .i64) (by rw [mvTo_no (fun h => by have z := mvOk_iff.1 h; omega)]), (Below.refl _ _)⟩
   ·have h3 : ¬ (((2147483647 - m) : Int) < (v : Int)) := by simpa using h3
    refine WC.seq (WC.region ?_)
    refine WL.val _ rfl rfl rfl (fun za zC zh zk => ld_3 rfl (zh.ev rfl) ((hg.cell 0).trans rfl) zk) ?_
    refine WL.val (.bool ((decide ((m : Int) < (0 : Int))))) rfl rfl rfl (fun za zC zh zk => lss_3 rfl (zh.ev rfl) (zh.ev rfl) zk) ?_
    refine WL.mv rfl rfl rfl rfl rfl ?_
    refine bool_split ((decide ((m : Int) < (0 : Int)))) (fun h4 => ?_) (fun h4 => ?_)
    ·refine WL.setb (d := 21) (b := true) rfl h4 ?_
     have h4 : (m : Int) < (0 : Int) := by simpa using h4
     refine WL.want (d := 21) rfl rfl rfl ?_
     refine WL.mv rfl rfl rfl rfl rfl ?_
     refine WL.want (d := 21) rfl rfl rfl ?_
     refine WL.val _ rfl rfl rfl (fun za zC zh zk => ld_3 rfl (zh.ev rfl) ((hg.cell 0).trans rfl) zk) ?_
     refine WL.want (d := 21) rfl rfl rfl ?_
     refine WL.val (.int .i64 ((v + m))) rfl rfl rfl (fun za zC zh zk => addb_3 rfl (zh.ev rfl) (zh.ev rfl) (wrap_eq (by omega) (by omega) (by omega)) zk) ?_
     refine WL.want (d := 21) rfl rfl rfl ?_
     refine WL.val (.bool ((decide (((v + m) : Int) < (0 : Int))))) rfl rfl rfl (fun za zC zh zk => lss_3 rfl (zh.ev rfl) (zh.ev rfl) zk) ?_
     refine WL.want (d := 21) rfl rfl rfl ?_
     refine WL.mv rfl rfl rfl rfl rfl ?_
     refine bool_split ((decide (((v + m) : Int) < (0 : Int)))) (fun h5 => ?_) (fun h5 => ?_)
     ·refine WL.setb (d := 26) (b := true) rfl h5 ?_
      have h5 : ((v + m) : Int) < (0 : Int) := by simpa using h5
      refine WL.skip (d := 26) rfl rfl rfl rfl rfl ?_
      refine WL.skip (d := 26) rfl rfl rfl rfl rfl ?_
      refine WL.skip (d := 26) rfl rfl rfl rfl rfl ?_
      refine WL.skip (d := 26) rfl rfl rfl rfl rfl ?_
      refine WL.want (d := 21) rfl rfl rfl ?_
      refine WL.val (.bool true) rfl rfl rfl (fun za zC zh zk => wp_pickT rfl (zh.ev rfl) (zh.ev rfl) zk) ?_
      refine WL.val (.bool true) rfl rfl rfl (fun za zC zh zk => wp_pickT rfl (zh.ev rfl) (zh.ev rfl) zk) ?_
      refine WL.asg rfl rfl rfl rfl rfl ?_
      refine WL.nil (WE.sub (K' := [(0, .int .i64 v), (1, .pointer (some ⟨g, 0, none⟩)), (3, .int .i64 0), (4, .bool ((decide (((2147483647 - m) : Int) < (v : Int))))), (18, .bool true)]) ⟨rfl, rfl, rfl, rfl, rfl, trivial⟩ ?_)
      refine WE.next ?_
      refine WC.condT rfl rfl ?_
      refine WC.seq (WC.region (WL.mv rfl rfl rfl rfl rfl (WL.asg rfl rfl rfl rfl rfl (WL.nil (WE.next (WC.ret (WE.blockRet (WE.thenRet (WE.ret1 rfl rfl ?_)))))))))
      exact ⟨_, rfl, congrArg (Value.int .i64) (by rw [mvTo_no (fun h => by have z := mvOk_iff.1 h; omega)]), (Below.refl _ _)⟩
     ·refine WL.setb (d := 26) (b := false) rfl h5 ?_
      have h5 : ¬ (((v + m) : Int) < (0 : Int)) := by simpa using h5
      refine WL.want (d := 26) rfl rfl rfl ?_
      refine WL.mv rfl rfl rfl rfl rfl ?_
      refine WL.want (d := 26) rfl rfl rfl ?_
      refine WL.val _ rfl rfl rfl (fun za zC zh zk => ld_3 rfl (zh.ev rfl) ((hg.cell 0).trans rfl) zk) ?_
      refine WL.want (d := 26) rfl rfl rfl ?_
      refine WL.val (.int .i64 ((v + m))) rfl rfl rfl (fun za zC zh zk => addb_3 rfl (zh.ev rfl) (zh.ev rfl) (wrap_eq (by omega) (by omega) (by omega)) zk) ?_
      refine WL.want (d := 26) rfl rfl rfl ?_
      refine WL.val (.bool ((decide ((2147483647 : Int) < ((v + m) : Int))))) rfl rfl rfl (fun za zC zh zk => gtr_3 rfl (zh.ev rfl) (zh.ev rfl) zk) ?_
      refine WL.want (d := 21) rfl rfl rfl ?_
      refine WL.val (.bool ((decide ((2147483647 : Int) < ((v + m) : Int))))) rfl rfl rfl (fun za zC zh zk => wp_pickF rfl (zh.ev rfl) (zh.ev rfl) zk) ?_
      refine WL.val (.bool ((decide ((2147483647 : Int) < ((v + m) : Int))))) rfl rfl rfl (fun za zC zh zk => wp_pickT rfl (zh.ev rfl) (zh.ev rfl) zk) ?_
      refine WL.asg rfl rfl rfl rfl rfl ?_
      refine WL.nil (WE.sub (K' := [(0, .int .i64 v), (1, .pointer (some ⟨g, 0, none⟩)), (3, .int .i64 0), (4, .bool ((decide (((2147483647 - m) : Int) < (v : Int))))), (18, .bool ((decide ((2147483647 : Int) < ((v + m) : Int)))))]) ⟨rfl, rfl, rfl, rfl, rfl, trivial⟩ ?_)
      refine WE.next ?_
      refine WC.cond rfl (fun h6 => ?_) (fun h6 => ?_)
      ·have h6 : (2147483647 : Int) < ((v + m) : Int) := by simpa using h6
       refine WC.seq (WC.region (WL.mv rfl rfl rfl rfl rfl (WL.asg rfl rfl rfl rfl rfl (WL.nil (WE.next (WC.ret (WE.blockRet (WE.thenRet (WE.ret1 rfl rfl ?_)))))))))
       exact ⟨_, rfl, congrArg (Value.int .i64) (by rw [mvTo_no (fun h => by have z := mvOk_iff.1 h; omega)]), (Below.refl _ _)⟩
      ·have h6 : ¬ ((2147483647 : Int) < ((v + m) : Int)) := by simpa using h6
       refine WC.skip (WE.blockNormal (WE.next (WC.seq (WC.region (WL.mv rfl rfl rfl rfl rfl ?_)))))
       refine WL.val _ rfl rfl rfl (fun za zC zh zk => ld_3 rfl (zh.ev rfl) ((hg.cell 0).trans rfl) zk) ?_
       refine WL.val (.int .i64 ((v + m))) rfl rfl rfl (fun za zC zh zk => addb_3 rfl (zh.ev rfl) (zh.ev rfl) (wrap_eq (by omega) (by omega) (by omega)) zk) ?_
       refine WL.asg rfl rfl rfl rfl rfl (WL.nil (WE.next (WC.ret (WE.ret1 rfl rfl ?_))))
       exact ⟨_, rfl, congrArg (Value.int .i64) (by rw [mvTo_yes (mvOk_iff.2 (by omega))]), (Below.refl _ _)⟩
    ·refine WL.setb (d := 21) (b := false) rfl h4 ?_
     have h4 : ¬ ((m : Int) < (0 : Int)) := by simpa using h4
     refine WL.skip (d := 21) rfl rfl rfl rfl rfl ?_
     refine WL.skip (d := 21) rfl rfl rfl rfl rfl ?_
     refine WL.skip (d := 21) rfl rfl rfl rfl rfl ?_
     refine WL.skip (d := 21) rfl rfl rfl rfl rfl ?_
     refine WL.skip (d := 21) rfl rfl rfl rfl rfl ?_
     refine WL.skipU (d := 26) rfl rfl rfl rfl ?_
     refine WL.skipU (d := 26) rfl rfl rfl rfl ?_
     refine WL.skipU (d := 26) rfl rfl rfl rfl ?_
     refine WL.skipU (d := 26) rfl rfl rfl rfl ?_
     refine WL.skip (d := 21) rfl rfl rfl rfl rfl ?_
     refine WL.val (.bool false) rfl rfl rfl (fun za zC zh zk => wp_pickF rfl (zh.ev rfl) (zh.ev rfl) zk) ?_
     refine WL.asg rfl rfl rfl rfl rfl ?_
     refine WL.nil (WE.sub (K' := [(0, .int .i64 v), (1, .pointer (some ⟨g, 0, none⟩)), (3, .int .i64 0), (4, .bool ((decide (((2147483647 - m) : Int) < (v : Int))))), (18, .bool false)]) ⟨rfl, rfl, rfl, rfl, rfl, trivial⟩ ?_)
     refine WE.next ?_
     refine WC.condF rfl rfl ?_
     refine WC.skip (WE.blockNormal (WE.next (WC.seq (WC.region (WL.mv rfl rfl rfl rfl rfl ?_)))))
     refine WL.val _ rfl rfl rfl (fun za zC zh zk => ld_3 rfl (zh.ev rfl) ((hg.cell 0).trans rfl) zk) ?_
     refine WL.val (.int .i64 ((v + m))) rfl rfl rfl (fun za zC zh zk => addb_3 rfl (zh.ev rfl) (zh.ev rfl) (wrap_eq (by omega) (by omega) (by omega)) zk) ?_
     refine WL.asg rfl rfl rfl rfl rfl (WL.nil (WE.next (WC.ret (WE.ret1 rfl rfl ?_))))
     exact ⟨_, rfl, congrArg (Value.int .i64) (by rw [mvTo_yes (mvOk_iff.2 (by omega))]), (Below.refl _ _)⟩
 ·refine WL.setb (d := 7) (b := false) rfl h1 ?_
  have h1 : ¬ ((0 : Int) ≤ (m : Int)) := by simpa using h1
  refine WL.skip (d := 7) rfl rfl rfl rfl rfl ?_
  refine WL.skip (d := 7) rfl rfl rfl rfl rfl ?_
  refine WL.skip (d := 7) rfl rfl rfl rfl rfl ?_
  refine WL.skipU (d := 10) rfl rfl rfl rfl ?_
  refine WL.skipU (d := 10) rfl rfl rfl rfl ?_
  refine WL.skipU (d := 10) rfl rfl rfl rfl ?_
  refine WL.skipU (d := 10) rfl rfl rfl rfl ?_
  refine WL.skip (d := 7) rfl rfl rfl rfl rfl ?_
  refine WL.val (.bool false) rfl rfl rfl (fun za zC zh zk => wp_pickF rfl (zh.ev rfl) (zh.ev rfl) zk) ?_
  refine WL.asg rfl rfl rfl rfl rfl (WL.nil (WE.next ?_))
  refine WC.condF rfl rfl ?_
  refine WC.seq (WC.region ?_)
  refine WL.val _ rfl rfl rfl (fun za zC zh zk => ld_3 rfl (zh.ev rfl) ((hg.cell 0).trans rfl) zk) ?_
  refine WL.val (.bool ((decide ((m : Int) < (0 : Int))))) rfl rfl rfl (fun za zC zh zk => lss_3 rfl (zh.ev rfl) (zh.ev rfl) zk) ?_
  refine WL.mv rfl rfl rfl rfl rfl ?_
  refine bool_split ((decide ((m : Int) < (0 : Int)))) (fun h7 => ?_) (fun h7 => ?_)
  ·refine WL.setb (d := 21) (b := true) rfl h7 ?_
   have h7 : (m : Int) < (0 : Int) := by simpa using h7
   refine WL.want (d := 21) rfl rfl rfl ?_
   refine WL.mv rfl rfl rfl rfl rfl ?_
   refine WL.want (d := 21) rfl rfl rfl ?_
   refine WL.val _ rfl rfl rfl (fun za zC zh zk => ld_3 rfl (zh.ev rfl) ((hg.cell 0).trans rfl) zk) ?_
   refine WL.want (d := 21) rfl rfl rfl ?_
   refine WL.val (.int .i64 ((v + m))) rfl rfl rfl (fun za zC zh zk => addb_3 rfl (zh.ev rfl) (zh.ev rfl) (wrap_eq (by omega) (by omega) (by omega)) zk) ?_
   refine WL.want (d := 21) rfl rfl rfl ?_
   refine WL.val (.bool ((decide (((v + m) : Int) < (0 : Int))))) rfl rfl rfl (fun za zC zh zk => lss_3 rfl (zh.ev rfl) (zh.ev rfl) zk) ?_
   refine WL.want (d := 21) rfl rfl rfl ?_
   refine WL.mv rfl rfl rfl rfl rfl ?_
   refine bool_split ((decide (((v + m) : Int) < (0 : Int)))) (fun h8 => ?_) (fun h8 => ?_)
   ·refine WL.setb (d := 26) (b := true) rfl h8 ?_
    have h8 : ((v + m) : Int) < (0 : Int) := by simpa using h8
    refine WL.skip (d := 26) rfl rfl rfl rfl rfl ?_
    refine WL.skip (d := 26) rfl rfl rfl rfl rfl ?_
    refine WL.skip (d := 26) rfl rfl rfl rfl rfl ?_
    refine WL.skip (d := 26) rfl rfl rfl rfl rfl ?_
    refine WL.want (d := 21) rfl rfl rfl ?_
    refine WL.val (.bool true) rfl rfl rfl (fun za zC zh zk => wp_pickT rfl (zh.ev rfl) (zh.ev rfl) zk) ?_
    refine WL.val (.bool true) rfl rfl rfl (fun za zC zh zk => wp_pickT rfl (zh.ev rfl) (zh.ev rfl) zk) ?_
    refine WL.asg rfl rfl rfl rfl rfl ?_
    refine WL.nil (WE.sub (K' := [(0, .int .i64 v), (1, .pointer (some ⟨g, 0, none⟩)), (3, .int .i64 0), (4, .bool false), (18, .bool true)]) ⟨rfl, rfl, rfl, rfl, rfl, trivial⟩ ?_)
    refine WE.next ?_
    refine WC.condT rfl rfl ?_
    refine WC.seq (WC.region (WL.mv rfl rfl rfl rfl rfl (WL.asg rfl rfl rfl rfl rfl (WL.nil (WE.next (WC.ret (WE.blockRet (WE.thenRet (WE.ret1 rfl rfl ?_)))))))))
    exact ⟨_, rfl, congrArg (Value.int .i64) (by rw [mvTo_no (fun h => by have z := mvOk_iff.1 h; omega)]), (Below.refl _ _)⟩
   ·refine WL.setb (d := 26) (b := false) rfl h8 ?_
    have h8 : ¬ (((v + m) : Int) < (0 : Int)) := by simpa using h8
    refine WL.want (d := 26) rfl rfl rfl ?_
    refine WL.mv rfl rfl rfl rfl rfl ?_
    refine WL.want (d := 26) rfl rfl rfl ?_
    refine WL.val _ rfl rfl rfl (fun za zC zh zk => ld_3 rfl (zh.ev rfl) ((hg.cell 0).trans rfl) zk) ?_
    refine WL.want (d := 26) rfl rfl rfl ?_
    refine WL.val (.int .i64 ((v + m))) rfl rfl rfl (fun za zC zh zk => addb_3 rfl (zh.ev rfl) (zh.ev rfl) (wrap_eq (by omega) (by omega) (by omega)) zk) ?_
    refine WL.want (d := 26) rfl rfl rfl ?_
    refine WL.val (.bool ((decide ((2147483647 : Int) < ((v + m) : Int))))) rfl rfl rfl (fun za zC zh zk => gtr_3 rfl (zh.ev rfl) (zh.ev rfl) zk) ?_
    refine WL.want (d := 21) rfl rfl rfl ?_
    refine WL.val (.bool ((decide ((2147483647 : Int) < ((v + m) : Int))))) rfl rfl rfl (fun za zC zh zk => wp_pickF rfl (zh.ev rfl) (zh.ev rfl) zk) ?_
    refine WL.val (.bool ((decide ((2147483647 : Int) < ((v + m) : Int))))) rfl rfl rfl (fun za zC zh zk => wp_pickT rfl (zh.ev rfl) (zh.ev rfl) zk) ?_
    refine WL.asg rfl rfl rfl rfl rfl ?_
    refine WL.nil (WE.sub (K' := [(0, .int .i64 v), (1, .pointer (some ⟨g, 0, none⟩)), (3, .int .i64 0), (4, .bool false), (18, .bool ((decide ((2147483647 : Int) < ((v + m) : Int)))))]) ⟨rfl, rfl, rfl, rfl, rfl, trivial⟩ ?_)
    refine WE.next ?_
    refine WC.cond rfl (fun h9 => ?_) (fun h9 => ?_)
    ·have h9 : (2147483647 : Int) < ((v + m) : Int) := by simpa using h9
     refine WC.seq (WC.region (WL.mv rfl rfl rfl rfl rfl (WL.asg rfl rfl rfl rfl rfl (WL.nil (WE.next (WC.ret (WE.blockRet (WE.thenRet (WE.ret1 rfl rfl ?_)))))))))
     exact ⟨_, rfl, congrArg (Value.int .i64) (by rw [mvTo_no (fun h => by have z := mvOk_iff.1 h; omega)]), (Below.refl _ _)⟩
    ·have h9 : ¬ ((2147483647 : Int) < ((v + m) : Int)) := by simpa using h9
     refine WC.skip (WE.blockNormal (WE.next (WC.seq (WC.region (WL.mv rfl rfl rfl rfl rfl ?_)))))
     refine WL.val _ rfl rfl rfl (fun za zC zh zk => ld_3 rfl (zh.ev rfl) ((hg.cell 0).trans rfl) zk) ?_
     refine WL.val (.int .i64 ((v + m))) rfl rfl rfl (fun za zC zh zk => addb_3 rfl (zh.ev rfl) (zh.ev rfl) (wrap_eq (by omega) (by omega) (by omega)) zk) ?_
     refine WL.asg rfl rfl rfl rfl rfl (WL.nil (WE.next (WC.ret (WE.ret1 rfl rfl ?_))))
     exact ⟨_, rfl, congrArg (Value.int .i64) (by rw [mvTo_yes (mvOk_iff.2 (by omega))]), (Below.refl _ _)⟩
  ·refine WL.setb (d := 21) (b := false) rfl h7 ?_
   have h7 : ¬ ((m : Int) < (0 : Int)) := by simpa using h7
   refine WL.skip (d := 21) rfl rfl rfl rfl rfl ?_
   refine WL.skip (d := 21) rfl rfl rfl rfl rfl ?_
   refine WL.skip (d := 21) rfl rfl rfl rfl rfl ?_
   refine WL.skip (d := 21) rfl rfl rfl rfl rfl ?_
   refine WL.skip (d := 21) rfl rfl rfl rfl rfl ?_
   refine WL.skipU (d := 26) rfl rfl rfl rfl ?_
   refine WL.skipU (d := 26) rfl rfl rfl rfl ?_
   refine WL.skipU (d := 26) rfl rfl rfl rfl ?_
   refine WL.skipU (d := 26) rfl rfl rfl rfl ?_
   refine WL.skip (d := 21) rfl rfl rfl rfl rfl ?_
   refine WL.val (.bool false) rfl rfl rfl (fun za zC zh zk => wp_pickF rfl (zh.ev rfl) (zh.ev rfl) zk) ?_
   refine WL.asg rfl rfl rfl rfl rfl ?_
   refine WL.nil (WE.sub (K' := [(0, .int .i64 v), (1, .pointer (some ⟨g, 0, none⟩)), (3, .int .i64 0), (4, .bool false), (18, .bool false)]) ⟨rfl, rfl, rfl, rfl, rfl, trivial⟩ ?_)
   refine WE.next ?_
   refine WC.condF rfl rfl ?_
   refine WC.skip (WE.blockNormal (WE.next (WC.seq (WC.region (WL.mv rfl rfl rfl rfl rfl ?_)))))
   refine WL.val _ rfl rfl rfl (fun za zC zh zk => ld_3 rfl (zh.ev rfl) ((hg.cell 0).trans rfl) zk) ?_
   refine WL.val (.int .i64 ((v + m))) rfl rfl rfl (fun za zC zh zk => addb_3 rfl (zh.ev rfl) (zh.ev rfl) (wrap_eq (by omega) (by omega) (by omega)) zk) ?_
   refine WL.asg rfl rfl rfl rfl rfl (WL.nil (WE.next (WC.ret (WE.ret1 rfl rfl ?_))))
   exact ⟨_, rfl, congrArg (Value.int .i64) (by rw [mvTo_yes (mvOk_iff.2 (by omega))]), (Below.refl _ _)⟩
set_option maxRecDepth 100000 in
theorem renamed_any (m : Int) (gs : Nat) (hm : I64 m) : ∀ (t : T) (w : World) (v : Value), t.size ≤ 4294967296 → IsT w t v → Blk w gs 3 #[.int .i64 m] → Calls Try.prog 29 #[v, .func (.func 30) #[] #[.pointer (some ⟨gs, 0, none⟩)]] w (Ret fun v' w' => NewT w w' (t.mv m) v' ∧ Below w.heap.size w w') := by
 refine T.ind (fun f l ih => ?_)
 intro w v hz hv hgs
 have hlen := len_le_sizeL l
 have hz' := hz
 simp only [T.size] at hz'
 obtain ⟨hf, a, c, rfl, hc, hmx, hl⟩ := hv
 have hf' := hf
 unfold I64 at hf'
 have hgl := hgs.lt
 refine Calls.walk (l := [.agg #[.int .i64 f, .slice a l.length c], .func (.func 30) #[] #[.pointer (some ⟨gs, 0, none⟩)]]) Try.func29 rfl (by kernel_rfl) ?_
 refine WC.sub (K' := [(0, .agg #[.int .i64 f, .slice a l.length c]), (1, .func (.func 30) #[] #[.pointer (some ⟨gs, 0, none⟩)])]) ⟨rfl, rfl, trivial⟩ ?_
 refine WC.seq (WC.region ?_)
 refine WL.step (post := NewBlk w 34 #[.int .i64 f, .slice a l.length c]) rfl rfl rfl (fun za zC zh zk => box_34 rfl (zh.ev rfl) (zk _ _ (newBlk _ _ _))) ?_
 rintro _ w1 ⟨g2, rfl, hg3, hB4, hb5, hz6⟩
 have hl7 : gs < g2 := by have z1 := hgs.lt; omega
 have hl8 : w.heap.size ≤ g2 := by omega
 refine WL.step (post := NewBlk w1 34 #[.int .i64 0, .slice none 0 0]) rfl rfl rfl (fun za zC zh zk => alloc_34 rfl (zk _ _ (newBlk _ _ _))) ?_
 rintro _ w9 ⟨g10, rfl, hg11, hB12, hb13, hz14⟩
 have hl15 : gs < g10 := by have z1 := hgs.lt; have z2 := (hb5).size; omega
 have hl16 : g2 < g10 := by have z1 := hB4.lt; omega
 have hl17 : w.heap.size ≤ g10 := by have z2 := (hb5).size; omega
 refine WL.nil (WE.next (WC.seq (WC.region ?_)))
 refine WL.val _ rfl rfl rfl (fun za zC zh zk => fld_34_0 rfl (zh.ev rfl) zk) ?_
 have hB18 := hB4.below hb13
 refine WL.val _ rfl rfl rfl (fun za zC zh zk => ld_3 rfl (zh.ev rfl) ((hB18.cell 0).trans rfl) zk) ?_
 refine WL.val (.agg #[.int .i64 f, .slice none 0 0]) rfl rfl rfl (fun za zC zh zk => build_34_0 rfl (zh.ev rfl) zk) ?_
 refine WL.step (post := NewBlk w9 34 #[.int .i64 0, .slice none 0 0]) rfl rfl rfl (fun za zC zh zk => alloc_34 rfl (zk _ _ (newBlk _ _ _))) ?_
 rintro _ w19 ⟨g20, rfl, hg21, hB22, hb23, hz24⟩
 have hb25 : Below w.heap.size w w9 := (bstep hb5 hb13)
 have hl26 : gs < g20 := by have z1 := hgs.lt; have z2 := (hb25).size; omega
 have hl27 : g2 < g20 := by have z1 := hB18.lt; omega
 have hl28 : g10 < g20 := by have z1 := hB12.lt; omega
 have hl29 : w.heap.size ≤ g20 := by have z2 := (hb25).size; omega
 refine WL.step (post := fun _ w' => Upd g20 w19 w' ∧ Blk w' g20 34 #[.int .i64 f, .slice none 0 0]) rfl rfl rfl (fun za zC zh zk => st_34 rfl (zh.ev rfl) (zh.ev rfl) rfl rfl hB22 (by first | decide | simp) (fun v => zk v _ ⟨(Upd.at_ _ _ _ _).trans (Upd.at_ _ _ _ _), (hB22.set_ 0 _).set_ 1 _⟩)) ?_
 rintro v33 w30 ⟨hu31, hB32⟩
 have hb34 : Below w.heap.size w w19 := (bstep hb25 hb23)
 have hb35 := upd_below hb34 hu31 (by omega)
 have hB36 := hgs.below hb34
 have hB37 := upd_blk hB36 hu31 (by omega)
 have hB38 := hB18.below hb23
 have hB39 := upd_blk hB38 hu31 (by omega)
 have hB40 := hB12.below hb23
 have hB41 := upd_blk hB40 hu31 (by omega)
 refine WL.nil (WE.next (WC.seq (WC.seq (WC.region ?_))))
 refine WL.val _ rfl rfl rfl (fun za zC zh zk => fld_34_0 rfl (zh.ev rfl) zk) ?_
 refine WL.val _ rfl rfl rfl (fun za zC zh zk => ld_3 rfl (zh.ev rfl) ((hB39.cell 0).trans rfl) zk) ?_
 refine WL.val (.bool ((decide ((f : Int) < (0 : Int))))) rfl rfl rfl (fun za zC zh zk => lss_3 rfl (zh.ev rfl) (zh.ev rfl) zk) ?_
 refine WL.nil (WE.next ?_)
 refine WC.cond rfl (fun h42 => ?_) (fun h42 => ?_)
 ·have h42 : (f : Int) < (0 : Int) := by simpa using h42
  refine WC.region (WL.mv rfl rfl rfl rfl rfl ?_)
  refine WL.val _ rfl rfl rfl (fun za zC zh zk => fld_34_0 rfl (zh.ev rfl) zk) ?_
  refine WL.val _ rfl rfl rfl (fun za zC zh zk => ld_3 rfl (zh.ev rfl) ((hB39.cell 0).trans rfl) zk) ?_
  refine WL.val (.int .i64 ((-1 - f))) rfl rfl rfl (fun za zC zh zk => subb_3 rfl (zh.ev rfl) (zh.ev rfl) (wrap_eq rfl (by omega) (by omega)) zk) ?_
  refine WL.call rfl rfl rfl (fun za zh zC => wp_callv (by kernel_rfl) rfl (zh.ev rfl) (hv1 (zh.ev rfl))) (move1_any (-1 - f) m _ gs (by omega) (by omega) hm hB37) ?_
  rintro _ w44 ⟨rfl, hq43⟩
  have hrg := mvTo_range (v := -1 - f) (m := m) (by omega) (by omega)
  refine WL.val (.int .i64 ((-1 - mvTo (-1 - f) m))) rfl rfl rfl (fun za zC zh zk => subb_3 rfl (zh.ev rfl) (zh.ev rfl) (wrap_eq rfl (by omega) (by omega)) zk) ?_
  refine WL.val _ rfl rfl rfl (fun za zC zh zk => fld_34_0 rfl (zh.ev rfl) zk) ?_
  have hB45 := hB32.below hq43
  refine WL.step (post := fun _ w' => Upd g20 w44 w' ∧ Blk w' g20 34 #[.int .i64 ((-1 - mvTo (-1 - f) m)), .slice none 0 0]) rfl rfl rfl (fun za zC zh zk => st_3 rfl (zh.ev rfl) (zh.ev rfl) hB45 (by first | decide | simp) (fun v => zk v _ ⟨Upd.at_ _ _ _ _, hB45.set_ 0 _⟩)) ?_
  rintro v49 w46 ⟨hu47, hB48⟩
  have hb50 : Below w.heap.size w w44 := (bstep hb35 hq43)
  have hb51 := upd_below hb50 hu47 (by omega)
  have hB52 := hB37.below hq43
  have hB53 := upd_blk hB52 hu47 (by omega)
  have hB54 := hB39.below hq43
  have hB55 := upd_blk hB54 hu47 (by omega)
  have hB56 := hB41.below hq43
  have hB57 := upd_blk hB56 hu47 (by omega)
  refine WL.nil (WE.next (WC.seq (WC.seq (WC.region ?_))))
  refine WL.val _ rfl rfl rfl (fun za zC zh zk => fld_34_1 rfl (zh.ev rfl) zk) ?_
  refine WL.val _ rfl rfl rfl (fun za zC zh zk => ld_32 rfl (zh.ev rfl) ((hB55.cell 1).trans rfl) zk) ?_
  refine WL.val (.int .i64 (((l.length : Nat) : Int))) rfl rfl rfl (fun za zC zh zk => len_32 rfl (zh.ev rfl) zk) ?_
  refine WL.mv rfl rfl rfl rfl rfl (WL.nil (WE.next (WC.block ?_)))
  have hl58 : gs < w46.heap.size := by have z1 := hB53.lt; omega
  have hl59 : g2 < w46.heap.size := by have z1 := hB55.lt; omega
  have hl60 : g10 < w46.heap.size := by have z1 := hB57.lt; omega
  have hl61 : g20 < w46.heap.size := by have z1 := hB48.lt; omega
  have hl62 : w.heap.size ≤ w46.heap.size := (hb51).size
  have hR63 : RowE eltT w46 w46.heap.size 34 none 0 0 [] := RowE.nil
  refine WC.loop (X := Option Addr × Nat × Nat) (fun x => l.length - x.2.2) (fun x => [(0, .agg #[.int .i64 f, .slice a l.length c]), (1, .func (.func 30) #[] #[.pointer (some ⟨gs, 0, none⟩)]), (2, .pointer (some ⟨g2, 0, none⟩)), (4, .pointer (some ⟨g10, 0, none⟩)), (5, .pointer (some ⟨g20, 0, none⟩)), (13, .bool ((decide ((f : Int) < (0 : Int))))), (22, .slice a l.length c), (23, .int .i64 (((l.length : Nat) : Int))), (24, .int .i64 (((x.2.2 : Nat) : Int)))]) (fun x w64 => x.2.2 ≤ l.length ∧ w46.heap.size ≤ (w64).heap.size ∧ Below w.heap.size w w64 ∧ Blk w64 gs 3 #[.int .i64 m] ∧ Blk w64 g2 34 #[.int .i64 f, .slice a l.length c] ∧ Blk w64 g10 34 #[.int .i64 0, .slice none 0 0] ∧ Blk w64 g20 34 #[.int .i64 ((-1 - mvTo (-1 - f) m)), .slice x.1 x.2.2 x.2.1] ∧ RowE eltT (w64) w46.heap.size 34 x.1 x.2.1 x.2.2 ((l.take x.2.2).map (T.mv m))) ((none, 0, 0)) ⟨rfl, rfl, rfl, rfl, rfl, rfl, rfl, rfl, rfl, trivial⟩ ?_ ?_
  ·exact ⟨Nat.zero_le _, Nat.le_refl _, hb51, hB53, hB55, hB57, hB48, (by simpa using hR63)⟩
  ·rintro x w64 ⟨hk, hBw, hb65, hB66, hB67, hB68, hB69, ho70⟩
   refine WC.seq (WC.region ?_)
   refine WL.val (.bool ((decide ((((x.2.2 : Nat) : Int) : Int) < (((l.length : Nat) : Int) : Int))))) rfl rfl rfl (fun za zC zh zk => lss_3 rfl (zh.ev rfl) (zh.ev rfl) zk) ?_
   refine WL.nil (WE.next (WC.seq ?_))
   refine WC.cond rfl (fun h71 => ?_) (fun h71 => ?_)
   ·have h71 : (((x.2.2 : Nat) : Int) : Int) < (((l.length : Nat) : Int) : Int) := by simpa using h71
    refine WC.skip (WE.next (WC.seq (WC.block (WC.seq (WC.region ?_)))))
    obtain ⟨b72, o73, A74, C75, ha76, hc77⟩ := IsTs.open hl
    refine WL.val _ rfl rfl rfl (fun za zC zh zk => ix_32 (k := x.2.2) rfl (zh.ev rfl) (ha76 x.2.2 (by first | omega | (simp; omega))) (zh.ev rfl) (by first | omega | (simp; omega)) zk) ?_
    refine WL.val _ rfl rfl rfl (fun za zC zh zk => ld_34 rfl (zh.ev rfl) (bkeeps hb65 _ _ (hc77 x.2.2 (by first | omega | (simp; omega))).1) (bkeeps hb65 _ _ (hc77 x.2.2 (by first | omega | (simp; omega))).2.1) zk) ?_
    refine WL.step (post := NewBlk w64 34 #[.int .i64 0, .slice none 0 0]) rfl rfl rfl (fun za zC zh zk => alloc_34 rfl (zk _ _ (newBlk _ _ _))) ?_
    rintro _ w78 ⟨g79, rfl, hg80, hB81, hb82, hz83⟩
    have hl84 : gs < g79 := by have z1 := hB66.lt; omega
    have hl85 : g2 < g79 := by have z1 := hB67.lt; omega
    have hl86 : g10 < g79 := by have z1 := hB68.lt; omega
    have hl87 : g20 < g79 := by have z1 := hB69.lt; omega
    have hl88 : w.heap.size ≤ g79 := by have z2 := (hb65).size; omega
    have hl89 : w64.heap.size ≤ g79 := by omega
    refine WL.step (post := fun _ w' => Upd g79 w78 w' ∧ Blk w' g79 34 #[.int .i64 ((tget l x.2.2).f), .slice ((A74 x.2.2)) ((tget l x.2.2).args.length) ((C75 x.2.2))]) rfl rfl rfl (fun za zC zh zk => st_34 rfl (zh.ev rfl) (zh.ev rfl) rfl rfl hB81 (by first | decide | simp) (fun v => zk v _ ⟨(Upd.at_ _ _ _ _).trans (Upd.at_ _ _ _ _), (hB81.set_ 0 _).set_ 1 _⟩)) ?_
    rintro v93 w90 ⟨hu91, hB92⟩
    have hb94 : Below w.heap.size w w78 := (bstep hb65 hb82)
    have hb95 := upd_below hb94 hu91 (by omega)
    have hb96 := upd_below hb82 hu91 (by omega)
    have hB97 := hB66.below hb82
    have hB98 := upd_blk hB97 hu91 (by omega)
    have hB99 := hB67.below hb82
    have hB100 := upd_blk hB99 hu91 (by omega)
    have hB101 := hB68.below hb82
    have hB102 := upd_blk hB101 hu91 (by omega)
    have hB103 := hB69.below hb82
    have hB104 := upd_blk hB103 hu91 (by omega)
    refine WL.nil (WE.next ?_)
    have ho105 := ho70.below hb96
    have hSlt : ∀ b, (fun b => b = g20 ∨ (Value.slice x.1 x.2.2 x.2.1).ownBlock = some b) b → b < w90.heap.size := fun b h => h.elim (fun e => e ▸ hB104.lt) (fun h => (ho105.lt b h).2)
    have hSlo : ∀ b, (fun b => b = g20 ∨ (Value.slice x.1 x.2.2 x.2.1).ownBlock = some b) b → b = g20 ∨ (w46.heap.size ≤ b ∧ b < w64.heap.size) := fun b h => h.imp id (fun h => ho70.lt b h)
    have hBW : w46.heap.size ≤ w90.heap.size := by have z1 := (Nat.le_trans hBw hb96.size); omega
    have hlL : x.2.2 = (((l.take x.2.2).map (T.mv m))).length := ho105.len
    refine WC.tail2 (S := ((fun b => b = g20 ∨ (Value.slice x.1 x.2.2 x.2.1).ownBlock = some b))) [(true, .val (.pointer (some ⟨g20, 1, none⟩))), (true, .val (.slice x.1 x.2.2 x.2.1)), (true, .val (.agg #[.int .i64 ((tget l x.2.2).f), .slice ((A74 x.2.2)) ((tget l x.2.2).args.length) ((C75 x.2.2))])), (true, .val (.func (.func 30) #[] #[.pointer (some ⟨gs, 0, none⟩)])), (true, .mem (fun v w' => NewT w90 w' (((tget l x.2.2).mv m)) v) (fun v w w' hc h => InT.chg h hc (fun b hb hs => by have z := hSlt b hs; omega))), (true, .mem (fun v w' => OneRow eltT w90 34 (((tget l x.2.2).mv m)) v w') (fun v w w' hc h => h.chg hc hSlt)), (true, .val undef), (true, .val (.pointer (some ⟨g20, 1, none⟩))), (true, .val undef)] [(0, .agg #[.int .i64 f, .slice a l.length c]), (1, .func (.func 30) #[] #[.pointer (some ⟨gs, 0, none⟩)]), (2, .pointer (some ⟨g2, 0, none⟩)), (4, .pointer (some ⟨g10, 0, none⟩)), (5, .pointer (some ⟨g20, 0, none⟩)), (7, .pointer (some ⟨g79, 0, none⟩)), (13, .bool ((decide ((f : Int) < (0 : Int))))), (22, .slice a l.length c), (23, .int .i64 (((l.length : Nat) : Int))), (24, .int .i64 (((x.2.2 : Nat) : Int))), (25, .bool ((decide ((((x.2.2 : Nat) : Int) : Int) < (((l.length : Nat) : Int) : Int)))))] 6 8 ((x.2.2 + 1)) 34 (fun ra rc wz => RowE eltT wz w46.heap.size 34 ra rc (x.2.2 + 1) (((l.take x.2.2).map (T.mv m) ++ [((tget l x.2.2).mv m)])) ∧ Blk wz g20 34 #[.int .i64 ((-1 - mvTo (-1 - f) m)), .slice x.1 x.2.2 x.2.1]) (fun ra rc wz => RowE eltT wz w46.heap.size 34 ra rc (x.2.2 + 1) (((l.take x.2.2).map (T.mv m) ++ [((tget l x.2.2).mv m)])) ∧ Blk wz g20 34 #[.int .i64 ((-1 - mvTo (-1 - f) m)), .slice ra ((x.2.2 + 1)) rc]) (by decide) (fun ra rc w w' hb h => ⟨h.1.below hb, h.2.below hb⟩) (fun ra rc w w' hb h => ⟨h.1.below hb, h.2.below hb⟩) ⟨rfl, rfl, rfl, rfl, rfl, rfl, rfl, rfl, rfl, rfl, rfl, trivial⟩ (by kernel_rfl) (by kernel_rfl) (by kernel_rfl) (by kernel_rfl) (by kernel_rfl) ?_ ?_
    ·refine ⟨.inl ⟨rfl, true, .none rfl, (fun gg b h => by cases h), fun h w => optUndef h, fun zβ za zw zc => ?_⟩, ?_⟩
     ·exact fld_34_1 rfl (zc.kn.ev rfl) ⟨_, rfl, Below.refl _ _, optDef zβ rfl⟩
     refine ⟨.inl ⟨rfl, true, .none rfl, (fun gg b h => by cases h), fun h w => optUndef h, fun zβ za zw zc => ?_⟩, ?_⟩
     ·exact ld_32 rfl ((evt za 28).trans (optSVal (zc.dep 0 28 (by kernel_rfl) (by decide)) rfl rfl)) (bkeeps (zc.early (by kernel_rfl)) _ _ ((hB104.cell 1).trans rfl)) ⟨_, rfl, Below.refl _ _, optDef zβ rfl⟩
     refine ⟨.inl ⟨rfl, true, .none rfl, (fun gg b h => by cases h), fun h w => optUndef h, fun zβ za zw zc => ?_⟩, ?_⟩
     ·exact ld_34 rfl (zc.kn.ev rfl) (bkeeps (zc.early (by kernel_rfl)) _ _ ((hB92.cell 0).trans rfl)) (bkeeps (zc.early (by kernel_rfl)) _ _ ((hB92.cell 1).trans rfl)) ⟨_, rfl, Below.refl _ _, optDef zβ rfl⟩
     refine ⟨.inl ⟨rfl, true, .none rfl, (fun gg b h => by cases h), fun h w => optUndef h, fun zβ za zw zc => ?_⟩, ?_⟩
     ·exact wp_move rfl (zc.kn.ev rfl) ⟨_, rfl, Below.refl _ _, optDef zβ rfl⟩
     refine ⟨.inl ⟨rfl, true, .none rfl, (fun gg b h => by cases h), fun h w => optUndef h, fun zβ za zw zc => ?_⟩, ?_⟩
     ·exact wp_call (by kernel_rfl) rfl (hv2 ((evt za 30).trans (optSVal (zc.dep 2 30 (by kernel_rfl) (by decide)) rfl rfl)) ((evt za 31).trans (optSVal (zc.dep 3 31 (by kernel_rfl) (by decide)) rfl rfl))) (ih _ (tget_mem (by omega)) _ _ (size_at (by omega) hz) (IsT.below (bstep hb95 (zc.early (by kernel_rfl))) (hc77 x.2.2 (by first | omega | (simp; omega))).2.2) (hB98.below (zc.early (by kernel_rfl)))) (fun v w' h => ⟨v, rfl, h.2, optDef zβ (InT.mono (fun b hb _ => Nat.le_trans (zc.early (by kernel_rfl)).size hb) h.1)⟩)
     refine ⟨.inl ⟨rfl, true, .none rfl, (fun gg b h => by cases h), fun h w => optUndef h, fun zβ za zw zc => ?_⟩, ?_⟩
     ·have zv := (optSMem (zc.dep 4 32 (by kernel_rfl) (by decide)) rfl rfl)
      obtain ⟨_, a1, c1, e1, _⟩ := zv.form
      rw [e1] at zv
      exact row_32_1 rfl ((evt za 32).trans e1) ⟨_, rfl, balloc _ _, optDef zβ ⟨_, _, rfl, zc.chg.size, Blk.new' rfl, _, _, rfl, zv.below (balloc _ _)⟩⟩
     refine ⟨.inr (.inl ⟨rfl, rfl, fun za zw zc => ?_⟩), ?_⟩
     ·obtain ⟨g1, cs, e1, hg1, hB1, hin⟩ := (optSMem (zc.dep 5 33 (by kernel_rfl) (by decide)) rfl rfl)
      exact wp_appE (E := eltT) (size := 2) (bytes := 32) (z := .agg #[.int .i64 0, .slice none 0 0]) rfl Try.underlying32 (by kernel_rfl) rfl (by decide) rfl ((evt za 29).trans (optSVal (zc.dep 1 29 (by kernel_rfl) (by decide)) rfl rfl)) ((evt za 33).trans e1) (ho105.below zc.below) hB1 (eltT.mono (fun b hb _ => ⟨by omega, fun e => by have z := (ho105.lt b e).2; omega⟩) hin) (by omega) (by omega) (by have z := zc.below.size; omega) (fun ra rc w' h1 h2 _ => ⟨ra, rc, rfl, ⟨h1, chg_blk (hB104.below zc.below) h2 (fun e => by have z := (ho105.lt _ e).1; omega)⟩, h2.mono (fun b hb => .inr hb)⟩)
     refine ⟨.inl ⟨rfl, true, .none rfl, (fun gg b h => by cases h), fun h w => optUndef h, fun zβ za zw zc => ?_⟩, ?_⟩
     ·exact fld_34_1 rfl (zc.kn.ev rfl) ⟨_, rfl, Below.refl _ _, optDef zβ rfl⟩
     refine ⟨.inr (.inr ⟨rfl, rfl, 34, by kernel_rfl, fun za zw ra rc zk zd zv zg => ?_⟩), ?_⟩
     ·exact st_32 rfl ((evt za 35).trans (optSVal (zd 7 35 (by kernel_rfl) (by decide)) rfl rfl)) ((evt za 34).trans zv) zg.2 (by first | decide | simp) (fun v => ⟨v, rfl, ⟨zg.1.upd (Upd.at_ _ _ _ _) (by omega), zg.2.set_ 1 _⟩, .ofUpd (Upd.at_ _ _ _ _) (.inl rfl)⟩)
     exact trivial
    ·intro za w106 ra109 rc110 zh zv hG107 hc108 zu
     have hb111 := chg_below hb95 hc108 (fun b hb => (fun h => by rcases hSlo _ h with h | h <;> omega))
     have hB112 := chg_blk hB98 hc108 (fun h => by rcases hSlo _ h with h | h <;> omega)
     have hB113 := chg_blk hB100 hc108 (fun h => by rcases hSlo _ h with h | h <;> omega)
     have hB114 := chg_blk hB102 hc108 (fun h => by rcases hSlo _ h with h | h <;> omega)
     have hB115 := chg_blk hB92 hc108 (fun h => by rcases hSlo _ h with h | h <;> omega)
     clear zu
     refine WE.go zh ?_
     refine WE.blockNormal (WE.next (WC.region ?_))
     refine WL.val (.int .i64 ((((x.2.2 + 1) : Nat) : Int))) rfl rfl rfl (fun za zC zh zk => addb_3 rfl (zh.ev rfl) (zh.ev rfl) (wrap_eq (by omega) (by omega) (by omega)) zk) ?_
     refine WL.mv rfl rfl rfl rfl rfl (WL.nil ?_)
     refine WE.round ((ra109, rc110, x.2.2 + 1)) ⟨rfl, rfl, rfl, rfl, rfl, rfl, rfl, rfl, rfl, trivial⟩ ?_ ?_
     ·exact ⟨by (try dsimp only at *); omega, (Nat.le_trans (Nat.le_trans hBw hb96.size) hc108.size), hb111, hB112, hB113, hB114, hG107.2, (by rw [← take_mv (by (try dsimp only at *); omega)]; exact hG107.1)⟩
     ·dsimp only; omega
   ·have h71 : ¬ ((((x.2.2 : Nat) : Int) : Int) < (((l.length : Nat) : Int) : Int)) := by simpa using h71
    refine WC.exit (WE.thenExit (WE.thenExit (WE.blockIs rfl (WE.next (WC.seq (WC.region ?_))))))
    refine WL.val _ rfl rfl rfl (fun za zC zh zk => ld_34 rfl (zh.ev rfl) ((hB69.cell 0).trans rfl) ((hB69.cell 1).trans rfl) zk) ?_
    refine WL.step (post := fun _ w' => Upd g10 w64 w' ∧ Blk w' g10 34 #[.int .i64 ((-1 - mvTo (-1 - f) m)), .slice x.1 x.2.2 x.2.1]) rfl rfl rfl (fun za zC zh zk => st_34 rfl (zh.ev rfl) (zh.ev rfl) rfl rfl hB68 (by first | decide | simp) (fun v => zk v _ ⟨(Upd.at_ _ _ _ _).trans (Upd.at_ _ _ _ _), (hB68.set_ 0 _).set_ 1 _⟩)) ?_
    rintro v119 w116 ⟨hu117, hB118⟩
    have hb120 := upd_below hb65 hu117 (by omega)
    have hB121 := upd_blk hB66 hu117 (by omega)
    have hB122 := upd_blk hB67 hu117 (by omega)
    have hB123 := upd_blk hB69 hu117 (by omega)
    have ho124 := ho70.upd hu117 (by omega)
    refine WL.nil (WE.next (WC.ret ?_))
    refine WE.retAny (v := .agg #[.int .i64 ((-1 - mvTo (-1 - f) m)), .slice x.1 x.2.2 x.2.1]) (fun za zh => ?_) ?_
    ·have z0 : za.tmps[4]?.getD undef = .pointer (some ⟨g10, 0, none⟩) := by rw [← Array.getD_eq_getD_getElem?]; exact zh.knows 4 _ rfl
     have y0 : w116.cell? ⟨g10, 0, none⟩ = some (.int .i64 ((-1 - mvTo (-1 - f) m))) := ((hB118.cell 0).trans rfl)
     have y1 : w116.cell? ⟨g10, 1, none⟩ = some (.slice x.1 x.2.2 x.2.1) := ((hB118.cell 1).trans rfl)
     simp [results, Try.results29, z0, y0, y1, go_sem]
    ·have z := ho124
     rw [List.take_of_length_le (by omega)] at z
     exact ⟨_, rfl, by rw [mv_mk, mvF_neg ‹_›]; exact newT_row (by rw [← mvF_neg ‹_›]; exact mvF_i64 hf) z (by omega), hb120⟩
 ·have h42 : ¬ ((f : Int) < (0 : Int)) := by simpa using h42
  refine WC.skip (WE.next (WC.seq (WC.seq (WC.region ?_))))
  refine WL.val _ rfl rfl rfl (fun za zC zh zk => fld_34_1 rfl (zh.ev rfl) zk) ?_
  refine WL.val _ rfl rfl rfl (fun za zC zh zk => ld_32 rfl (zh.ev rfl) ((hB39.cell 1).trans rfl) zk) ?_
  refine WL.val (.int .i64 (((l.length : Nat) : Int))) rfl rfl rfl (fun za zC zh zk => len_32 rfl (zh.ev rfl) zk) ?_
  refine WL.mv rfl rfl rfl rfl rfl (WL.nil (WE.next (WC.block ?_)))
  have hl125 : gs < w30.heap.size := by have z1 := hB37.lt; omega
  have hl126 : g2 < w30.heap.size := by have z1 := hB39.lt; omega
  have hl127 : g10 < w30.heap.size := by have z1 := hB41.lt; omega
  have hl128 : g20 < w30.heap.size := by have z1 := hB32.lt; omega
  have hl129 : w.heap.size ≤ w30.heap.size := (hb35).size
  have hR130 : RowE eltT w30 w30.heap.size 34 none 0 0 [] := RowE.nil
  refine WC.loop (X := Option Addr × Nat × Nat) (fun x => l.length - x.2.2) (fun x => [(0, .agg #[.int .i64 f, .slice a l.length c]), (1, .func (.func 30) #[] #[.pointer (some ⟨gs, 0, none⟩)]), (2, .pointer (some ⟨g2, 0, none⟩)), (4, .pointer (some ⟨g10, 0, none⟩)), (5, .pointer (some ⟨g20, 0, none⟩)), (13, .bool ((decide ((f : Int) < (0 : Int))))), (22, .slice a l.length c), (23, .int .i64 (((l.length : Nat) : Int))), (24, .int .i64 (((x.2.2 : Nat) : Int)))]) (fun x w131 => x.2.2 ≤ l.length ∧ w30.heap.size ≤ (w131).heap.size ∧ Below w.heap.size w w131 ∧ Blk w131 gs 3 #[.int .i64 m] ∧ Blk w131 g2 34 #[.int .i64 f, .slice a l.length c] ∧ Blk w131 g10 34 #[.int .i64 0, .slice none 0 0] ∧ Blk w131 g20 34 #[.int .i64 f, .slice x.1 x.2.2 x.2.1] ∧ RowE eltT (w131) w30.heap.size 34 x.1 x.2.1 x.2.2 ((l.take x.2.2).map (T.mv m))) ((none, 0, 0)) ⟨rfl, rfl, rfl, rfl, rfl, rfl, rfl, rfl, rfl, trivial⟩ ?_ ?_
  ·exact ⟨Nat.zero_le _, Nat.le_refl _, hb35, hB37, hB39, hB41, hB32, (by simpa using hR130)⟩
  ·rintro x w131 ⟨hk, hBw, hb132, hB133, hB134, hB135, hB136, ho137⟩
   refine WC.seq (WC.region ?_)
   refine WL.val (.bool ((decide ((((x.2.2 : Nat) : Int) : Int) < (((l.length : Nat) : Int) : Int))))) rfl rfl rfl (fun za zC zh zk => lss_3 rfl (zh.ev rfl) (zh.ev rfl) zk) ?_
   refine WL.nil (WE.next (WC.seq ?_))
   refine WC.cond rfl (fun h138 => ?_) (fun h138 => ?_)
   ·have h138 : (((x.2.2 : Nat) : Int) : Int) < (((l.length : Nat) : Int) : Int) := by simpa using h138
    refine WC.skip (WE.next (WC.seq (WC.block (WC.seq (WC.region ?_)))))
    obtain ⟨b139, o140, A141, C142, ha143, hc144⟩ := IsTs.open hl
    refine WL.val _ rfl rfl rfl (fun za zC zh zk => ix_32 (k := x.2.2) rfl (zh.ev rfl) (ha143 x.2.2 (by first | omega | (simp; omega))) (zh.ev rfl) (by first | omega | (simp; omega)) zk) ?_
    refine WL.val _ rfl rfl rfl (fun za zC zh zk => ld_34 rfl (zh.ev rfl) (bkeeps hb132 _ _ (hc144 x.2.2 (by first | omega | (simp; omega))).1) (bkeeps hb132 _ _ (hc144 x.2.2 (by first | omega | (simp; omega))).2.1) zk) ?_
    refine WL.step (post := NewBlk w131 34 #[.int .i64 0, .slice none 0 0]) rfl rfl rfl (fun za zC zh zk => alloc_34 rfl (zk _ _ (newBlk _ _ _))) ?_
    rintro _ w145 ⟨g146, rfl, hg147, hB148, hb149, hz150⟩
    have hl151 : gs < g146 := by have z1 := hB133.lt; omega
    have hl152 : g2 < g146 := by have z1 := hB134.lt; omega
    have hl153 : g10 < g146 := by have z1 := hB135.lt; omega
    have hl154 : g20 < g146 := by have z1 := hB136.lt; omega
    have hl155 : w.heap.size ≤ g146 := by have z2 := (hb132).size; omega
    have hl156 : w131.heap.size ≤ g146 := by omega
    refine WL.step (post := fun _ w' => Upd g146 w145 w' ∧ Blk w' g146 34 #[.int .i64 ((tget l x.2.2).f), .slice ((A141 x.2.2)) ((tget l x.2.2).args.length) ((C142 x.2.2))]) rfl rfl rfl (fun za zC zh zk => st_34 rfl (zh.ev rfl) (zh.ev rfl) rfl rfl hB148 (by first | decide | simp) (fun v => zk v _ ⟨(Upd.at_ _ _ _ _).trans (Upd.at_ _ _ _ _), (hB148.set_ 0 _).set_ 1 _⟩)) ?_
    rintro v160 w157 ⟨hu158, hB159⟩
    have hb161 : Below w.heap.size w w145 := (bstep hb132 hb149)
    have hb162 := upd_below hb161 hu158 (by omega)
    have hb163 := upd_below hb149 hu158 (by omega)
    have hB164 := hB133.below hb149
    have hB165 := upd_blk hB164 hu158 (by omega)
    have hB166 := hB134.below hb149
    have hB167 := upd_blk hB166 hu158 (by omega)
    have hB168 := hB135.below hb149
    have hB169 := upd_blk hB168 hu158 (by omega)
    have hB170 := hB136.below hb149
    have hB171 := upd_blk hB170 hu158 (by omega)
    refine WL.nil (WE.next ?_)
    have ho172 := ho137.below hb163
    have hSlt : ∀ b, (fun b => b = g20 ∨ (Value.slice x.1 x.2.2 x.2.1).ownBlock = some b) b → b < w157.heap.size := fun b h => h.elim (fun e => e ▸ hB171.lt) (fun h => (ho172.lt b h).2)
    have hSlo : ∀ b, (fun b => b = g20 ∨ (Value.slice x.1 x.2.2 x.2.1).ownBlock = some b) b → b = g20 ∨ (w30.heap.size ≤ b ∧ b < w131.heap.size) := fun b h => h.imp id (fun h => ho137.lt b h)
    have hBW : w30.heap.size ≤ w157.heap.size := by have z1 := (Nat.le_trans hBw hb163.size); omega
    have hlL : x.2.2 = (((l.take x.2.2).map (T.mv m))).length := ho172.len
    refine WC.tail2 (S := ((fun b => b = g20 ∨ (Value.slice x.1 x.2.2 x.2.1).ownBlock = some b))) [(true, .val (.pointer (some ⟨g20, 1, none⟩))), (true, .val (.slice x.1 x.2.2 x.2.1)), (true, .val (.agg #[.int .i64 ((tget l x.2.2).f), .slice ((A141 x.2.2)) ((tget l x.2.2).args.length) ((C142 x.2.2))])), (true, .val (.func (.func 30) #[] #[.pointer (some ⟨gs, 0, none⟩)])), (true, .mem (fun v w' => NewT w157 w' (((tget l x.2.2).mv m)) v) (fun v w w' hc h => InT.chg h hc (fun b hb hs => by have z := hSlt b hs; omega))), (true, .mem (fun v w' => OneRow eltT w157 34 (((tget l x.2.2).mv m)) v w') (fun v w w' hc h => h.chg hc hSlt)), (true, .val undef), (true, .val (.pointer (some ⟨g20, 1, none⟩))), (true, .val undef)] [(0, .agg #[.int .i64 f, .slice a l.length c]), (1, .func (.func 30) #[] #[.pointer (some ⟨gs, 0, none⟩)]), (2, .pointer (some ⟨g2, 0, none⟩)), (4, .pointer (some ⟨g10, 0, none⟩)), (5, .pointer (some ⟨g20, 0, none⟩)), (7, .pointer (some ⟨g146, 0, none⟩)), (13, .bool ((decide ((f : Int) < (0 : Int))))), (22, .slice a l.length c), (23, .int .i64 (((l.length : Nat) : Int))), (24, .int .i64 (((x.2.2 : Nat) : Int))), (25, .bool ((decide ((((x.2.2 : Nat) : Int) : Int) < (((l.length : Nat) : Int) : Int)))))] 6 8 ((x.2.2 + 1)) 34 (fun ra rc wz => RowE eltT wz w30.heap.size 34 ra rc (x.2.2 + 1) (((l.take x.2.2).map (T.mv m) ++ [((tget l x.2.2).mv m)])) ∧ Blk wz g20 34 #[.int .i64 f, .slice x.1 x.2.2 x.2.1]) (fun ra rc wz => RowE eltT wz w30.heap.size 34 ra rc (x.2.2 + 1) (((l.take x.2.2).map (T.mv m) ++ [((tget l x.2.2).mv m)])) ∧ Blk wz g20 34 #[.int .i64 f, .slice ra ((x.2.2 + 1)) rc]) (by decide) (fun ra rc w w' hb h => ⟨h.1.below hb, h.2.below hb⟩) (fun ra rc w w' hb h => ⟨h.1.below hb, h.2.below hb⟩) ⟨rfl, rfl, rfl, rfl, rfl, rfl, rfl, rfl, rfl, rfl, rfl, trivial⟩ (by kernel_rfl) (by kernel_rfl) (by kernel_rfl) (by kernel_rfl) (by kernel_rfl) ?_ ?_
    ·refine ⟨.inl ⟨rfl, true, .none rfl, (fun gg b h => by cases h), fun h w => optUndef h, fun zβ za zw zc => ?_⟩, ?_⟩
     ·exact fld_34_1 rfl (zc.kn.ev rfl) ⟨_, rfl, Below.refl _ _, optDef zβ rfl⟩
     refine ⟨.inl ⟨rfl, true, .none rfl, (fun gg b h => by cases h), fun h w => optUndef h, fun zβ za zw zc => ?_⟩, ?_⟩
     ·exact ld_32 rfl ((evt za 28).trans (optSVal (zc.dep 0 28 (by kernel_rfl) (by decide)) rfl rfl)) (bkeeps (zc.early (by kernel_rfl)) _ _ ((hB171.cell 1).trans rfl)) ⟨_, rfl, Below.refl _ _, optDef zβ rfl⟩
     refine ⟨.inl ⟨rfl, true, .none rfl, (fun gg b h => by cases h), fun h w => optUndef h, fun zβ za zw zc => ?_⟩, ?_⟩
     ·exact ld_34 rfl (zc.kn.ev rfl) (bkeeps (zc.early (by kernel_rfl)) _ _ ((hB159.cell 0).trans rfl)) (bkeeps (zc.early (by kernel_rfl)) _ _ ((hB159.cell 1).trans rfl)) ⟨_, rfl, Below.refl _ _, optDef zβ rfl⟩
     refine ⟨.inl ⟨rfl, true, .none rfl, (fun gg b h => by cases h), fun h w => optUndef h, fun zβ za zw zc => ?_⟩, ?_⟩
     ·exact wp_move rfl (zc.kn.ev rfl) ⟨_, rfl, Below.refl _ _, optDef zβ rfl⟩
     refine ⟨.inl ⟨rfl, true, .none rfl, (fun gg b h => by cases h), fun h w => optUndef h, fun zβ za zw zc => ?_⟩, ?_⟩
     ·exact wp_call (by kernel_rfl) rfl (hv2 ((evt za 30).trans (optSVal (zc.dep 2 30 (by kernel_rfl) (by decide)) rfl rfl)) ((evt za 31).trans (optSVal (zc.dep 3 31 (by kernel_rfl) (by decide)) rfl rfl))) (ih _ (tget_mem (by omega)) _ _ (size_at (by omega) hz) (IsT.below (bstep hb162 (zc.early (by kernel_rfl))) (hc144 x.2.2 (by first | omega | (simp; omega))).2.2) (hB165.below (zc.early (by kernel_rfl)))) (fun v w' h => ⟨v, rfl, h.2, optDef zβ (InT.mono (fun b hb _ => Nat.le_trans (zc.early (by kernel_rfl)).size hb) h.1)⟩)
     refine ⟨.inl ⟨rfl, true, .none rfl, (fun gg b h => by cases h), fun h w => optUndef h, fun zβ za zw zc => ?_⟩, ?_⟩
     ·have zv := (optSMem (zc.dep 4 32 (by kernel_rfl) (by decide)) rfl rfl)
      obtain ⟨_, a1, c1, e1, _⟩ := zv.form
      rw [e1] at zv
      exact row_32_1 rfl ((evt za 32).trans e1) ⟨_, rfl, balloc _ _, optDef zβ ⟨_, _, rfl, zc.chg.size, Blk.new' rfl, _, _, rfl, zv.below (balloc _ _)⟩⟩
     refine ⟨.inr (.inl ⟨rfl, rfl, fun za zw zc => ?_⟩), ?_⟩
     ·obtain ⟨g1, cs, e1, hg1, hB1, hin⟩ := (optSMem (zc.dep 5 33 (by kernel_rfl) (by decide)) rfl rfl)
      exact wp_appE (E := eltT) (size := 2) (bytes := 32) (z := .agg #[.int .i64 0, .slice none 0 0]) rfl Try.underlying32 (by kernel_rfl) rfl (by decide) rfl ((evt za 29).trans (optSVal (zc.dep 1 29 (by kernel_rfl) (by decide)) rfl rfl)) ((evt za 33).trans e1) (ho172.below zc.below) hB1 (eltT.mono (fun b hb _ => ⟨by omega, fun e => by have z := (ho172.lt b e).2; omega⟩) hin) (by omega) (by omega) (by have z := zc.below.size; omega) (fun ra rc w' h1 h2 _ => ⟨ra, rc, rfl, ⟨h1, chg_blk (hB171.below zc.below) h2 (fun e => by have z := (ho172.lt _ e).1; omega)⟩, h2.mono (fun b hb => .inr hb)⟩)
     refine ⟨.inl ⟨rfl, true, .none rfl, (fun gg b h => by cases h), fun h w => optUndef h, fun zβ za zw zc => ?_⟩, ?_⟩
     ·exact fld_34_1 rfl (zc.kn.ev rfl) ⟨_, rfl, Below.refl _ _, optDef zβ rfl⟩
     refine ⟨.inr (.inr ⟨rfl, rfl, 34, by kernel_rfl, fun za zw ra rc zk zd zv zg => ?_⟩), ?_⟩
     ·exact st_32 rfl ((evt za 35).trans (optSVal (zd 7 35 (by kernel_rfl) (by decide)) rfl rfl)) ((evt za 34).trans zv) zg.2 (by first | decide | simp) (fun v => ⟨v, rfl, ⟨zg.1.upd (Upd.at_ _ _ _ _) (by omega), zg.2.set_ 1 _⟩, .ofUpd (Upd.at_ _ _ _ _) (.inl rfl)⟩)
     exact trivial
    ·intro za w173 ra176 rc177 zh zv hG174 hc175 zu
     have hb178 := chg_below hb162 hc175 (fun b hb => (fun h => by rcases hSlo _ h with h | h <;> omega))
     have hB179 := chg_blk hB165 hc175 (fun h => by rcases hSlo _ h with h | h <;> omega)
     have hB180 := chg_blk hB167 hc175 (fun h => by rcases hSlo _ h with h | h <;> omega)
     have hB181 := chg_blk hB169 hc175 (fun h => by rcases hSlo _ h with h | h <;> omega)
     have hB182 := chg_blk hB159 hc175 (fun h => by rcases hSlo _ h with h | h <;> omega)
     clear zu
     refine WE.go zh ?_
     refine WE.blockNormal (WE.next (WC.region ?_))
     refine WL.val (.int .i64 ((((x.2.2 + 1) : Nat) : Int))) rfl rfl rfl (fun za zC zh zk => addb_3 rfl (zh.ev rfl) (zh.ev rfl) (wrap_eq (by omega) (by omega) (by omega)) zk) ?_
     refine WL.mv rfl rfl rfl rfl rfl (WL.nil ?_)
     refine WE.round ((ra176, rc177, x.2.2 + 1)) ⟨rfl, rfl, rfl, rfl, rfl, rfl, rfl, rfl, rfl, trivial⟩ ?_ ?_
     ·exact ⟨by (try dsimp only at *); omega, (Nat.le_trans (Nat.le_trans hBw hb163.size) hc175.size), hb178, hB179, hB180, hB181, hG174.2, (by rw [← take_mv (by (try dsimp only at *); omega)]; exact hG174.1)⟩
     ·dsimp only; omega
   ·have h138 : ¬ ((((x.2.2 : Nat) : Int) : Int) < (((l.length : Nat) : Int) : Int)) := by simpa using h138
    refine WC.exit (WE.thenExit (WE.thenExit (WE.blockIs rfl (WE.next (WC.seq (WC.region ?_))))))
    refine WL.val _ rfl rfl rfl (fun za zC zh zk => ld_34 rfl (zh.ev rfl) ((hB136.cell 0).trans rfl) ((hB136.cell 1).trans rfl) zk) ?_
    refine WL.step (post := fun _ w' => Upd g10 w131 w' ∧ Blk w' g10 34 #[.int .i64 f, .slice x.1 x.2.2 x.2.1]) rfl rfl rfl (fun za zC zh zk => st_34 rfl (zh.ev rfl) (zh.ev rfl) rfl rfl hB135 (by first | decide | simp) (fun v => zk v _ ⟨(Upd.at_ _ _ _ _).trans (Upd.at_ _ _ _ _), (hB135.set_ 0 _).set_ 1 _⟩)) ?_
    rintro v186 w183 ⟨hu184, hB185⟩
    have hb187 := upd_below hb132 hu184 (by omega)
    have hB188 := upd_blk hB133 hu184 (by omega)
    have hB189 := upd_blk hB134 hu184 (by omega)
    have hB190 := upd_blk hB136 hu184 (by omega)
    have ho191 := ho137.upd hu184 (by omega)
    refine WL.nil (WE.next (WC.ret ?_))
    refine WE.retAny (v := .agg #[.int .i64 f, .slice x.1 x.2.2 x.2.1]) (fun za zh => ?_) ?_
    ·have z0 : za.tmps[4]?.getD undef = .pointer (some ⟨g10, 0, none⟩) := by rw [← Array.getD_eq_getD_getElem?]; exact zh.knows 4 _ rfl
     have y0 : w183.cell? ⟨g10, 0, none⟩ = some (.int .i64 f) := ((hB185.cell 0).trans rfl)
     have y1 : w183.cell? ⟨g10, 1, none⟩ = some (.slice x.1 x.2.2 x.2.1) := ((hB185.cell 1).trans rfl)
     simp [results, Try.results29, z0, y0, y1, go_sem]
    ·have z := ho191
     rw [List.take_of_length_le (by omega)] at z
     exact ⟨_, rfl, by rw [mv_mk, mvF_pos ‹_›]; exact newT_row hf z (by omega), hb187⟩
set_option maxRecDepth 100000 in
theorem move_any (t : T) (m : Int) (w : World) (v : Value) (hz : t.size ≤ 4294967296) (hv : IsT w t v) (hm : I64 m) : Calls Try.prog 10 #[v, .int .i64 m] w (Ret fun v' w' => NewT w w' (t.mv m) v' ∧ Below w.heap.size w w') := by
 obtain ⟨hf, a, c, rfl, hc, hmx, hl⟩ := hv.form
 refine Calls.walk (l := [.agg #[.int .i64 t.f, .slice a t.args.length c], .int .i64 m]) Try.func10 rfl (by kernel_rfl) ?_
 refine WC.sub (K' := [(0, .agg #[.int .i64 t.f, .slice a t.args.length c]), (1, .int .i64 m)]) ⟨rfl, rfl, trivial⟩ ?_
 refine WC.seq (WC.region ?_)
 refine WL.step (post := NewBlk w 34 #[.int .i64 t.f, .slice a t.args.length c]) rfl rfl rfl (fun za zC zh zk => box_34 rfl (zh.ev rfl) (zk _ _ (newBlk _ _ _))) ?_
 rintro _ w1 ⟨g2, rfl, hg3, hB4, hb5, hz6⟩
 have hl7 : w.heap.size ≤ g2 := by omega
 refine WL.step (post := NewBlk w1 3 #[.int .i64 m]) rfl rfl rfl (fun za zC zh zk => box_3 rfl (zh.ev rfl) (zk _ _ (newBlk _ _ _))) ?_
 rintro _ w8 ⟨g9, rfl, hg10, hB11, hb12, hz13⟩
 have hl14 : g2 < g9 := by have z1 := hB4.lt; omega
 have hl15 : w.heap.size ≤ g9 := by have z2 := (hb5).size; omega
 refine WL.step (post := NewBlk w8 34 #[.int .i64 0, .slice none 0 0]) rfl rfl rfl (fun za zC zh zk => alloc_34 rfl (zk _ _ (newBlk _ _ _))) ?_
 rintro _ w16 ⟨g17, rfl, hg18, hB19, hb20, hz21⟩
 have hl22 : g2 < g17 := by have z1 := hB4.lt; have z2 := (hb12).size; omega
 have hl23 : g9 < g17 := by have z1 := hB11.lt; omega
 have hb24 : Below w.heap.size w w8 := (bstep hb5 hb12)
 have hl25 : w.heap.size ≤ g17 := by have z2 := (hb24).size; omega
 refine WL.nil (WE.next (WC.seq (WC.region ?_)))
 have hb27 : Below w1.heap.size w1 w16 := (bstep hb12 hb20)
 have hB26 := hB4.below hb27
 refine WL.val _ rfl rfl rfl (fun za zC zh zk => ld_34 rfl (zh.ev rfl) ((hB26.cell 0).trans rfl) ((hB26.cell 1).trans rfl) zk) ?_
 refine WL.val (.func (Fn.func 30) #[] #[.pointer (some ⟨g9, 0, none⟩)]) rfl rfl rfl (fun za zC zh zk => mkfn rfl (hv0) (hv1 (zh.ev rfl)) zk) ?_
 have hB28 := hB11.below hb20
 have hb29 : Below w.heap.size w w16 := (bstep hb5 hb27)
 have hl33 : g2 < w16.heap.size := by have z1 := hB26.lt; omega
 have hl34 : g9 < w16.heap.size := by have z1 := hB28.lt; omega
 have hl35 : g17 < w16.heap.size := by have z1 := hB19.lt; omega
 have hl36 : w.heap.size ≤ w16.heap.size := (hb29).size
 refine WL.call rfl rfl rfl (fun za zh zC => wp_call (by kernel_rfl) rfl (hv2 (zh.ev rfl) (zh.ev rfl))) (renamed_any m _ hm t _ _ hz (IsT.below hb29 hv) hB28) ?_
 rintro v30 w37 ⟨hn31, hb32⟩
 obtain ⟨_, a38, c39, rfl, _, _, _⟩ := hn31.form
 have hB40 := hB19.below hb32
 refine WL.step (post := fun _ w' => Upd g17 w37 w' ∧ Blk w' g17 34 #[.int .i64 ((t.mv m).f), .slice a38 ((t.mv m).args.length) c39]) rfl rfl rfl (fun za zC zh zk => st_34 rfl (zh.ev rfl) (zh.ev rfl) rfl rfl hB40 (by first | decide | simp) (fun v => zk v _ ⟨(Upd.at_ _ _ _ _).trans (Upd.at_ _ _ _ _), (hB40.set_ 0 _).set_ 1 _⟩)) ?_
 rintro v44 w41 ⟨hu42, hB43⟩
 have hb45 : Below w.heap.size w w37 := (bstep hb29 hb32)
 have hb46 := upd_below hb45 hu42 (by omega)
 have hB47 := hB26.below hb32
 have hB48 := upd_blk hB47 hu42 (by omega)
 have hB49 := hB28.below hb32
 have hB50 := upd_blk hB49 hu42 (by omega)
 have ho51 := hn31.upd hu42 (by omega)
 refine WL.nil (WE.next (WC.ret ?_))
 refine WE.retAny (v := .agg #[.int .i64 ((t.mv m).f), .slice a38 ((t.mv m).args.length) c39]) (fun za zh => ?_) ?_
 ·have z0 : za.tmps[4]?.getD undef = .pointer (some ⟨g17, 0, none⟩) := by rw [← Array.getD_eq_getD_getElem?]; exact zh.knows 4 _ rfl
  have y0 : w41.cell? ⟨g17, 0, none⟩ = some (.int .i64 ((t.mv m).f)) := ((hB43.cell 0).trans rfl)
  have y1 : w41.cell? ⟨g17, 1, none⟩ = some (.slice a38 ((t.mv m).args.length) c39) := ((hB43.cell 1).trans rfl)
  simp [results, Try.results10, z0, y0, y1, go_sem]
 ·have hgz := (hb29).size
  exact ⟨_, rfl, (ho51).mono (fun b hb _ => by omega), hb46⟩
end Go.Proofs.Ytnokgjajcnhkkaa

/- Terms whose variables have no arguments. -/
namespace Go.Proofs.Ytnokgjajcnhkkaa
open Go.RowKit Go
set_option linter.unusedVariables false
set_option linter.unusedSimpArgs false
mutual
def T.plain : T → Bool
  | .mk f l => T.plainL l && (decide (0 ≤ f) || l.isEmpty)
def T.plainL : List T → Bool
  | [] => true
  | t :: r => t.plain && T.plainL r
end
end Go.Proofs.Ytnokgjajcnhkkaa

/- Small terms: plain. -/
namespace Go.Proofs.Ytnokgjajcnhkkaa
open Go.RowKit Go
set_option linter.unusedVariables false
set_option linter.unusedSimpArgs false
mutual
def T.dep : T → Nat
  | .mk _ l => T.depL l + 1
def T.depL : List T → Nat
  | [] => 0
  | t :: r => max t.dep (T.depL r)
end
mutual
def T.low (m : Int) : T → Bool
  | .mk f l => if f < 0 then decide (-m ≤ f) && decide (l.length = 0) else T.lowL m l
def T.lowL (m : Int) : List T → Bool
  | [] => true
  | t :: r => t.low m && T.lowL m r
end
def T.small (m : Int) (t : T) : Bool := decide (t.size ≤ 300) && decide (t.dep ≤ 30) && t.low m
theorem depL_snoc : ∀ (l : List T) (t : T), T.depL (l ++ [t]) = max (T.depL l) t.dep
  | [], t => by simp [T.depL]
  | x :: l, t => by rw [List.cons_append, T.depL, T.depL, depL_snoc l t, Nat.max_assoc]
theorem depL_take {l : List T} {k : Nat} (h : k < l.length) : T.depL (l.take (k + 1)) = max (T.depL (l.take k)) (tget l k).dep := by
  rw [List.take_succ_eq_append_getElem h, depL_snoc, tget_lt h]
theorem sizeL_snoc : ∀ (l : List T) (t : T), T.sizeL (l ++ [t]) = T.sizeL l + t.size
  | [], t => by simp [T.sizeL]
  | x :: l, t => by rw [List.cons_append, T.sizeL, T.sizeL, sizeL_snoc l t, Nat.add_assoc]
theorem sizeL_take1 {l : List T} {k : Nat} (h : k < l.length) : T.sizeL (l.take (k + 1)) = T.sizeL (l.take k) + (tget l k).size := by
  rw [List.take_succ_eq_append_getElem h, sizeL_snoc, tget_lt h]
mutual
theorem T.dep_le : ∀ t : T, t.dep ≤ t.size
  | .mk f l => by rw [T.dep, T.size]; have := T.depL_le l; omega
theorem T.depL_le : ∀ l : List T, T.depL l ≤ T.sizeL l
  | [] => Nat.le_refl _
  | t :: r => by rw [T.depL, T.sizeL]; have := T.dep_le t; have := T.depL_le r; omega
end
theorem depL_take_le {l : List T} {k : Nat} : T.depL (l.take k) ≤ T.sizeL l := by
  have h1 := T.depL_le (l.take k)
  have h2 : T.sizeL (l.take k) ≤ T.sizeL l := T.sizeL_take_le l k
  omega
theorem lowL_mem {m : Int} : ∀ {l : List T}, T.lowL m l = true ↔ ∀ t ∈ l, t.low m = true
  | [] => by simp [T.lowL]
  | t :: r => by rw [T.lowL, Bool.and_eq_true, lowL_mem (l := r)]; simp
theorem low_yes {m f : Int} {l : List T} (hf : ¬ f < 0) (h : ∀ i, i < l.length → (tget l i).low m = true) : (T.mk f l).low m = true := by
  rw [T.low, if_neg hf]
  refine lowL_mem.2 fun t ht => ?_
  obtain ⟨i, hi, rfl⟩ := List.getElem_of_mem ht
  have := h i hi
  rwa [tget_lt hi] at this
theorem low_no {m f : Int} {l : List T} {k : Nat} (hf : ¬ f < 0) (hk : k < l.length) (h : ¬ (tget l k).low m = true) : (T.mk f l).low m = false := by
  rw [T.low, if_neg hf, Bool.eq_false_iff]
  intro e
  exact h (lowL_mem.1 e _ (tget_mem hk))
end Go.Proofs.Ytnokgjajcnhkkaa

/- Names of variables make no difference to the orders: plain. -/
namespace Go.Proofs.Ytnokgjajcnhkkaa
set_option linter.unusedVariables false
set_option linter.unusedSimpArgs false
def rnF (b f : Int) : Int := if f < 0 then f - b else f
theorem rnF_neg {b f : Int} (hb : 0 ≤ b) : rnF b f < 0 ↔ f < 0 := by unfold rnF; split <;> omega
theorem rnF_pos {b f : Int} (h : ¬ f < 0) : rnF b f = f := by unfold rnF; rw [if_neg h]
theorem rnF_inj {b f g : Int} (hb : 0 ≤ b) : rnF b f = rnF b g ↔ f = g := by unfold rnF; split <;> split <;> omega
mutual
def T.ren (b : Int) : T → T
  | .mk f l => .mk (rnF b f) (T.renL b l)
def T.renL (b : Int) : List T → List T
  | [] => []
  | t :: r => t.ren b :: T.renL b r
end
theorem T.renL_eq (b : Int) : ∀ l : List T, T.renL b l = l.map (T.ren b)
  | [] => rfl
  | t :: r => by rw [T.renL, T.renL_eq b r]; rfl
theorem ren_f (b : Int) (t : T) : (t.ren b).f = rnF b t.f := by cases t; rfl
theorem ren_args (b : Int) (t : T) : (t.ren b).args = t.args.map (T.ren b) := by cases t; rw [T.ren, T.renL_eq]; rfl
mutual
theorem ren_size (b : Int) : ∀ t : T, (t.ren b).size = t.size
  | .mk f l => by rw [T.ren, T.size, T.size, renL_size b l]
theorem renL_size (b : Int) : ∀ l : List T, T.sizeL (T.renL b l) = T.sizeL l
  | [] => rfl
  | t :: r => by rw [T.renL, T.sizeL, T.sizeL, ren_size b t, renL_size b r]
end
mutual
theorem ren_inj {b : Int} (hb : 0 ≤ b) : ∀ (s t : T), s.ren b = t.ren b → s = t
  | .mk f l, .mk g k, h => by
    rw [T.ren, T.ren] at h
    simp only [T.mk.injEq] at h
    rw [(rnF_inj hb).1 h.1, renL_inj hb l k h.2]
theorem renL_inj {b : Int} (hb : 0 ≤ b) : ∀ (s t : List T), T.renL b s = T.renL b t → s = t
  | [], [], _ => rfl
  | [], _ :: _, h => by simp [T.renL] at h
  | _ :: _, [], h => by simp [T.renL] at h
  | x :: s, y :: t, h => by
    rw [T.renL, T.renL] at h
    simp only [List.cons.injEq] at h
    rw [ren_inj hb x y h.1, renL_inj hb s t h.2]
end
theorem ren_same {b : Int} (hb : 0 ≤ b) (s t : T) : T.same (s.ren b) (t.ren b) = T.same s t := by
  rw [Bool.eq_iff_iff, T.same_iff, T.same_iff]
  exact ⟨ren_inj hb s t, fun h => by rw [h]⟩
mutual
theorem ren_often {b : Int} (hb : 0 ≤ b) (v : Int) : ∀ t : T, (t.ren b).often (rnF b v) = t.often v
  | .mk f l => by
    rw [T.ren, T.often, T.often, renL_often hb v l]
    by_cases h : f = v
    · rw [if_pos ((rnF_inj hb).2 h), if_pos h]
    · rw [if_neg (fun e => h ((rnF_inj hb).1 e)), if_neg h]
theorem renL_often {b : Int} (hb : 0 ≤ b) (v : Int) : ∀ l : List T, T.oftenL (rnF b v) (T.renL b l) = T.oftenL v l
  | [] => rfl
  | t :: r => by rw [T.renL, T.oftenL, T.oftenL, ren_often hb v t, renL_often hb v r]
end
namespace Od
theorem ren_wsym {b : Int} (hb : 0 ≤ b) (o : Od) (f : Int) : o.wsym (rnF b f) = o.wsym f := by
  unfold wsym
  by_cases h : f < 0
  · rw [if_pos ((rnF_neg hb).2 h), if_pos h]
  · rw [rnF_pos h]
mutual
theorem ren_raw {b : Int} (hb : 0 ≤ b) (o : Od) : ∀ t : T, o.raw (t.ren b) = o.raw t
  | .mk f l => by rw [T.ren, raw, raw, ren_wsym hb, renL_raw hb o l]
theorem renL_raw {b : Int} (hb : 0 ≤ b) (o : Od) : ∀ l : List T, o.rawL (T.renL b l) = o.rawL l
  | [] => rfl
  | t :: r => by rw [T.renL, rawL, rawL, ren_raw hb o t, renL_raw hb o r]
end
theorem ren_weight {b : Int} (hb : 0 ≤ b) (o : Od) (t : T) : o.weight (t.ren b) = o.weight t := by unfold weight; rw [ren_raw hb]
mutual
theorem ren_knows {b : Int} (hb : 0 ≤ b) (o : Od) : ∀ t : T, o.knows (t.ren b) = o.knows t
  | .mk f l => by
    rw [T.ren, knows, knows, renL_knows hb o l]
    by_cases h : f < 0
    · rw [if_pos ((rnF_neg hb).2 h), if_pos h, T.renL_eq]; cases l <;> rfl
    · rw [rnF_pos h, if_neg h, if_neg h]
theorem renL_knows {b : Int} (hb : 0 ≤ b) (o : Od) : ∀ l : List T, o.knowsL (T.renL b l) = o.knowsL l
  | [] => rfl
  | t :: r => by rw [T.renL, knowsL, knowsL, ren_knows hb o t, renL_knows hb o r]
end
mutual
theorem ren_lknows {b : Int} (hb : 0 ≤ b) (o : Od) : ∀ t : T, o.lknows (t.ren b) = o.lknows t
  | .mk f l => by
    rw [T.ren, lknows, lknows, renL_lknows hb o l]
    by_cases h : f < 0
    · rw [if_pos ((rnF_neg hb).2 h), if_pos h, T.renL_eq]; cases l <;> rfl
    · rw [rnF_pos h, if_neg h, if_neg h]
theorem renL_lknows {b : Int} (hb : 0 ≤ b) (o : Od) : ∀ l : List T, o.lknowsL (T.renL b l) = o.lknowsL l
  | [] => rfl
  | t :: r => by rw [T.renL, lknowsL, lknowsL, ren_lknows hb o t, renL_lknows hb o r]
end
theorem ren_around {b f v : Int} (hb : 0 ≤ b) : ∀ t : T, around (rnF b f) (rnF b v) (t.ren b) = around f v t
  | .mk g [] => by simp [T.ren, T.renL, around]
  | .mk g [a] => by
    rw [T.ren, T.renL, T.renL, around, around, ren_around hb a, ren_f]
    congr 1
    · rw [Bool.eq_iff_iff, beq_iff_eq, beq_iff_eq, rnF_inj hb]
    · congr 1
      rw [Bool.eq_iff_iff, beq_iff_eq, beq_iff_eq, rnF_inj hb]
  | .mk g (a :: c :: r) => by simp [T.ren, T.renL, around]
mutual
theorem ren_covers {b : Int} (hb : 0 ≤ b) (s t : T) : ∀ u : T, covers (s.ren b) (t.ren b) (u.ren b) = covers s t u
  | .mk f l => by
    rw [T.ren, covers, covers, renL_covers hb s t l]
    by_cases h : f < 0
    · rw [if_pos ((rnF_neg hb).2 h), if_pos h, ren_often hb, ren_often hb]
    · rw [rnF_pos h, if_neg h, if_neg h]
theorem renL_covers {b : Int} (hb : 0 ≤ b) (s t : T) : ∀ l : List T, coversL (s.ren b) (t.ren b) (T.renL b l) = coversL s t l
  | [] => rfl
  | u :: r => by rw [T.renL, coversL, coversL, ren_covers hb s t u, renL_covers hb s t r]
end
theorem ren_above_step {b : Int} (hb : 0 ≤ b) (o : Od) (f : Int) (l : List T) (hL : ∀ k, aboveL o (T.renL b l) (T.renL b k) = aboveL o l k) (t : T) : above o ((T.mk f l).ren b) (t.ren b) = above o (.mk f l) t := by
  have e1 := ren_covers hb (.mk f l) t t
  have e2 := ren_weight hb o t
  have e3 := ren_weight hb o (.mk f l)
  rw [above_eq, above_eq, e1, e2, e3, ren_f, ren_f, ren_args, ren_args]
  congr 2
  by_cases h : f < 0
  · rw [show (T.mk f l).f = f from rfl, if_pos ((rnF_neg hb).2 h), if_pos h]
  · rw [show (T.mk f l).f = f from rfl, if_neg (fun e => h ((rnF_neg hb).1 e)), if_neg h]
    congr 1
    by_cases h2 : t.f < 0
    · rw [if_pos ((rnF_neg hb).2 h2), if_pos h2, ren_around hb]
    · rw [if_neg (fun e => h2 ((rnF_neg hb).1 e)), if_neg h2, rnF_pos h, rnF_pos h2]
      by_cases h3 : f ≠ t.f
      · rw [if_pos h3, if_pos h3]
      · rw [if_neg h3, if_neg h3, show (T.mk f l).args = l from rfl, ← T.renL_eq, ← T.renL_eq, hL]
mutual
theorem ren_above {b : Int} (hb : 0 ≤ b) (o : Od) : ∀ (s t : T), above o (s.ren b) (t.ren b) = above o s t
  | .mk f l, t => ren_above_step hb o f l (fun k => renL_above hb o l k) t
theorem renL_above {b : Int} (hb : 0 ≤ b) (o : Od) : ∀ (l k : List T), aboveL o (T.renL b l) (T.renL b k) = aboveL o l k
  | [], _ => by rw [T.renL, aboveL, aboveL]
  | _ :: _, [] => by rw [T.renL, T.renL, aboveL, aboveL]
  | a :: r, c :: q => by rw [T.renL, T.renL, aboveL, aboveL, ren_same hb, renL_above hb o r q, ren_above hb o a c]
end
theorem ren_Cmp {b : Int} (hb : 0 ≤ b) (o : Od) (s t : T) : o.Cmp (s.ren b) (t.ren b) = o.Cmp s t := by
  unfold Cmp cmp
  rw [ren_knows hb, ren_knows hb, ren_same hb, ren_above hb, ren_above hb]
mutual
theorem ren_has {b : Int} (hb : 0 ≤ b) (v : Int) : ∀ t : T, (t.ren b).has (rnF b v) = t.has v
  | .mk f l => by
    rw [T.ren, T.has, T.has, renL_has hb v l]
    congr 1
    rw [Bool.eq_iff_iff, decide_eq_true_eq, decide_eq_true_eq, rnF_inj hb]
theorem renL_has {b : Int} (hb : 0 ≤ b) (v : Int) : ∀ l : List T, T.hasL (rnF b v) (T.renL b l) = T.hasL v l
  | [] => rfl
  | t :: r => by rw [T.renL, T.hasL, T.hasL, ren_has hb v t, renL_has hb v r]
end
theorem ren_lexR {b : Int} (hb : 0 ≤ b) {R : T → T → Bool} (hR : ∀ s t, R (s.ren b) (t.ren b) = R s t) : ∀ l k : List T, lexR R (l.map (T.ren b)) (k.map (T.ren b)) = lexR R l k
  | [], _ => by rw [List.map_nil, lexR, lexR]
  | _ :: _, [] => by rw [List.map_nil, List.map_cons, lexR, lexR]
  | x :: l, y :: k => by rw [List.map_cons, List.map_cons, lexR, lexR, ren_same hb, hR, ren_lexR hb hR l k]
theorem any_map_c {α β : Type} (f : α → β) (p : β → Bool) (q : α → Bool) (h : ∀ x, p (f x) = q x) : ∀ l : List α, (l.map f).any p = l.any q
  | [] => rfl
  | x :: r => by rw [List.map_cons, List.any_cons, List.any_cons, h, any_map_c f p q h r]
theorem all_map_c {α β : Type} (f : α → β) (p : β → Bool) (q : α → Bool) (h : ∀ x, p (f x) = q x) : ∀ l : List α, (l.map f).all p = l.all q
  | [] => rfl
  | x :: r => by rw [List.map_cons, List.all_cons, List.all_cons, h, all_map_c f p q h r]
theorem ren_lstep {b : Int} (hb : 0 ≤ b) (o : Od) {R : T → T → Bool} (hR : ∀ s t, R (s.ren b) (t.ren b) = R s t) (s t : T) : o.lstep R (s.ren b) (t.ren b) = o.lstep R s t := by
  unfold lstep
  rw [ren_f, ren_f, ren_args, ren_args, ren_has hb]
  by_cases h : s.f < 0
  · rw [if_pos ((rnF_neg hb).2 h), if_pos h]
  · rw [if_neg (fun e => h ((rnF_neg hb).1 e)), if_neg h]
    by_cases h2 : t.f < 0
    · rw [if_pos ((rnF_neg hb).2 h2), if_pos h2]
    · rw [if_neg (fun e => h2 ((rnF_neg hb).1 e)), if_neg h2, rnF_pos h, rnF_pos h2, ren_lexR hb hR, all_map_c (T.ren b) _ (R s) (fun x => hR s x), any_map_c (T.ren b) _ (fun a => T.same a t || R a t) (fun x => by rw [ren_same hb, hR])]
theorem ren_lgN {b : Int} (hb : 0 ≤ b) (o : Od) : ∀ (n : Nat) (s t : T), o.lgN n (s.ren b) (t.ren b) = o.lgN n s t
  | 0, _, _ => rfl
  | n + 1, s, t => by rw [lgN, lgN]; exact ren_lstep hb o (fun s t => ren_lgN hb o n s t) s t
theorem ren_lg {b : Int} (hb : 0 ≤ b) (o : Od) (s t : T) : o.lg (s.ren b) (t.ren b) = o.lg s t := by unfold lg; rw [ren_size, ren_size, ren_lgN hb]
theorem ren_lcmp {b : Int} (hb : 0 ≤ b) (o : Od) (s t : T) : o.lcmp (s.ren b) (t.ren b) = o.lcmp s t := by
  unfold lcmp
  rw [ren_lknows hb, ren_lknows hb, ren_same hb, ren_lg hb, ren_lg hb]
end Od
/-! ### Multisets -/
section
variable {α β : Type} {c : α → α → Int} {d : β → β → Int} {f : α → β} (h : ∀ x y, d (f x) (f y) = c x y)
include h
theorem strikeR_map (x : α) : ∀ r : List α, strikeR d (f x) (r.map f) = (strikeR c x r).map (List.map f)
  | [] => rfl
  | y :: r => by
    rw [List.map_cons, strikeR, strikeR, h]
    by_cases e : c x y = 2
    · rw [if_pos e, if_pos e]; rfl
    · rw [if_neg e, if_neg e, strikeR_map x r]; cases strikeR c x r <;> rfl
theorem multiLR_map : ∀ (a b : List α), multiLR d (a.map f) (b.map f) = ((multiLR c a b).1.map f, (multiLR c a b).2.map f)
  | [], b => by rw [List.map_nil, multiLR, multiLR]; rfl
  | x :: a, b => by
    rw [List.map_cons, multiLR, multiLR, strikeR_map h]
    cases e : strikeR c x b with
    | none => simp only [Option.map_none]; rw [multiLR_map a b]; rfl
    | some r => simp only [Option.map_some]; rw [multiLR_map a r]
theorem allAb_map (x y : List α) : allAb d (x.map f) (y.map f) = allAb c x y := by
  unfold allAb
  exact Od.all_map_c f _ _ (fun q => Od.any_map_c f _ _ (fun p => by rw [h]) x) y
theorem multiP_map (a b : List α) : multiP d (a.map f) (b.map f) = multiP c a b := by
  unfold multiP
  rw [multiLR_map h]
  simp only [allAb_map h]
  cases (multiLR c a b).1 <;> cases (multiLR c a b).2 <;> rfl
end
end Go.Proofs.Ytnokgjajcnhkkaa

/- What a law's statement asks behind its call, where the call answers true and leaves all that was there as it was. -/
namespace Go.Proofs.Ytnokgjajcnhkkaa
open Go.ChangeShapes Go.WideShapes Go.ChangeAt Go.RowKit
section
variable {H : Type} {enc : TypeId × Value → H} {P : Program}
theorem trodAll_below (hl : laidOutB P = true) {W W' : World} (hb : Below W.heap.size W W') : ∀ {ts : List TypeId} {vs : List Value} {ds : List (DataW H)} {ps : List MemPlace},
    (∀ t ∈ ts, P.readableRec t = true ∧ t < P.types.size) → (∀ x ∈ ps, x.block < W.heap.size) → DataW.TrodAll enc P W 0 (fun _ => true) true ts vs ds ps →
    DataW.TrodAll enc P W' 0 (fun b => decide (b < W.heap.size)) true ts vs ds ps
  | [], [], [], _, _, _, h => h
  | t :: ts, v :: vs, d :: ds, ps, hr, hlt, ⟨p, q, h1, h2, e⟩ => by
    subst e
    exact ⟨p, q, Below.trod hl (hr t (by simp)).1 (hr t (by simp)).2 h1 hb (fun x hx => hlt x (by simp [hx])), trodAll_below hl hb (fun t ht => hr t (by simp [ht])) (fun x hx => hlt x (by simp [hx])) h2, rfl⟩
  | [], _ :: _, _, _, _, _, h => h.elim
  | [], [], _ :: _, _, _, _, h => h.elim
  | _ :: _, [], _, _, _, _, h => h.elim
  | _ :: _, _ :: _, [], _, _, _, h => h.elim
theorem law_post {f : Func} {s : ChangeSpec} {W W' : World} {args : Array Value} {ds gs : List (DataW H)} {before : List MemPlace} {tb : TypeId} (hl : laidOutB P = true) (hr : ∀ t ∈ f.params.toList, P.readableRec t = true ∧ t < P.types.size)
    (htb : P.underlying tb = some .bool) (hrt : f.resultTypes = #[tb]) (hv : s.vars = []) (hs : s.fn H ds = { results := [.lit (.bool true)], args := ds })
    (hW : DataW.Whole enc P f.params.toList s.vars false W args.toList ds gs before) (hb : Below W.heap.size W W') : s.post enc P f false true false false W args (.bool true) W' := by
  have hlt : ∀ p ∈ before, p.block < W.heap.size := fun p hp => hW.lt p hp
  have hW0 := hW
  obtain ⟨p, q, hA, hV, hpq, _, _⟩ := hW
  rw [hv] at hV
  obtain ⟨rfl, rfl⟩ := trodVars_none hV
  refine ⟨ds, [], before, [], p, [], hW0, ?_, ?_, ?_, hb.frame _, fun h => by cases h⟩
  · rw [List.append_nil, hs, hrt]
    exact trodAll_cons_mk (shut_bool htb _) trodAll_mk0
  · rw [List.append_nil, hs]
    refine trodAll_below hl hb hr (fun x hx => hlt x ?_) hA
    rw [hpq]; simp [hx]
  · rw [List.append_nil, hv]
    have : (s.fn H ds).vars = [] := by rw [hs]
    rw [this]
    rfl
end
end Go.Proofs.Ytnokgjajcnhkkaa

/- Arguments of a law, opened: terms, integers, truth values; rows in general. -/
namespace Go.Proofs.Ytnokgjajcnhkkaa
open Go.ChangeShapes Go.WideShapes Go.ChangeAt Go.RowKit
theorem own : ownKnob Try.prog.godebug = none := by kernel_rfl
theorem one_le_bulk {H : Type} (d : DataW H) : 1 ≤ Rows.uptoBulk d := by
  cases d with
  | lit l => cases l <;> simp [Rows.uptoBulk]
  | _ => simp [Rows.uptoBulk]
theorem len_le_bulk {H : Type} (ds : List (DataW H)) : ds.length ≤ Rows.uptoBulkAll ds := by
  induction ds with
  | nil => simp
  | cons d r ih => have := one_le_bulk d; simp only [List.length_cons, Rows.uptoBulkAll]; omega
theorem readable_all {P : Program} {ts : List TypeId} (h : (ts.all fun t => P.readableRec t && Nat.blt t P.types.size) = true) : ∀ t ∈ ts, P.readableRec t = true ∧ t < P.types.size := by
  intro t ht
  have := List.all_eq_true.1 h t ht
  simp only [Bool.and_eq_true, Nat.blt_eq] at this
  exact this
theorem bulk_mem {H : Type} {l : List (DataW H)} (hk : Rows.uptoSmall H l = true) {d : DataW H} (h : d ∈ l) : Rows.uptoBulk d ≤ 1048576 :=
  Nat.le_trans (bulkAll_le h) (of_decide_eq_true hk)
section
variable {H : Type} {enc : TypeId × Value → H} {w : World} {base : Nat} {spare : Nat → Bool} {held : Bool}
set_option maxRecDepth 100000 in
theorem arg_int {r : Reach} {b : Nat} {v : Value} {d : DataW H} {p : List MemPlace} (h : Value.okWide Try.prog w r b 3 v) (ht : DataW.Trod enc Try.prog w base spare held 3 v d p) :
    ∃ n : Int, v = .int .i64 n ∧ I64 n := by
  obtain ⟨n, rfl⟩ := okWide_int Try.underlying3 h
  obtain ⟨fuel, hf⟩ := ht
  obtain ⟨m, e, _, wf⟩ := DataW.trod_int Try.underlying3 hf
  have e' : (.int .i64 n : Value) = .int .i64 m := by simpa [Value.cells] using e
  simp only [Value.int.injEq, true_and] at e'
  exact ⟨n, rfl, by rw [e']; exact i64_wf wf⟩
theorem bulk_at {H : Type} : ∀ {ds : List (DataW H)} {d : DataW H}, d ∈ ds → Rows.uptoBulk d ≤ Rows.uptoBulkAll ds
  | [], _, h => nomatch h
  | x :: r, d, h => by
    rw [Rows.uptoBulkAll]
    rcases List.mem_cons.1 h with rfl | h
    · omega
    · have := bulk_at h; omega
/-- A row that was opened, as the rows of elements have it. -/
theorem inRow_of {α : Type} {E : Elt α} {R : World → α → List Value → Prop} {l : List α} {a : Option Addr} (hR : ∀ x cs, R w x cs → E.In (fun _ => True) w x cs) (h : IsRow w E.k R l a) : InRow E (fun _ => True) w l a := fun i hi => by
  obtain ⟨b, o, cs, h1, _, h3, h4⟩ := h i hi
  exact ⟨b, o, cs, h1, trivial, hR _ _ h4, h3⟩
theorem IsT.inTrue {t : T} {v : Value} (h : IsT w t v) : InT (fun _ => True) w t v := InT.mono (fun _ _ _ => trivial) (IsT.inT h)
end
end Go.Proofs.Ytnokgjajcnhkkaa

/- Arguments of a law, opened: ways of selecting, rows of truth values. -/
namespace Go.Proofs.Ytnokgjajcnhkkaa
open Go.ChangeShapes Go.WideShapes Go.ChangeAt Go.RowKit Go
set_option linter.unusedVariables false
set_option linter.unusedSimpArgs false
def bget3 (l : List Bool) (k : Nat) : Bool := l.getD k false
/-- A row of truth values. -/
def IsBo (w : World) (l : List Bool) (a : Option Addr) : Prop := ∃ b o, (∀ k, k < l.length → a = some ⟨b, o, none⟩) ∧ ∀ k, k < l.length → w.cell? ⟨b, o + k, none⟩ = some (.bool (bget3 l k))
section
variable {H : Type} {enc : TypeId × Value → H} {w : World} {base : Nat} {spare : Nat → Bool} {held : Bool}
set_option maxRecDepth 100000 in
theorem arg_SBy {r : Reach} {b : Nat} {v : Value} {d : DataW H} {p : List MemPlace} (h : Value.okWide Try.prog w r b 25 v) (ht : DataW.Trod enc Try.prog w base spare held 25 v d p) :
    ∃ n : Int, v = .int .i64 n ∧ I64 n := by
  obtain ⟨n, rfl⟩ := okWide_int Try.underlying25 h
  obtain ⟨fuel, hf⟩ := ht
  obtain ⟨m, e, _, wf⟩ := DataW.trod_int Try.underlying25 hf
  have e' : (.int .i64 n : Value) = .int .i64 m := by simpa [Value.cells] using e
  simp only [Value.int.injEq, true_and] at e'
  exact ⟨n, rfl, by rw [e']; exact i64_wf wf⟩
def IsBoG (w : World) (x : Bool) (cs : List Value) : Prop := cs = [.bool x]
set_option maxRecDepth 100000 in
theorem arg_Bo {r : Reach} {b : Nat} {v : Value} {d : DataW H} {p : List MemPlace} (h : Value.okWide Try.prog w r b 38 v) (ht : DataW.Trod enc Try.prog w base spare held 38 v d p) (hk : Rows.uptoBulk d ≤ 1048576) :
    ∃ (l : List Bool) (a : Option Addr) (c : Nat), v = .slice a l.length c ∧ IsBo w l a ∧ l.length ≤ 1048576 := by
  obtain ⟨a, n, c, rfl⟩ := okWide_slice Try.underlying38 h
  obtain ⟨fuel, hf⟩ := ht
  obtain ⟨l, a', c', ds, sp, e, h1, h2, h3, h4, h5, h6⟩ := open_row Try.underlying38 (k := 1) (by kernel_rfl) (by omega) hf (R := IsBoG) (S := fun _ _ => True) (fun n cs x hx => by
    obtain ⟨b, e0, _⟩ := DataW.trod_bool Try.underlying4 hx
    exact ⟨b, e0, trivial⟩)
  have e' : Value.slice a n c = .slice a' l.length c' := by simpa [Value.cells] using e
  have hlen : l.length ≤ 1048576 := by
    rcases h5 with ⟨_, rfl, _⟩ | e
    · simp
    · have := len_le_bulk ds
      have e2 : d = .slice ds sp := e
      rw [e2] at hk; simp only [Rows.uptoBulk] at hk; omega
  refine ⟨l, a', c', e', ?_, hlen⟩
  rcases Nat.eq_zero_or_pos l.length with h0 | h0
  · exact ⟨0, 0, fun k hk => by omega, fun k hk => by omega⟩
  · obtain ⟨b, o, _, ha, _⟩ := h3 0 h0
    refine ⟨b, o, fun _ _ => ha, fun i hi => ?_⟩
    obtain ⟨b2, o2, cs, e1, _, m0, m3⟩ := h3 i hi
    rw [ha] at e1
    simp only [Option.some.injEq, Addr.mk.injEq, and_true] at e1
    obtain ⟨rfl, rfl⟩ := e1
    unfold IsBoG at m3
    subst m3
    have e3 : bget3 l i = l[i] := by simp [bget3, hi]
    rw [e3]
    simpa using m0 0 (by omega)
end
end Go.Proofs.Ytnokgjajcnhkkaa

/- Names of variables, sides that are turned: what is selected is the same; plain. -/
namespace Go.Proofs.Ytnokgjajcnhkkaa
open Go.RowKit Go
set_option linter.unusedVariables false
set_option linter.unusedSimpArgs false
theorem mv_ren {m : Int} (hm : 0 ≤ m ∧ m ≤ 1000) (t : T) : t.low 48 = true → t.mv m = t.ren m := by
  induction t using T.ind with
  | h f l ih =>
    intro h
    rw [mv_mk, T.ren, T.renL_eq]
    rw [T.low] at h
    by_cases hf : f < 0
    · rw [if_pos hf, Bool.and_eq_true, decide_eq_true_eq, decide_eq_true_eq] at h
      have h2 : l = [] := List.length_eq_zero_iff.1 h.2
      subst h2
      have e : mvF f m = rnF m f := by
        rw [mvF_neg hf, mvTo_yes (mvOk_iff.2 (.inl ⟨hm.1, by omega, by omega⟩))]
        unfold rnF
        rw [if_pos hf]; omega
      rw [e]; rfl
    · rw [if_neg hf] at h
      rw [mvF_pos hf, rnF_pos hf]
      congr 1
      exact List.map_congr_left (fun t ht => ih t ht (lowL_mem.1 h t ht))
theorem ren_isTrue {b : Int} (hb : 0 ≤ b) (t : T) : (t.ren b).isTrue = t.isTrue := by
  rw [Bool.eq_iff_iff, T.isTrue_iff, T.isTrue_iff, ren_f, ren_args, List.length_map]
  have : rnF b t.f = 0 ↔ t.f = 0 := by unfold rnF; split <;> omega
  rw [this]
def Li.ren (b : Int) (x : Li) : Li := ⟨x.neg, x.l.ren b, x.r.ren b⟩
def Li.mv (m : Int) (x : Li) : Li := ⟨x.neg, x.l.mv m, x.r.mv m⟩
theorem ren_ok2 {b : Int} (hb : 0 ≤ b) (o : Od) (s t : T) : o.ok2 (s.ren b) (t.ren b) = o.ok2 s t := by
  unfold Od.ok2 Od.oc
  rw [ren_same hb, Od.ren_lcmp hb, Od.ren_Cmp hb]
theorem ren_mems (b : Int) (x : Li) : (x.ren b).mems = x.mems.map (List.map (T.ren b)) := by
  unfold Li.mems Li.ren
  cases x.neg <;> rfl
theorem ren_lits {b : Int} (hb : 0 ≤ b) (o : Od) (x y : Li) : o.lits (x.ren b) (y.ren b) = o.lits x y := by
  unfold Od.lits
  rw [ren_mems, ren_mems]
  exact multiP_map (f := List.map (T.ren b)) (fun p q => multiP_map (f := T.ren b) (fun s t => ren_ok2 hb o s t) p q) _ _
theorem ren_sz {b : Int} (hb : 0 ≤ b) (x : Li) : (x.ren b).sz = x.sz := by
  unfold Li.sz Li.ren
  simp only [ren_isTrue hb, ren_size]
/-- What is selected hangs on few things. -/
theorem firstK_congr {c d : List Li} : ∀ {n : Nat}, (∀ i, i < n → (lget d i).neg = (lget c i).neg) → firstK d n = firstK c n
  | 0, _ => rfl
  | n + 1, h => by
    have z := firstK_congr (c := c) (d := d) (n := n) (fun i hi => h i (by omega))
    unfold firstK
    rw [z, h n (by omega)]
theorem pickK_congr {sm : Bool} {c d : List Li} : ∀ {n : Nat}, (∀ i, i < n → (lget d i).neg = (lget c i).neg ∧ (lget d i).sz = (lget c i).sz) → pickK sm d n = pickK sm c n
  | 0, _ => rfl
  | n + 1, h => by
    have z := pickK_congr (sm := sm) (c := c) (d := d) (n := n) (fun i hi => h i (by omega))
    have z2 := pickK_in sm c n
    have hb : 0 ≤ pickK sm c n → betB sm (lget d n) (lget d (pickK sm c n).toNat) = betB sm (lget c n) (lget c (pickK sm c n).toNat) := fun hp => by
      unfold betB
      rw [(h n (by omega)).2, (h (pickK sm c n).toNat (by omega)).2]
    rw [show pickK sm d (n + 1) = if (lget d n).neg = true ∧ (pickK sm d n < 0 ∨ betB sm (lget d n) (lget d (pickK sm d n).toNat) = true) then (n : Int) else pickK sm d n from rfl,
      show pickK sm c (n + 1) = if (lget c n).neg = true ∧ (pickK sm c n < 0 ∨ betB sm (lget c n) (lget c (pickK sm c n).toNat) = true) then (n : Int) else pickK sm c n from rfl, z, (h n (by omega)).1]
    by_cases hp : 0 ≤ pickK sm c n
    · rw [hb hp]
    · have e : ∀ P : Prop, (pickK sm c n < 0 ∨ P) ↔ True := fun P => ⟨fun _ => trivial, fun _ => .inl (by omega)⟩
      simp only [e]
theorem oneB_congr {o : Od} {c d : List Li} (hl : d.length = c.length) (h : ∀ i j, i < c.length → j < c.length → o.lits (lget d i) (lget d j) = o.lits (lget c i) (lget c j)) : oneB o d = oneB o c := by
  unfold oneB oneTo onePair
  rw [hl, Bool.eq_iff_iff, List.any_eq_true, List.any_eq_true]
  constructor
  · rintro ⟨i, hi, hq⟩
    refine ⟨i, hi, ?_⟩
    rw [List.all_eq_true] at hq ⊢
    intro j hj
    have := hq j hj
    rwa [h i j (List.mem_range.1 hi) (List.mem_range.1 hj)] at this
  · rintro ⟨i, hi, hq⟩
    refine ⟨i, hi, ?_⟩
    rw [List.all_eq_true] at hq ⊢
    intro j hj
    have := hq j hj
    rwa [h i j (List.mem_range.1 hi) (List.mem_range.1 hj)]
theorem selK_congr {o : Od} {k : Int} {c d : List Li} (hl : d.length = c.length) (h : ∀ i, i < c.length → (lget d i).neg = (lget c i).neg ∧ (lget d i).sz = (lget c i).sz) (ho : k = 4 → ∀ i j, i < c.length → j < c.length → o.lits (lget d i) (lget d j) = o.lits (lget c i) (lget c j)) : selK o k d = selK o k c := by
  unfold selK
  rw [hl, firstK_congr (fun i hi => (h i hi).1), pickK_congr h, pickK_congr h]
  by_cases h4 : k = 4
  · rw [oneB_congr hl (ho h4)]
  · rw [if_neg h4, if_neg h4]
/-- A row, place by place. -/
def upL (f : Nat → Li) (n : Nat) : List Li := (List.range n).map f
theorem upL_succ (f : Nat → Li) (n : Nat) : upL f (n + 1) = upL f n ++ [f n] := by unfold upL; rw [List.range_succ, List.map_append]; rfl
theorem upL_len (f : Nat → Li) (n : Nat) : (upL f n).length = n := by simp [upL]
theorem upL_get (f : Nat → Li) {n i : Nat} (h : i < n) : lget (upL f n) i = f i := by rw [lget_lt (by rw [upL_len]; exact h)]; simp [upL]
theorem upL_mem {f : Nat → Li} {n : Nat} {x : Li} (h : x ∈ upL f n) : ∃ i, i < n ∧ x = f i := by
  unfold upL at h
  obtain ⟨i, hi, rfl⟩ := List.mem_map.1 h
  exact ⟨i, List.mem_range.1 hi, rfl⟩
def LowC (l : List Li) : Prop := ∀ i, i < l.length → (lget l i).l.low 48 = true ∧ (lget l i).r.low 48 = true
def movI (m : Int) (l : List Li) (i : Nat) : Li := (lget l i).mv m
theorem movI_ren {m : Int} {l : List Li} (hm : 0 ≤ m ∧ m ≤ 1000) (h : LowC l) {i : Nat} (hi : i < l.length) : movI m l i = (lget l i).ren m := by
  unfold movI Li.mv Li.ren
  rw [mv_ren hm _ (h i hi).1, mv_ren hm _ (h i hi).2]
theorem sel_moved {o : Od} {k m : Int} {l : List Li} (hm : 0 ≤ m ∧ m ≤ 1000) (h : LowC l) : selK o k (upL (movI m l) l.length) = selK o k l := by
  refine selK_congr (upL_len _ _) (fun i hi => ?_) (fun _ i j hi hj => ?_)
  · rw [upL_get _ hi, movI_ren hm h hi]; exact ⟨rfl, ren_sz hm.1 _⟩
  · rw [upL_get _ hi, upL_get _ hj, movI_ren hm h hi, movI_ren hm h hj, ren_lits hm.1]
def turnQ (ts : List Bool) (l : List Li) (i : Nat) : Bool := ((decide ((i : Int) < (ts.length : Int)) && bget3 ts i) && !(lget l i).r.isTrue) && !(lget l i).l.isTrue
def tuLi (b : Bool) (x : Li) : Li := if b = true then ⟨x.neg, x.r, x.l⟩ else x
def turI (ts : List Bool) (l : List Li) (i : Nat) : Li := tuLi (turnQ ts l i) (lget l i)
theorem sel_turned {o : Od} {k : Int} {ts : List Bool} {l : List Li} (hk : ¬ k = 4) : selK o k (upL (turI ts l) l.length) = selK o k l := by
  refine selK_congr (upL_len _ _) (fun i hi => ?_) (fun e => absurd e hk)
  rw [upL_get _ hi]
  unfold turI tuLi
  by_cases h : turnQ ts l i = true
  · rw [if_pos h]
    refine ⟨rfl, ?_⟩
    unfold turnQ at h
    simp only [Bool.and_eq_true, Bool.not_eq_true'] at h
    unfold Li.sz
    simp only [h.2, h.1.2, Bool.false_eq_true, if_false]
    omega
  · rw [if_neg h]; exact ⟨rfl, rfl⟩
theorem mv_sizes {m : Int} (hm : 0 ≤ m ∧ m ≤ 1000) {l : List Li} (h : LowC l) {i : Nat} (hi : i < l.length) : (movI m l i).l.size = (lget l i).l.size ∧ (movI m l i).r.size = (lget l i).r.size := by
  rw [movI_ren hm h hi]; exact ⟨ren_size _ _, ren_size _ _⟩
theorem SelIs.below {w w' : World} {k : Int} {v : Value} (h : SelIs w k v) (hb : Below w.heap.size w w') : SelIs w' k v := by
  rcases h with ⟨h1, h2⟩ | ⟨h1, g, h2, h3⟩
  · exact .inl ⟨h1, h2⟩
  · exact .inr ⟨h1, g, h2, h3.below hb⟩
end Go.Proofs.Ytnokgjajcnhkkaa

/- Sizes, depths, variables: the document's program. -/
namespace Go.Proofs.Ytnokgjajcnhkkaa
open Go.RowKit Go
set_option linter.unusedVariables false
set_option linter.unusedSimpArgs false
set_option maxRecDepth 100000 in
theorem rsize_any : ∀ (t : T) (w : World) (v : Value), t.size ≤ 4294967296 → IsT w t v → Calls Try.prog 35 #[v] w (Ret fun v' w' => v' = .int .i64 (t.size : Nat) ∧ Below w.heap.size w w') := by
  refine T.ind (fun f l ih => ?_)
  intro w v hz hv
  have hv0 := hv
  have hlen := len_le_sizeL l
  have hz' := hz
  simp only [T.size] at hz'
  obtain ⟨hf, a, c, rfl, hc, hm, hl⟩ := hv
  have hf' := hf
  unfold I64 at hf'
  refine Calls.walk (l := [.agg #[.int .i64 f, .slice a l.length c]]) Try.func35 rfl (by kernel_rfl) ?_
  refine WC.sub (K' := [(0, .agg #[.int .i64 f, .slice a l.length c])]) ⟨rfl, trivial⟩ ?_
  refine WC.seq ?_
  refine WC.region ?_
  refine WL.step (post := NewBlk w 34 #[.int .i64 f, .slice a l.length c]) rfl rfl rfl (fun za zC zh zk => box_34 rfl (zh.ev rfl) (zk _ _ (newBlk _ _ _))) ?_
  rintro _ w1 ⟨g2, rfl, hg3, hB4, hb5, hz6⟩
  have hl7 : w.heap.size ≤ g2 := by omega
  refine WL.asg rfl rfl rfl rfl rfl ?_
  refine WL.nil ?_
  refine WE.next ?_
  refine WC.seq ?_
  refine WC.region ?_
  refine WL.asg rfl rfl rfl rfl rfl ?_
  refine WL.nil ?_
  refine WE.next ?_
  refine WC.seq ?_
  refine WC.seq ?_
  refine WC.region ?_
  refine WL.asg rfl rfl rfl rfl rfl ?_
  refine WL.nil ?_
  refine WE.next ?_
  refine WC.block ?_
  refine WC.loop (X := Nat) (fun k => l.length - k) (fun k => [(0, .agg #[.int .i64 f, .slice a l.length c]), (1, .pointer (some ⟨g2, 0, none⟩)), (2, .int .i64 0), (3, .int .i64 ((((1 + T.sizeL (l.take k)) : Nat) : Int))), (4, .int .i64 (((k : Nat) : Int)))]) (fun k w8 => k ≤ l.length ∧ Below w.heap.size w w8 ∧ Blk w8 g2 34 #[.int .i64 f, .slice a l.length c]) 0 ⟨rfl, rfl, rfl, rfl, rfl, trivial⟩ ?_ ?_
  · exact ⟨Nat.zero_le _, hb5, hB4⟩
  · rintro k w8 ⟨hk, hb9, hB10⟩
    refine WC.seq ?_
    refine WC.seq ?_
    refine WC.region ?_
    refine WL.mv rfl rfl rfl rfl rfl ?_
    refine WL.val _ rfl rfl rfl (fun za zC zh zk => fld_34_1 rfl (zh.ev rfl) zk) ?_
    refine WL.val _ rfl rfl rfl (fun za zC zh zk => ld_32 rfl (zh.ev rfl) ((hB10.cell 1).trans rfl) zk) ?_
    refine WL.val (.int .i64 (((l.length : Nat) : Int))) rfl rfl rfl (fun za zC zh zk => len_32 rfl (zh.ev rfl) zk) ?_
    refine WL.val (.bool ((decide ((((k : Nat) : Int) : Int) < (((l.length : Nat) : Int) : Int))))) rfl rfl rfl (fun za zC zh zk => lss_3 rfl (zh.ev rfl) (zh.ev rfl) zk) ?_
    refine WL.nil ?_
    refine WE.next ?_
    refine WC.cond rfl (fun h11 => ?_) (fun h11 => ?_)
    · have h11 : (((k : Nat) : Int) : Int) < (((l.length : Nat) : Int) : Int) := by simpa using h11
      refine WC.skip ?_
      refine WE.next ?_
      refine WC.seq ?_
      refine WC.block ?_
      refine WC.region ?_
      refine WL.mv rfl rfl rfl rfl rfl ?_
      refine WL.val _ rfl rfl rfl (fun za zC zh zk => fld_34_1 rfl (zh.ev rfl) zk) ?_
      refine WL.val _ rfl rfl rfl (fun za zC zh zk => ld_32 rfl (zh.ev rfl) ((hB10.cell 1).trans rfl) zk) ?_
      refine WL.mv rfl rfl rfl rfl rfl ?_
      obtain ⟨b12, o13, A14, C15, ha16, hc17⟩ := IsTs.open hl
      refine WL.val _ rfl rfl rfl (fun za zC zh zk => ix_32 (k := k) rfl (zh.ev rfl) (ha16 k (by first | omega | (simp; omega))) (zh.ev rfl) (by first | omega | (simp; omega)) zk) ?_
      refine WL.val _ rfl rfl rfl (fun za zC zh zk => ld_34 rfl (zh.ev rfl) (bkeeps hb9 _ _ (hc17 k (by first | omega | (simp; omega))).1) (bkeeps hb9 _ _ (hc17 k (by first | omega | (simp; omega))).2.1) zk) ?_
      refine WL.call rfl rfl rfl (fun za zh zC => wp_call (by kernel_rfl) rfl (hv1 (zh.ev rfl))) (ih _ (tget_mem (by omega)) _ _ (size_at (by omega) hz) (IsT.below hb9 (hc17 k (by first | omega | (simp; omega))).2.2)) ?_
      rintro _ w19 ⟨rfl, hq18⟩
      refine WL.val (.int .i64 ((((1 + T.sizeL (l.take (k + 1))) : Nat) : Int))) rfl rfl rfl (fun za zC zh zk => addb_3 rfl (zh.ev rfl) (zh.ev rfl) (wrap_eq (by rw [sizeL_take1 (by omega)]; omega) (by omega) (by have z := sizeL_take1 (l := l) (k := k) (by omega); have z2 := T.sizeL_take_le l (k + 1); omega)) zk) ?_
      refine WL.asg rfl rfl rfl rfl rfl ?_
      refine WL.nil ?_
      refine WE.blockNormal ?_
      refine WE.next ?_
      refine WC.region ?_
      refine WL.mv rfl rfl rfl rfl rfl ?_
      refine WL.val (.int .i64 ((((k + 1) : Nat) : Int))) rfl rfl rfl (fun za zC zh zk => addb_3 rfl (zh.ev rfl) (zh.ev rfl) (wrap_eq (by omega) (by omega) (by omega)) zk) ?_
      refine WL.asg rfl rfl rfl rfl rfl ?_
      refine WL.nil ?_
      refine WE.round (k + 1) ⟨rfl, rfl, rfl, rfl, rfl, trivial⟩ ?_ ?_
      · have hb20 : Below w.heap.size w w19 := (bstep hb9 hq18)
        have hB21 := hB10.below hq18
        exact ⟨by omega, hb20, hB21⟩
      · omega
    · have h11 : ¬ ((((k : Nat) : Int) : Int) < (((l.length : Nat) : Int) : Int)) := by simpa using h11
      refine WC.exit ?_
      refine WE.thenExit ?_
      refine WE.thenExit ?_
      refine WE.blockIs rfl ?_
      refine WE.next ?_
      refine WC.seq ?_
      refine WC.region ?_
      refine WL.mv rfl rfl rfl rfl rfl ?_
      refine WL.asg rfl rfl rfl rfl rfl ?_
      refine WL.nil ?_
      refine WE.next ?_
      refine WC.ret ?_
      refine WE.ret1 rfl rfl ?_
      refine ⟨_, rfl, ?_, hb9⟩
      rw [List.take_of_length_le (show l.length ≤ k by omega), T.size]
theorem wp_max2 {P : Program} {w : World} {a : Act} {K : Act → World → Prop} {Q : Exit → Act → World → Prop} {o : Oper} {x y : Operand} {m n r : Int} (ho : o.op = .call { callee := .builtin .max, args := #[x, y], argTypes := #[3, 3] }) (hx : a.eval x = .int .i64 m) (hy : a.eval y = .int .i64 n) (hr : r = max m n) (hK : K (a.put o.dst (.int .i64 r)) w) : o.wp P a w K Q := by
  subst hr
  unfold Oper.wp execOp
  simp only [ho, resolve, invoke, builtin, Sem.run_bind, Sem.run_pure, Result.andThen_ok, List.map_toArray, List.map_cons, List.map_nil, hx, hy]
  go_simp
  first
  | exact hK
  | (have e : max m n = (if m < n then n else m) := by omega
     rw [e] at hK; exact hK)
set_option maxRecDepth 100000 in
theorem rdepth_any : ∀ (t : T) (w : World) (v : Value), t.size ≤ 4294967296 → IsT w t v → Calls Try.prog 36 #[v] w (Ret fun v' w' => v' = .int .i64 (t.dep : Nat) ∧ Below w.heap.size w w') := by
  refine T.ind (fun f l ih => ?_)
  intro w v hz hv
  have hv0 := hv
  have hlen := len_le_sizeL l
  have hz' := hz
  simp only [T.size] at hz'
  obtain ⟨hf, a, c, rfl, hc, hm, hl⟩ := hv
  have hf' := hf
  unfold I64 at hf'
  refine Calls.walk (l := [.agg #[.int .i64 f, .slice a l.length c]]) Try.func36 rfl (by kernel_rfl) ?_
  refine WC.sub (K' := [(0, .agg #[.int .i64 f, .slice a l.length c])]) ⟨rfl, trivial⟩ ?_
  refine WC.seq ?_
  refine WC.region ?_
  refine WL.step (post := NewBlk w 34 #[.int .i64 f, .slice a l.length c]) rfl rfl rfl (fun za zC zh zk => box_34 rfl (zh.ev rfl) (zk _ _ (newBlk _ _ _))) ?_
  rintro _ w1 ⟨g2, rfl, hg3, hB4, hb5, hz6⟩
  have hl7 : w.heap.size ≤ g2 := by omega
  refine WL.asg rfl rfl rfl rfl rfl ?_
  refine WL.nil ?_
  refine WE.next ?_
  refine WC.seq ?_
  refine WC.region ?_
  refine WL.asg rfl rfl rfl rfl rfl ?_
  refine WL.nil ?_
  refine WE.next ?_
  refine WC.seq ?_
  refine WC.seq ?_
  refine WC.region ?_
  refine WL.asg rfl rfl rfl rfl rfl ?_
  refine WL.nil ?_
  refine WE.next ?_
  refine WC.block ?_
  refine WC.loop (X := Nat) (fun k => l.length - k) (fun k => [(0, .agg #[.int .i64 f, .slice a l.length c]), (1, .pointer (some ⟨g2, 0, none⟩)), (2, .int .i64 0), (3, .int .i64 ((((T.depL (l.take k)) : Nat) : Int))), (4, .int .i64 (((k : Nat) : Int)))]) (fun k w8 => k ≤ l.length ∧ Below w.heap.size w w8 ∧ Blk w8 g2 34 #[.int .i64 f, .slice a l.length c]) 0 ⟨rfl, rfl, rfl, rfl, rfl, trivial⟩ ?_ ?_
  · exact ⟨Nat.zero_le _, hb5, hB4⟩
  · rintro k w8 ⟨hk, hb9, hB10⟩
    refine WC.seq ?_
    refine WC.seq ?_
    refine WC.region ?_
    refine WL.mv rfl rfl rfl rfl rfl ?_
    refine WL.val _ rfl rfl rfl (fun za zC zh zk => fld_34_1 rfl (zh.ev rfl) zk) ?_
    refine WL.val _ rfl rfl rfl (fun za zC zh zk => ld_32 rfl (zh.ev rfl) ((hB10.cell 1).trans rfl) zk) ?_
    refine WL.val (.int .i64 (((l.length : Nat) : Int))) rfl rfl rfl (fun za zC zh zk => len_32 rfl (zh.ev rfl) zk) ?_
    refine WL.val (.bool ((decide ((((k : Nat) : Int) : Int) < (((l.length : Nat) : Int) : Int))))) rfl rfl rfl (fun za zC zh zk => lss_3 rfl (zh.ev rfl) (zh.ev rfl) zk) ?_
    refine WL.nil ?_
    refine WE.next ?_
    refine WC.cond rfl (fun h11 => ?_) (fun h11 => ?_)
    · have h11 : (((k : Nat) : Int) : Int) < (((l.length : Nat) : Int) : Int) := by simpa using h11
      refine WC.skip ?_
      refine WE.next ?_
      refine WC.seq ?_
      refine WC.block ?_
      refine WC.region ?_
      refine WL.mv rfl rfl rfl rfl rfl ?_
      refine WL.val _ rfl rfl rfl (fun za zC zh zk => fld_34_1 rfl (zh.ev rfl) zk) ?_
      refine WL.val _ rfl rfl rfl (fun za zC zh zk => ld_32 rfl (zh.ev rfl) ((hB10.cell 1).trans rfl) zk) ?_
      refine WL.mv rfl rfl rfl rfl rfl ?_
      obtain ⟨b12, o13, A14, C15, ha16, hc17⟩ := IsTs.open hl
      refine WL.val _ rfl rfl rfl (fun za zC zh zk => ix_32 (k := k) rfl (zh.ev rfl) (ha16 k (by first | omega | (simp; omega))) (zh.ev rfl) (by first | omega | (simp; omega)) zk) ?_
      refine WL.val _ rfl rfl rfl (fun za zC zh zk => ld_34 rfl (zh.ev rfl) (bkeeps hb9 _ _ (hc17 k (by first | omega | (simp; omega))).1) (bkeeps hb9 _ _ (hc17 k (by first | omega | (simp; omega))).2.1) zk) ?_
      refine WL.call rfl rfl rfl (fun za zh zC => wp_call (by kernel_rfl) rfl (hv1 (zh.ev rfl))) (ih _ (tget_mem (by omega)) _ _ (size_at (by omega) hz) (IsT.below hb9 (hc17 k (by first | omega | (simp; omega))).2.2)) ?_
      rintro _ w19 ⟨rfl, hq18⟩
      refine WL.val (.int .i64 ((T.depL (l.take (k + 1)) : Nat) : Int)) rfl rfl rfl (fun za zC zh zk => wp_max2 rfl (zh.ev rfl) (zh.ev rfl) (by rw [depL_take (by omega)]; (try omega)) zk) ?_
      refine WL.asg rfl rfl rfl rfl rfl ?_
      refine WL.nil ?_
      refine WE.blockNormal ?_
      refine WE.next ?_
      refine WC.region ?_
      refine WL.mv rfl rfl rfl rfl rfl ?_
      refine WL.val (.int .i64 ((((k + 1) : Nat) : Int))) rfl rfl rfl (fun za zC zh zk => addb_3 rfl (zh.ev rfl) (zh.ev rfl) (wrap_eq (by omega) (by omega) (by omega)) zk) ?_
      refine WL.asg rfl rfl rfl rfl rfl ?_
      refine WL.nil ?_
      refine WE.round (k + 1) ⟨rfl, rfl, rfl, rfl, rfl, trivial⟩ ?_ ?_
      · have hb20 : Below w.heap.size w w19 := (bstep hb9 hq18)
        have hB21 := hB10.below hq18
        exact ⟨by omega, hb20, hB21⟩
      · omega
    · have h11 : ¬ ((((k : Nat) : Int) : Int) < (((l.length : Nat) : Int) : Int)) := by simpa using h11
      refine WC.exit ?_
      refine WE.thenExit ?_
      refine WE.thenExit ?_
      refine WE.blockIs rfl ?_
      refine WE.next ?_
      refine WC.seq ?_
      refine WC.region ?_
      refine WL.mv rfl rfl rfl rfl rfl ?_
      refine WL.val (.int .i64 ((((T.depL (l.take k) + 1) : Nat) : Int))) rfl rfl rfl (fun za zC zh zk => addb_3 rfl (zh.ev rfl) (zh.ev rfl) (wrap_eq (by omega) (by omega) (by have z2 := depL_take_le (l := l) (k := k); omega)) zk) ?_
      refine WL.asg rfl rfl rfl rfl rfl ?_
      refine WL.nil ?_
      refine WE.next ?_
      refine WC.ret ?_
      refine WE.ret1 rfl rfl ?_
      refine ⟨_, rfl, ?_, hb9⟩
      rw [List.take_of_length_le (show l.length ≤ k by omega), T.dep]
theorem neg_int {P : Program} {w : World} {a : Act} {K : Act → World → Prop} {Q : Exit → Act → World → Prop} {o : Oper} {x : Operand} {m r : Int} (ho : o.op = .unOp .neg 3 x) (hx : a.eval x = .int .i64 m) (hr : IntKind.i64.wrap (-m) = r) (hK : K (a.put o.dst (.int .i64 r)) w) : o.wp P a w K Q := by
  subst hr
  unfold Oper.wp execOp
  simp only [ho, hx]
  go_simp
  exact hK
set_option maxRecDepth 100000 in
theorem rlow_any (m : Int) (hm0 : 0 ≤ m ∧ m ≤ 1000000) : ∀ (t : T) (w : World) (v : Value), t.size ≤ 4294967296 → IsT w t v → Calls Try.prog 37 #[v, .int .i64 m] w (Ret fun v' w' => v' = .bool (t.low m) ∧ Below w.heap.size w w') := by
  refine T.ind (fun f l ih => ?_)
  intro w v hz hv
  have hv0 := hv
  have hlen := len_le_sizeL l
  have hz' := hz
  simp only [T.size] at hz'
  obtain ⟨hf, a, c, rfl, hc, hm, hl⟩ := hv
  have hf' := hf
  unfold I64 at hf'
  refine Calls.walk (l := [.agg #[.int .i64 f, .slice a l.length c], .int .i64 m]) Try.func37 rfl (by kernel_rfl) ?_
  refine WC.sub (K' := [(0, .agg #[.int .i64 f, .slice a l.length c]), (1, .int .i64 m)]) ⟨rfl, rfl, trivial⟩ ?_
  refine WC.seq ?_
  refine WC.region ?_
  refine WL.step (post := NewBlk w 34 #[.int .i64 f, .slice a l.length c]) rfl rfl rfl (fun za zC zh zk => box_34 rfl (zh.ev rfl) (zk _ _ (newBlk _ _ _))) ?_
  rintro _ w1 ⟨g2, rfl, hg3, hB4, hb5, hz6⟩
  have hl7 : w.heap.size ≤ g2 := by omega
  refine WL.asg rfl rfl rfl rfl rfl ?_
  refine WL.nil ?_
  refine WE.next ?_
  refine WC.seq ?_
  refine WC.seq ?_
  refine WC.region ?_
  refine WL.val _ rfl rfl rfl (fun za zC zh zk => fld_34_0 rfl (zh.ev rfl) zk) ?_
  refine WL.val _ rfl rfl rfl (fun za zC zh zk => ld_3 rfl (zh.ev rfl) ((hB4.cell 0).trans rfl) zk) ?_
  refine WL.val (.bool ((decide ((f : Int) < (0 : Int))))) rfl rfl rfl (fun za zC zh zk => lss_3 rfl (zh.ev rfl) (zh.ev rfl) zk) ?_
  refine WL.nil ?_
  refine WE.next ?_
  refine WC.cond rfl (fun h8 => ?_) (fun h8 => ?_)
  · have h8 : (f : Int) < (0 : Int) := by simpa using h8
    refine WC.seq ?_
    refine WC.opt [(true, .val (.pointer (some ⟨g2, 0, none⟩))), (true, .val (.int .i64 f)), (true, .val (.int .i64 m)), (true, .val (.int .i64 ((-m)))), (true, .val (.bool ((decide (((-m) : Int) ≤ (f : Int)))))), (true, .val (.bool ((decide (((-m) : Int) ≤ (f : Int)))))), ((true && (decide (((-m) : Int) ≤ (f : Int)))), .val (.pointer (some ⟨g2, 1, none⟩))), ((true && (decide (((-m) : Int) ≤ (f : Int)))), .val (.slice a l.length c)), ((true && (decide (((-m) : Int) ≤ (f : Int)))), .val (.int .i64 (((l.length : Nat) : Int)))), ((true && (decide (((-m) : Int) ≤ (f : Int)))), .val (.bool (((((l.length : Nat) : Int) : Int) == (0 : Int))))), (true, .val (.bool (((decide (((-m) : Int) ≤ (f : Int))) && ((((l.length : Nat) : Int) : Int) == (0 : Int)))))), (true, .val (.bool (((decide (((-m) : Int) ≤ (f : Int))) && ((((l.length : Nat) : Int) : Int) == (0 : Int))))))] [(0, .agg #[.int .i64 f, .slice a l.length c]), (1, .int .i64 m), (2, .pointer (some ⟨g2, 0, none⟩)), (8, .bool ((decide ((f : Int) < (0 : Int)))))] ⟨rfl, rfl, rfl, rfl, trivial⟩ (by kernel_rfl) (by kernel_rfl) (by kernel_rfl) ?_ ?_
    · refine ⟨⟨true, .none rfl, fun h w => optUndef h, fun zβ za zw zc => ?_⟩, ?_⟩
      · exact fld_34_0 rfl (zc.kn.ev rfl) ⟨_, rfl, Below.refl _ _, optDef zβ rfl⟩
      refine ⟨⟨true, .none rfl, fun h w => optUndef h, fun zβ za zw zc => ?_⟩, ?_⟩
      · exact ld_3 rfl ((evt za 9).trans (optVal (zc.dep 0 9 (by kernel_rfl)) rfl rfl)) (bkeeps zc.below _ _ ((hB4.cell 0).trans rfl)) ⟨_, rfl, Below.refl _ _, optDef zβ rfl⟩
      refine ⟨⟨true, .none rfl, fun h w => optUndef h, fun zβ za zw zc => ?_⟩, ?_⟩
      · exact wp_move rfl (zc.kn.ev rfl) ⟨_, rfl, Below.refl _ _, optDef zβ rfl⟩
      refine ⟨⟨true, .none rfl, fun h w => optUndef h, fun zβ za zw zc => ?_⟩, ?_⟩
      · exact neg_int rfl ((evt za 11).trans (optVal (zc.dep 2 11 (by kernel_rfl)) rfl rfl)) (wrap_eq rfl (by omega) (by omega)) ⟨_, rfl, Below.refl _ _, optDef zβ rfl⟩
      refine ⟨⟨true, .none rfl, fun h w => optUndef h, fun zβ za zw zc => ?_⟩, ?_⟩
      · exact geq_3 rfl ((evt za 10).trans (optVal (zc.dep 1 10 (by kernel_rfl)) rfl rfl)) ((evt za 12).trans (optVal (zc.dep 3 12 (by kernel_rfl)) rfl rfl)) ⟨_, rfl, Below.refl _ _, optDef zβ rfl⟩
      refine ⟨⟨true, .none rfl, fun h w => optUndef h, fun zβ za zw zc => ?_⟩, ?_⟩
      · exact wp_move rfl ((evt za 13).trans (optVal (zc.dep 4 13 (by kernel_rfl)) rfl rfl)) ⟨_, rfl, Below.refl _ _, optDef zβ rfl⟩
      refine ⟨⟨_, .yes (c := (decide (((-m) : Int) ≤ (f : Int)))) (d := true) rfl (fun v w h => h), fun h w => optUndef h, fun zβ za zw zc => ?_⟩, ?_⟩
      · exact fld_34_1 rfl (zc.kn.ev rfl) ⟨_, rfl, Below.refl _ _, optDef zβ rfl⟩
      refine ⟨⟨_, .yes (c := (decide (((-m) : Int) ≤ (f : Int)))) (d := true) rfl (fun v w h => h), fun h w => optUndef h, fun zβ za zw zc => ?_⟩, ?_⟩
      · exact ld_32 rfl ((evt za 15).trans (optVal (zc.dep 6 15 (by kernel_rfl)) rfl zβ)) (bkeeps zc.below _ _ ((hB4.cell 1).trans rfl)) ⟨_, rfl, Below.refl _ _, optDef zβ rfl⟩
      refine ⟨⟨_, .yes (c := (decide (((-m) : Int) ≤ (f : Int)))) (d := true) rfl (fun v w h => h), fun h w => optUndef h, fun zβ za zw zc => ?_⟩, ?_⟩
      · exact len_32 rfl ((evt za 16).trans (optVal (zc.dep 7 16 (by kernel_rfl)) rfl zβ)) ⟨_, rfl, Below.refl _ _, optDef zβ rfl⟩
      refine ⟨⟨_, .yes (c := (decide (((-m) : Int) ≤ (f : Int)))) (d := true) rfl (fun v w h => h), fun h w => optUndef h, fun zβ za zw zc => ?_⟩, ?_⟩
      · exact eql_3 rfl ((evt za 17).trans (optVal (zc.dep 8 17 (by kernel_rfl)) rfl zβ)) (zc.kn.ev rfl) ⟨_, rfl, Below.refl _ _, optDef zβ rfl⟩
      refine ⟨⟨true, .none rfl, fun h w => optUndef h, fun zβ za zw zc => ?_⟩, ?_⟩
      · exact wp_and rfl ((evt za 14).trans (optVal (zc.dep 5 14 (by kernel_rfl)) rfl rfl)) (fun hp => ((evt za 18).trans (optVal (zc.dep 9 18 (by kernel_rfl)) rfl (bMk zβ hp)))) ⟨_, rfl, Below.refl _ _, optDef zβ rfl⟩
      refine ⟨⟨true, .none rfl, fun h w => optUndef h, fun zβ za zw zc => ?_⟩, ?_⟩
      · exact wp_assign rfl ((evt za 19).trans (optVal (zc.dep 10 19 (by kernel_rfl)) rfl rfl)) ⟨_, rfl, Below.refl _ _, optDef zβ rfl⟩
      exact trivial
    · intro za w9 zh hb10 zu
      have zh := zh.cons (d := 4) (v := .bool (((decide (((-m) : Int) ≤ (f : Int))) && ((((l.length : Nat) : Int) : Int) == (0 : Int))))) (optVal (zu 11 4 (by kernel_rfl)) rfl rfl)
      clear zu
      refine WE.go zh ?_
      refine WE.next ?_
      refine WC.ret ?_
      refine WE.thenRet ?_
      refine WE.ret1 rfl rfl ?_
      have hb11 : Below w.heap.size w w9 := (bstep hb5 hb10)
      refine ⟨_, rfl, congrArg Value.bool ?_, hb11⟩
      rw [T.low, if_pos (by simpa using h8)]
      rw [Bool.eq_iff_iff]; (try simp); (try omega)
  · have h8 : ¬ ((f : Int) < (0 : Int)) := by simpa using h8
    refine WC.skip ?_
    refine WE.next ?_
    refine WC.seq ?_
    refine WC.seq ?_
    refine WC.region ?_
    refine WL.asg rfl rfl rfl rfl rfl ?_
    refine WL.nil ?_
    refine WE.next ?_
    refine WC.block ?_
    refine WC.loop (X := Nat) (fun k => l.length - k) (fun k => [(0, .agg #[.int .i64 f, .slice a l.length c]), (1, .int .i64 m), (2, .pointer (some ⟨g2, 0, none⟩)), (5, .int .i64 (((k : Nat) : Int))), (8, .bool ((decide ((f : Int) < (0 : Int)))))]) (fun k w12 => k ≤ l.length ∧ (∀ i, i < k → (tget l i).low m = true) ∧ Below w.heap.size w w12 ∧ Blk w12 g2 34 #[.int .i64 f, .slice a l.length c]) 0 ⟨rfl, rfl, rfl, rfl, rfl, trivial⟩ ?_ ?_
    · exact ⟨Nat.zero_le _, fun i h => absurd h (Nat.not_lt_zero i), hb5, hB4⟩
    · rintro k w12 ⟨hk, hE, hb13, hB14⟩
      refine WC.seq ?_
      refine WC.seq ?_
      refine WC.region ?_
      refine WL.mv rfl rfl rfl rfl rfl ?_
      refine WL.val _ rfl rfl rfl (fun za zC zh zk => fld_34_1 rfl (zh.ev rfl) zk) ?_
      refine WL.val _ rfl rfl rfl (fun za zC zh zk => ld_32 rfl (zh.ev rfl) ((hB14.cell 1).trans rfl) zk) ?_
      refine WL.val (.int .i64 (((l.length : Nat) : Int))) rfl rfl rfl (fun za zC zh zk => len_32 rfl (zh.ev rfl) zk) ?_
      refine WL.val (.bool ((decide ((((k : Nat) : Int) : Int) < (((l.length : Nat) : Int) : Int))))) rfl rfl rfl (fun za zC zh zk => lss_3 rfl (zh.ev rfl) (zh.ev rfl) zk) ?_
      refine WL.nil ?_
      refine WE.next ?_
      refine WC.cond rfl (fun h15 => ?_) (fun h15 => ?_)
      · have h15 : (((k : Nat) : Int) : Int) < (((l.length : Nat) : Int) : Int) := by simpa using h15
        refine WC.skip ?_
        refine WE.next ?_
        refine WC.seq ?_
        refine WC.block ?_
        refine WC.seq ?_
        refine WC.region ?_
        refine WL.val _ rfl rfl rfl (fun za zC zh zk => fld_34_1 rfl (zh.ev rfl) zk) ?_
        refine WL.val _ rfl rfl rfl (fun za zC zh zk => ld_32 rfl (zh.ev rfl) ((hB14.cell 1).trans rfl) zk) ?_
        refine WL.mv rfl rfl rfl rfl rfl ?_
        obtain ⟨b16, o17, A18, C19, ha20, hc21⟩ := IsTs.open hl
        refine WL.val _ rfl rfl rfl (fun za zC zh zk => ix_32 (k := k) rfl (zh.ev rfl) (ha20 k (by first | omega | (simp; omega))) (zh.ev rfl) (by first | omega | (simp; omega)) zk) ?_
        refine WL.val _ rfl rfl rfl (fun za zC zh zk => ld_34 rfl (zh.ev rfl) (bkeeps hb13 _ _ (hc21 k (by first | omega | (simp; omega))).1) (bkeeps hb13 _ _ (hc21 k (by first | omega | (simp; omega))).2.1) zk) ?_
        refine WL.mv rfl rfl rfl rfl rfl ?_
        refine WL.call rfl rfl rfl (fun za zh zC => wp_call (by kernel_rfl) rfl (hv2 (zh.ev rfl) (zh.ev rfl))) (ih _ (tget_mem (by omega)) _ _ (size_at (by omega) hz) (IsT.below hb13 (hc21 k (by first | omega | (simp; omega))).2.2)) ?_
        rintro _ w23 ⟨rfl, hq22⟩
        refine WL.val (.bool ((!((tget l k).low m)))) rfl rfl rfl (fun za zC zh zk => wp_not rfl (zh.ev rfl) zk) ?_
        refine WL.nil ?_
        refine WE.next ?_
        refine WC.cond rfl (fun h24 => ?_) (fun h24 => ?_)
        · have h24 : ¬ (((tget l k).low m) = true) := by simpa using h24
          refine WC.seq ?_
          refine WC.region ?_
          refine WL.asg rfl rfl rfl rfl rfl ?_
          refine WL.nil ?_
          refine WE.next ?_
          refine WC.ret ?_
          refine WE.blockRet ?_
          refine WE.thenRet ?_
          refine WE.thenRet ?_
          refine WE.blockRet ?_
          refine WE.thenRet ?_
          refine WE.ret1 rfl rfl ?_
          have hb25 : Below w.heap.size w w23 := (bstep hb13 hq22)
          exact ⟨_, rfl, congrArg Value.bool (low_no (k := k) (by simpa using h8) (by omega) (by simpa using h24)).symm, hb25⟩
        · have h24 : ¬ (¬ (((tget l k).low m) = true)) := by simpa using h24
          refine WC.skip ?_
          refine WE.blockNormal ?_
          refine WE.next ?_
          refine WC.region ?_
          refine WL.mv rfl rfl rfl rfl rfl ?_
          refine WL.val (.int .i64 ((((k + 1) : Nat) : Int))) rfl rfl rfl (fun za zC zh zk => addb_3 rfl (zh.ev rfl) (zh.ev rfl) (wrap_eq (by omega) (by omega) (by omega)) zk) ?_
          refine WL.asg rfl rfl rfl rfl rfl ?_
          refine WL.nil ?_
          refine WE.round (k + 1) ⟨rfl, rfl, rfl, rfl, rfl, trivial⟩ ?_ ?_
          · have hb26 : Below w.heap.size w w23 := (bstep hb13 hq22)
            have hB27 := hB14.below hq22
            exact ⟨by omega, fun i hi => by rcases Nat.lt_or_ge i k with q | q; exact hE i q; (obtain rfl : i = k := by omega); simpa using h24, hb26, hB27⟩
          · omega
      · have h15 : ¬ ((((k : Nat) : Int) : Int) < (((l.length : Nat) : Int) : Int)) := by simpa using h15
        refine WC.exit ?_
        refine WE.thenExit ?_
        refine WE.thenExit ?_
        refine WE.blockIs rfl ?_
        refine WE.next ?_
        refine WC.seq ?_
        refine WC.region ?_
        refine WL.asg rfl rfl rfl rfl rfl ?_
        refine WL.nil ?_
        refine WE.next ?_
        refine WC.ret ?_
        refine WE.ret1 rfl rfl ?_
        exact ⟨_, rfl, congrArg Value.bool (low_yes (by simpa using h8) (fun i hi => hE i (by omega))).symm, hb13⟩
set_option maxRecDepth 100000 in
theorem rsmall_any (t : T) (m : Int) (w : World) (v : Value) (hm0 : 0 ≤ m ∧ m ≤ 1000000) (hz : t.size ≤ 4294967296) (hv : IsT w t v) : Calls Try.prog 28 #[v, .int .i64 m] w (Ret fun v' w' => v' = .bool (t.small m) ∧ Below w.heap.size w w') := by
  have hv0 := hv
  obtain ⟨hf, a, c, rfl, _, _, _⟩ := hv.form
  refine Calls.walk (l := [.agg #[.int .i64 t.f, .slice a t.args.length c], .int .i64 m]) Try.func28 rfl (by kernel_rfl) ?_
  refine WC.sub (K' := [(0, .agg #[.int .i64 t.f, .slice a t.args.length c]), (1, .int .i64 m)]) ⟨rfl, rfl, trivial⟩ ?_
  refine WC.seq ?_
  refine WC.region ?_
  refine WL.step (post := NewBlk w 34 #[.int .i64 t.f, .slice a t.args.length c]) rfl rfl rfl (fun za zC zh zk => box_34 rfl (zh.ev rfl) (zk _ _ (newBlk _ _ _))) ?_
  rintro _ w1 ⟨g2, rfl, hg3, hB4, hb5, hz6⟩
  have hl7 : w.heap.size ≤ g2 := by omega
  refine WL.asg rfl rfl rfl rfl rfl ?_
  refine WL.nil ?_
  refine WE.next ?_
  refine WC.seq ?_
  refine WC.opt [(true, .val (.agg #[.int .i64 t.f, .slice a t.args.length c])), (true, .val (.int .i64 (((t.size : Nat) : Int)))), (true, .val (.bool ((decide ((((t.size : Nat) : Int) : Int) ≤ (300 : Int)))))), (true, .val (.bool ((decide ((((t.size : Nat) : Int) : Int) ≤ (300 : Int)))))), ((true && (decide ((((t.size : Nat) : Int) : Int) ≤ (300 : Int)))), .val (.agg #[.int .i64 t.f, .slice a t.args.length c])), ((true && (decide ((((t.size : Nat) : Int) : Int) ≤ (300 : Int)))), .val (.int .i64 (((t.dep : Nat) : Int)))), ((true && (decide ((((t.size : Nat) : Int) : Int) ≤ (300 : Int)))), .val (.bool ((decide ((((t.dep : Nat) : Int) : Int) ≤ (30 : Int)))))), (true, .val (.bool (((decide ((((t.size : Nat) : Int) : Int) ≤ (300 : Int))) && (decide ((((t.dep : Nat) : Int) : Int) ≤ (30 : Int))))))), (true, .val (.bool (((decide ((((t.size : Nat) : Int) : Int) ≤ (300 : Int))) && (decide ((((t.dep : Nat) : Int) : Int) ≤ (30 : Int))))))), ((true && ((decide ((((t.size : Nat) : Int) : Int) ≤ (300 : Int))) && (decide ((((t.dep : Nat) : Int) : Int) ≤ (30 : Int))))), .val (.agg #[.int .i64 t.f, .slice a t.args.length c])), ((true && ((decide ((((t.size : Nat) : Int) : Int) ≤ (300 : Int))) && (decide ((((t.dep : Nat) : Int) : Int) ≤ (30 : Int))))), .val (.int .i64 m)), ((true && ((decide ((((t.size : Nat) : Int) : Int) ≤ (300 : Int))) && (decide ((((t.dep : Nat) : Int) : Int) ≤ (30 : Int))))), .val (.bool ((t.low m)))), (true, .val (.bool ((((decide ((((t.size : Nat) : Int) : Int) ≤ (300 : Int))) && (decide ((((t.dep : Nat) : Int) : Int) ≤ (30 : Int)))) && (t.low m))))), (true, .val (.bool ((((decide ((((t.size : Nat) : Int) : Int) ≤ (300 : Int))) && (decide ((((t.dep : Nat) : Int) : Int) ≤ (30 : Int)))) && (t.low m)))))] [(0, .agg #[.int .i64 t.f, .slice a t.args.length c]), (1, .int .i64 m), (2, .pointer (some ⟨g2, 0, none⟩))] ⟨rfl, rfl, rfl, trivial⟩ (by kernel_rfl) (by kernel_rfl) (by kernel_rfl) ?_ ?_
  · refine ⟨⟨true, .none rfl, fun h w => optUndef h, fun zβ za zw zc => ?_⟩, ?_⟩
    · exact ld_34 rfl (zc.kn.ev rfl) (bkeeps zc.below _ _ ((hB4.cell 0).trans rfl)) (bkeeps zc.below _ _ ((hB4.cell 1).trans rfl)) ⟨_, rfl, Below.refl _ _, optDef zβ rfl⟩
    refine ⟨⟨true, .none rfl, fun h w => optUndef h, fun zβ za zw zc => ?_⟩, ?_⟩
    · exact wp_call (by kernel_rfl) rfl (hv1 ((evt za 5).trans (optVal (zc.dep 0 5 (by kernel_rfl)) rfl rfl))) (rsize_any t _ _ hz (IsT.below (bstep hb5 zc.below) hv0)) (fun v w' h => ⟨v, rfl, h.2, optDef zβ h.1⟩)
    refine ⟨⟨true, .none rfl, fun h w => optUndef h, fun zβ za zw zc => ?_⟩, ?_⟩
    · exact leq_3 rfl ((evt za 6).trans (optVal (zc.dep 1 6 (by kernel_rfl)) rfl rfl)) (zc.kn.ev rfl) ⟨_, rfl, Below.refl _ _, optDef zβ rfl⟩
    refine ⟨⟨true, .none rfl, fun h w => optUndef h, fun zβ za zw zc => ?_⟩, ?_⟩
    · exact wp_move rfl ((evt za 7).trans (optVal (zc.dep 2 7 (by kernel_rfl)) rfl rfl)) ⟨_, rfl, Below.refl _ _, optDef zβ rfl⟩
    refine ⟨⟨_, .yes (c := (decide ((((t.size : Nat) : Int) : Int) ≤ (300 : Int)))) (d := true) rfl (fun v w h => h), fun h w => optUndef h, fun zβ za zw zc => ?_⟩, ?_⟩
    · exact ld_34 rfl (zc.kn.ev rfl) (bkeeps zc.below _ _ ((hB4.cell 0).trans rfl)) (bkeeps zc.below _ _ ((hB4.cell 1).trans rfl)) ⟨_, rfl, Below.refl _ _, optDef zβ rfl⟩
    refine ⟨⟨_, .yes (c := (decide ((((t.size : Nat) : Int) : Int) ≤ (300 : Int)))) (d := true) rfl (fun v w h => h), fun h w => optUndef h, fun zβ za zw zc => ?_⟩, ?_⟩
    · exact wp_call (by kernel_rfl) rfl (hv1 ((evt za 9).trans (optVal (zc.dep 4 9 (by kernel_rfl)) rfl zβ))) (rdepth_any t _ _ hz (IsT.below (bstep hb5 zc.below) hv0)) (fun v w' h => ⟨v, rfl, h.2, optDef zβ h.1⟩)
    refine ⟨⟨_, .yes (c := (decide ((((t.size : Nat) : Int) : Int) ≤ (300 : Int)))) (d := true) rfl (fun v w h => h), fun h w => optUndef h, fun zβ za zw zc => ?_⟩, ?_⟩
    · exact leq_3 rfl ((evt za 10).trans (optVal (zc.dep 5 10 (by kernel_rfl)) rfl zβ)) (zc.kn.ev rfl) ⟨_, rfl, Below.refl _ _, optDef zβ rfl⟩
    refine ⟨⟨true, .none rfl, fun h w => optUndef h, fun zβ za zw zc => ?_⟩, ?_⟩
    · exact wp_and rfl ((evt za 8).trans (optVal (zc.dep 3 8 (by kernel_rfl)) rfl rfl)) (fun hp => ((evt za 11).trans (optVal (zc.dep 6 11 (by kernel_rfl)) rfl (bMk zβ hp)))) ⟨_, rfl, Below.refl _ _, optDef zβ rfl⟩
    refine ⟨⟨true, .none rfl, fun h w => optUndef h, fun zβ za zw zc => ?_⟩, ?_⟩
    · exact wp_move rfl ((evt za 12).trans (optVal (zc.dep 7 12 (by kernel_rfl)) rfl rfl)) ⟨_, rfl, Below.refl _ _, optDef zβ rfl⟩
    refine ⟨⟨_, .yes (c := ((decide ((((t.size : Nat) : Int) : Int) ≤ (300 : Int))) && (decide ((((t.dep : Nat) : Int) : Int) ≤ (30 : Int))))) (d := true) rfl (fun v w h => h), fun h w => optUndef h, fun zβ za zw zc => ?_⟩, ?_⟩
    · exact ld_34 rfl (zc.kn.ev rfl) (bkeeps zc.below _ _ ((hB4.cell 0).trans rfl)) (bkeeps zc.below _ _ ((hB4.cell 1).trans rfl)) ⟨_, rfl, Below.refl _ _, optDef zβ rfl⟩
    refine ⟨⟨_, .yes (c := ((decide ((((t.size : Nat) : Int) : Int) ≤ (300 : Int))) && (decide ((((t.dep : Nat) : Int) : Int) ≤ (30 : Int))))) (d := true) rfl (fun v w h => h), fun h w => optUndef h, fun zβ za zw zc => ?_⟩, ?_⟩
    · exact wp_move rfl (zc.kn.ev rfl) ⟨_, rfl, Below.refl _ _, optDef zβ rfl⟩
    refine ⟨⟨_, .yes (c := ((decide ((((t.size : Nat) : Int) : Int) ≤ (300 : Int))) && (decide ((((t.dep : Nat) : Int) : Int) ≤ (30 : Int))))) (d := true) rfl (fun v w h => h), fun h w => optUndef h, fun zβ za zw zc => ?_⟩, ?_⟩
    · exact wp_call (by kernel_rfl) rfl (hv2 ((evt za 14).trans (optVal (zc.dep 9 14 (by kernel_rfl)) rfl zβ)) ((evt za 15).trans (optVal (zc.dep 10 15 (by kernel_rfl)) rfl zβ))) (rlow_any m hm0 t _ _ hz (IsT.below (bstep hb5 zc.below) hv0)) (fun v w' h => ⟨v, rfl, h.2, optDef zβ h.1⟩)
    refine ⟨⟨true, .none rfl, fun h w => optUndef h, fun zβ za zw zc => ?_⟩, ?_⟩
    · exact wp_and rfl ((evt za 13).trans (optVal (zc.dep 8 13 (by kernel_rfl)) rfl rfl)) (fun hp => ((evt za 16).trans (optVal (zc.dep 11 16 (by kernel_rfl)) rfl (bMk zβ hp)))) ⟨_, rfl, Below.refl _ _, optDef zβ rfl⟩
    refine ⟨⟨true, .none rfl, fun h w => optUndef h, fun zβ za zw zc => ?_⟩, ?_⟩
    · exact wp_assign rfl ((evt za 17).trans (optVal (zc.dep 12 17 (by kernel_rfl)) rfl rfl)) ⟨_, rfl, Below.refl _ _, optDef zβ rfl⟩
    exact trivial
  · intro za w11 zh hb12 zu
    have zh := zh.cons (d := 4) (v := .bool ((((decide ((((t.size : Nat) : Int) : Int) ≤ (300 : Int))) && (decide ((((t.dep : Nat) : Int) : Int) ≤ (30 : Int)))) && (t.low m)))) (optVal (zu 13 4 (by kernel_rfl)) rfl rfl)
    clear zu
    refine WE.go zh ?_
    refine WE.next ?_
    refine WC.ret ?_
    refine WE.ret1 rfl rfl ?_
    have hb13 : Below w.heap.size w w11 := (bstep hb5 hb12)
    refine ⟨_, rfl, congrArg Value.bool ?_, hb13⟩
    unfold T.small
    rw [Bool.eq_iff_iff]; simp; omega
end Go.Proofs.Ytnokgjajcnhkkaa

/- Maps from integers: entries in the order in which they were laid, whatever the values are; ranges over them. -/
namespace Go.Proofs.Ytnokgjajcnhkkaa
open Go.RowKit Go
set_option linter.unusedVariables false
set_option linter.unusedSimpArgs false
/-- The entries of a map are the list. -/
structure ImE (es : Array MapEntry) (clock : Nat) (l : List (Int × Value)) : Prop where
  kv : es.toList.map (fun e => (e.key, e.val)) = l.map (fun x => (Value.int .i64 x.1, x.2))
  nd : (es.toList.map (·.born)).Nodup
  lt : ∀ e ∈ es.toList, e.born < clock
/-- What lies in a block. -/
def ObjAt (w : World) (b : Nat) (o : Obj) : Prop := w.heap[b]? = some o
section
variable {w w' : World} {b g : Nat} {o : Obj}
theorem ObjAt.lt (h : ObjAt w b o) : b < w.heap.size := (Array.getElem?_eq_some_iff.1 h).1
theorem ObjAt.chg {S : Nat → Prop} (h : ObjAt w b o) (hc : Chg S w w') (hb : ¬ S b) : ObjAt w' b o := (hc.block b h.lt hb).trans h
theorem ObjAt.below (h : ObjAt w b o) (hb : Below w.heap.size w w') : ObjAt w' b o := (hb.block b h.lt).trans h
theorem ObjAt.upd (h : ObjAt w b o) (hu : Upd g w w') (hne : b ≠ g) : ObjAt w' b o := (hu.block b hne).trans h
end
theorem ImE.nil : ImE #[] 0 [] := ⟨rfl, List.Pairwise.nil, fun e h => by simp at h⟩
theorem ImE.size {es : Array MapEntry} {clock : Nat} {l : List (Int × Value)} (h : ImE es clock l) : es.size = l.length := by
  have := congrArg List.length h.kv
  simpa using this
section
variable {P : Program} {w : World} {t k e : TypeId} {kd : IntKind} {r : Nat} {es : Array MapEntry} {clock : Nat} {l : List (Int × Value)}
variable {a : Act} {K : Act → World → Prop} {Q : Exit → Act → World → Prop} {o : Oper}
end
end Go.Proofs.Ytnokgjajcnhkkaa

/- Ranges over maps from integers: what is handed out, in whatever order. -/
namespace Go.Proofs.Ytnokgjajcnhkkaa
open Go.RowKit Go
set_option linter.unusedVariables false
set_option linter.unusedSimpArgs false
/-- What a range has handed out, and what it has not. -/
structure ItE (es : Array MapEntry) (l : List (Int × Value)) (seen : Array Nat) (done rest : List (Int × Value)) : Prop where
  perm : (done ++ rest).Perm l
  left : (leftOf es seen).toList.map (fun e => (e.key, e.val)) = rest.map (fun x => (Value.int .i64 x.1, x.2))
section
variable {P : Program} {w : World} {t k e : TypeId} {kd : IntKind} {r it : Nat} {es : Array MapEntry} {clock : Nat} {l done rest : List (Int × Value)} {seen : Array Nat}
theorem leftOf_nil : leftOf es #[] = es := by
  unfold leftOf
  rw [Array.filter_eq_self]
  intro e _; simp
theorem ItE.start (h : ImE es clock l) : ItE es l #[] [] l := ⟨List.Perm.refl _, by rw [leftOf_nil]; exact h.kv⟩
variable {a : Act} {K : Act → World → Prop} {Q : Exit → Act → World → Prop} {o : Oper}
end
end Go.Proofs.Ytnokgjajcnhkkaa

/- Pointers to terms, in blocks that are told. -/
namespace Go.Proofs.Ytnokgjajcnhkkaa
open Go.RowKit Go
set_option linter.unusedVariables false
set_option linter.unusedSimpArgs false
/-- A pointer to a term, all in blocks of 'S'. -/
def InTp (S : Nat → Prop) (w : World) (t : T) (v : Value) : Prop := ∃ (b o : Nat) (a : Option Addr) (c : Nat), v = .pointer (some ⟨b, o, none⟩) ∧ S b ∧ w.cell? ⟨b, o, none⟩ = some (.int .i64 t.f) ∧ w.cell? ⟨b, o + 1, none⟩ = some (.slice a t.args.length c) ∧ InT S w t (.agg #[.int .i64 t.f, .slice a t.args.length c])
section
variable {S S' : Nat → Prop} {w w' : World} {t : T} {v : Value}
theorem InTp.keep (hb : ∀ (p : Addr) (x : Value), S p.block → w.cell? p = some x → w'.cell? p = some x) (h : InTp S w t v) : InTp S w' t v := by
  obtain ⟨b, o, a, c, e, hs, h1, h2, h3⟩ := h
  exact ⟨b, o, a, c, e, hs, hb ⟨b, o, none⟩ _ hs h1, hb ⟨b, o + 1, none⟩ _ hs h2, h3.keep hb⟩
theorem InTp.mono (hb : ∀ b, S b → b < w.heap.size → S' b) (h : InTp S w t v) : InTp S' w t v := by
  obtain ⟨b, o, a, c, e, hs, h1, h2, h3⟩ := h
  exact ⟨b, o, a, c, e, hb b hs (World.block_lt_of_cell? _ _ h1), h1, h2, h3.mono hb⟩
theorem InTp.below (h : InTp S w t v) (hb : Below w.heap.size w w') : InTp S w' t v := h.keep fun p x _ hx => bkeeps hb p x hx
theorem InTp.chg {S2 : Nat → Prop} (h : InTp S w t v) (hc : Chg S2 w w') (hS : ∀ b, S b → ¬ S2 b) : InTp S w' t v := h.keep fun p x hp hx => by
  have hb := World.block_lt_of_cell? _ _ hx
  unfold World.cell? at hx ⊢
  rw [hc.block p.block hb (hS _ hp)]; exact hx
/-- A box in which a term lies. -/
theorem InTp.box {g ty : Nat} {a : Option Addr} {c : Nat} (hB : Blk w g ty #[.int .i64 t.f, .slice a t.args.length c]) (hg : S g) (h : InT S w t (.agg #[.int .i64 t.f, .slice a t.args.length c])) : InTp S w t (.pointer (some ⟨g, 0, none⟩)) :=
  ⟨g, 0, a, c, rfl, hg, by rw [hB.cell]; rfl, by rw [hB.cell]; rfl, h⟩
end
section
variable {α β : Type} {E : Elt α} {E2 : Elt β} {w w' : World} {B B2 e e2 c c2 n n2 : Nat} {a a2 : Option Addr} {l : List α} {l2 : List β}
/-- Rows of different types lie in different blocks. -/
theorem RowE.ne (h : RowE E w B e a c n l) (h2 : RowE E2 w B2 e2 a2 c2 n2 l2) (he : e ≠ e2) : ∀ b, (Value.slice a n c).ownBlock = some b → (Value.slice a2 n2 c2).ownBlock ≠ some b := by
  intro b hb hb2
  obtain ⟨⟨xs, h1, _⟩, _⟩ := h
  obtain ⟨⟨ys, h3, _⟩, _⟩ := h2
  rcases h1.2 with ⟨e1, _⟩ | ⟨g, cap, cur, e1, _, r1, _⟩
  · rw [e1] at hb; cases hb
  · rcases h3.2 with ⟨f1, _⟩ | ⟨g', cap', cur', f1, _, r2, _⟩
    · rw [f1] at hb2; cases hb2
    · rw [e1] at hb; rw [f1] at hb2
      obtain rfl : g = b := by simpa [Value.ownBlock] using hb
      obtain rfl : g' = g := by simpa [Value.ownBlock] using hb2
      have := r1.symm.trans r2
      simp at this
      exact he this.2
/-- The first of a row. -/
theorem RowE.take (h : RowE E w B e a c n l) (k : Nat) (hk : k ≤ n) (hE : ∀ (S : Nat → Prop) w x cs, E.In S w x cs → ∀ S', E.In S' w x cs) : RowE E w B e a c k (l.take k) := by
  obtain ⟨⟨xs, h1, h2⟩, rfl⟩ := h
  have hel : ∀ (l : List α) (xs : List Value) (k : Nat) (Z Z' : Nat → Prop), Elts E Z w l xs → Elts E Z' w (l.take k) (xs.take (k * E.k)) := by
    intro l
    induction l with
    | nil => intro xs k Z Z' h; have : xs = [] := h; subst this; simp; exact rfl
    | cons x l ih =>
      rintro xs k Z Z' ⟨cs, r, rfl, h3, h4⟩
      cases k with
      | zero => simp; exact rfl
      | succ k =>
        refine ⟨cs, r.take (k * E.k), ?_, hE _ _ _ _ h3 _, ih r k Z Z' h4⟩
        rw [List.take_append, E.len h3, Nat.add_mul, Nat.one_mul, Nat.add_sub_cancel, List.take_of_length_le (by rw [E.len h3]; omega)]
  refine ⟨⟨xs.take (k * E.k), ⟨by rw [List.length_take, h1.1]; exact Nat.min_eq_left (Nat.mul_le_mul_right _ hk), ?_⟩, hel _ _ _ _ _ h2⟩, by simp; omega⟩
  rcases h1.2 with ⟨e1, h0⟩ | ⟨g, cap, cur, e1, e2, e3, e4, e5, e6, e7⟩
  · simp only [Value.slice.injEq] at e1
    obtain ⟨rfl, e, rfl⟩ := e1
    left
    have : k = 0 := by omega
    subst this
    exact ⟨rfl, by simp⟩
  · right
    simp only [Value.slice.injEq, true_and] at e1
    obtain ⟨rfl, rfl⟩ := e1
    exact ⟨g, _, cur, rfl, e2, e3, by omega, e5, e6, by rw [← e7, List.take_take, Nat.min_eq_left (Nat.mul_le_mul_right _ hk)]⟩
end
section
variable {α : Type} {E : Elt α} {P : Program} {w : World} {a : Act} {K : Act → World → Prop} {Q : Exit → Act → World → Prop} {o : Oper}
end
end Go.Proofs.Ytnokgjajcnhkkaa

/- Rows of one's own whose elements lie in blocks that are told. -/
namespace Go.Proofs.Ytnokgjajcnhkkaa
open Go.RowKit Go
set_option linter.unusedVariables false
set_option linter.unusedSimpArgs false
section
variable {α β : Type} {E : Elt α} {E2 : Elt β} {S S' : Nat → Prop} {w w' : World} {e e2 c c2 n n2 : Nat} {a a2 : Option Addr} {l : List α} {l2 : List β}
/-- A row of one's own: its elements lie in blocks of 'S', none of which is the row's. -/
structure RowD (E : Elt α) (S : Nat → Prop) (w : World) (e : Nat) (a : Option Addr) (c n : Nat) (l : List α) : Prop where
  row : ∃ xs, w.ownsRow 0 e E.k (.slice a n c) n xs ∧ Elts E S w l xs
  len : n = l.length
  ne : ∀ b, S b → (Value.slice a n c).ownBlock ≠ some b
theorem RowD.nil : RowD E S w e none 0 0 ([] : List α) := ⟨⟨[], World.ownsRow_nil _ _ _ _, rfl⟩, rfl, fun _ _ h => (nomatch h)⟩
theorem RowD.rowE (h : RowD E S w e a c n l) : RowE E w 0 e a c n l := by
  obtain ⟨⟨xs, h1, h2⟩, h3, h4⟩ := h
  exact ⟨⟨xs, h1, Elts.mono (fun b hb _ => ⟨Nat.zero_le _, h4 b hb⟩) h2⟩, h3⟩
theorem RowD.lt (h : RowD E S w e a c n l) : ∀ b, (Value.slice a n c).ownBlock = some b → b < w.heap.size := fun b hb => (h.rowE.lt b hb).2
theorem RowD.mono (h : RowD E S w e a c n l) (hb : ∀ b, S b → b < w.heap.size → S' b) (hne : ∀ b, S' b → (Value.slice a n c).ownBlock ≠ some b) : RowD E S' w e a c n l := by
  obtain ⟨⟨xs, h1, h2⟩, h3, h4⟩ := h
  exact ⟨⟨xs, h1, Elts.mono hb h2⟩, h3, hne⟩
/-- Blocks of the row and of its elements are as they were. -/
theorem RowD.chg {Z : Nat → Prop} (h : RowD E S w e a c n l) (hc : Chg Z w w') (h1 : ∀ b, (Value.slice a n c).ownBlock = some b → ¬ Z b) (h2 : ∀ b, S b → ¬ Z b) : RowD E S w' e a c n l := by
  obtain ⟨⟨xs, k1, k2⟩, k3, k4⟩ := h
  refine ⟨⟨xs, ⟨k1.1, k1.2.imp id ?_⟩, Elts.keep (fun p v hp hv => ?_) k2⟩, k3, k4⟩
  · rintro ⟨g, cap, cur, e1, e2, e3, r⟩
    refine ⟨g, cap, cur, e1, e2, ?_, r⟩
    rw [hc.block g (Array.getElem?_eq_some_iff.1 e3).1 (h1 g (by rw [e1]; rfl))]; exact e3
  · have hb := World.block_lt_of_cell? _ _ hv
    unfold World.cell? at hv ⊢
    rw [hc.block p.block hb (h2 _ hp)]; exact hv
theorem RowD.below (h : RowD E S w e a c n l) (hb : Below w.heap.size w w') : RowD E S w' e a c n l := h.chg (Z := fun _ => False) (.ofBelow hb) (fun _ _ => id) (fun _ _ => id)
theorem RowD.inRow (h : RowD E S w e a c n l) : InRow E (fun _ => True) w l a ∧ n ≤ c ∧ c ≤ maxLen := by
  obtain ⟨h1, h2, h3, h4⟩ := h.rowE.inRow
  rcases Nat.eq_zero_or_pos E.k with hk | hk
  · exact ⟨fun i hi => by
      obtain ⟨b, o, cs, e1, _, e3, e4⟩ := h1 i hi
      exact ⟨b, o, cs, e1, trivial, E.mono (fun _ _ _ => trivial) e3, e4⟩, h3, h4⟩
  · exact ⟨h1.mono hk (fun _ _ _ => trivial), h3, h4⟩
theorem Elts.take : ∀ {l : List α} {xs : List Value} (k : Nat), Elts E S w l xs → Elts E S w (l.take k) (xs.take (k * E.k))
  | [], xs, k, h => by have : xs = [] := h; subst this; simp; exact rfl
  | x :: l, xs, 0, _ => by simp; exact rfl
  | x :: l, xs, k + 1, ⟨cs, r, e, h3, h4⟩ => by
    subst e
    refine ⟨cs, r.take (k * E.k), ?_, h3, Elts.take k h4⟩
    rw [List.take_append, E.len h3, Nat.add_mul, Nat.one_mul, Nat.add_sub_cancel, List.take_of_length_le (by rw [E.len h3]; omega)]
theorem RowD.take (h : RowD E S w e a c n l) (k : Nat) (hk : k ≤ n) : RowD E S w e a c k (l.take k) := by
  obtain ⟨⟨xs, h1, h2⟩, rfl, h4⟩ := h
  refine ⟨⟨xs.take (k * E.k), ⟨by rw [List.length_take, h1.1]; exact Nat.min_eq_left (Nat.mul_le_mul_right _ hk), ?_⟩, Elts.take k h2⟩, by simp; omega, fun b hb => by
    have := h4 b hb
    cases a <;> exact this⟩
  rcases h1.2 with ⟨e1, h0⟩ | ⟨g, cap, cur, e1, e2, e3, e4, e5, e6, e7⟩
  · simp only [Value.slice.injEq] at e1
    obtain ⟨rfl, e, rfl⟩ := e1
    left
    have : k = 0 := by omega
    subst this
    exact ⟨rfl, by simp⟩
  · right
    simp only [Value.slice.injEq, true_and] at e1
    obtain ⟨rfl, rfl⟩ := e1
    exact ⟨g, _, cur, rfl, e2, e3, by omega, e5, e6, by rw [← e7, List.take_take, Nat.min_eq_left (Nat.mul_le_mul_right _ hk)]⟩
end
section
variable {α : Type} {E : Elt α} {P : Program} {w : World} {a : Act} {K : Act → World → Prop} {Q : Exit → Act → World → Prop} {o : Oper} {S S2 : Nat → Prop}
/-- One element more, by append. -/
theorem wp_appD {s x : Operand} {t e : Nat} {z : Value} {size bytes n rc g1 : Nat} {ra : Option Addr} {l : List α} {y : α} {cs : List Value} (hk : E.k = size) (ht : P.underlying t = some (.slice e)) (hinfo : (P.info? e).map (fun i => (i.zero, i.size, i.bytes)) = some (some z, size, bytes)) (hzs : z.cells.size = size) (hsz : 0 < size)
    (ho : o.op = .call { callee := .builtin .append, args := #[s, x], argTypes := #[t, t] }) (hs : a.eval s = .slice ra n rc) (hx : a.eval x = .slice (some ⟨g1, 0, none⟩) 1 1) (hrow : RowD E S w e ra rc n l) (hB : Blk w g1 e cs.toArray) (hin : E.In S2 w y cs) (hS2 : ∀ b, S2 b → (Value.slice ra n rc).ownBlock ≠ some b)
    (hb : (n + 1) * bytes ≤ 140737488355328) (hn : n + 1 ≤ 9223372036854775807) (hK : ∀ ra' rc' w', RowD E (fun b => (S b ∨ S2 b) ∧ b < w.heap.size) w' e ra' rc' (n + 1) (l ++ [y]) → Chg (fun b => (Value.slice ra n rc).ownBlock = some b) w w' → (∀ b, (Value.slice ra' (n + 1) rc').ownBlock = some b → (Value.slice ra n rc).ownBlock = some b ∨ w.heap.size ≤ b) → K (a.put o.dst (.slice ra' (n + 1) rc')) w') : o.wp P a w K Q := by
  subst hk
  obtain ⟨⟨xs, h1, h2⟩, rfl, h4⟩ := hrow
  refine wp_app (m := 1) (news := cs) ht hinfo hzs hsz ho hs hx h1 (SrcIs.ofBlk hB) (by rw [E.len hin]; omega) (E.one hin) hb hn (Nat.zero_le _) (fun ra' rc' w' h => hK _ _ _ ?_ ⟨h.grow.os, h.grow.tape, h.grow.output, h.grow.size, fun k hk hSk => h.grow.block k hk (fun e => hSk e.symm)⟩ ?_)
  · have key : ∀ (p : Addr) (v : Value), (Value.slice ra l.length rc).ownBlock ≠ some p.block → w.cell? p = some v → w'.cell? p = some v := fun p v hp hv => h.grow.cell hv (Ne.symm hp)
    have ne2 : ∀ b, (S b ∨ S2 b) → (Value.slice ra l.length rc).ownBlock ≠ some b := fun b q => q.elim (h4 b) (hS2 b)
    refine ⟨⟨xs ++ cs, h.own, ?_⟩, by simp, fun b hb e => ?_⟩
    · refine Elts.keep (w := w) (fun p v hp hv => key p v (ne2 _ hp.1) hv) ?_
      exact Elts.snoc (E.mono (fun b hb hlt => ⟨.inr hb, hlt⟩) hin) (Elts.mono (fun b hb hlt => ⟨.inl hb, hlt⟩) h2)
    · rcases h.at_ with e2 | e2
      · exact ne2 b hb.1 (e2 ▸ e)
      · rw [e2] at e; have := Option.some.inj e; have := hb.2; omega
  · intro b hb
    rcases h.at_ with e2 | e2
    · exact .inl (e2 ▸ hb)
    · rw [e2] at hb; exact .inr (Nat.le_of_eq (Option.some.inj hb))
end
end Go.Proofs.Ytnokgjajcnhkkaa

namespace Go.Proofs.Ytnokgjajcnhkkaa
open Go.RowKit Go
set_option linter.unusedVariables false
set_option linter.unusedSimpArgs false
structure TwoRw (B : Nat) (S : Nat → Prop) (e : Nat) (w : World) (a1 : Option Addr) (c1 n1 : Nat) (L1 : List Li) (a2 : Option Addr) (c2 n2 : Nat) (L2 : List Li) : Prop where
  r1 : RowD eltL S w e a1 c1 n1 L1
  r2 : RowD eltL (fun b => b < B) w e a2 c2 n2 L2
  s1 : ∀ b, S b → B ≤ b ∧ b < w.heap.size ∧ (Value.slice a2 n2 c2).ownBlock ≠ some b
  o1 : ∀ b, (Value.slice a1 n1 c1).ownBlock = some b → B ≤ b ∧ (Value.slice a2 n2 c2).ownBlock ≠ some b
  o2 : ∀ b, (Value.slice a2 n2 c2).ownBlock = some b → B ≤ b
def TwoX (B e : Nat) (w : World) (a1 : Option Addr) (c1 n1 : Nat) (L1 : List Li) (a2 : Option Addr) (c2 n2 : Nat) (L2 : List Li) : Prop := ∃ S, TwoRw B S e w a1 c1 n1 L1 a2 c2 n2 L2
section
variable {B e c1 n1 c2 n2 : Nat} {S : Nat → Prop} {w w' : World} {a1 a2 : Option Addr} {L1 L2 : List Li}
theorem TwoRw.lt1 (h : TwoRw B S e w a1 c1 n1 L1 a2 c2 n2 L2) : ∀ b, (Value.slice a1 n1 c1).ownBlock = some b → b < w.heap.size := h.r1.lt
theorem TwoRw.lt2 (h : TwoRw B S e w a1 c1 n1 L1 a2 c2 n2 L2) : ∀ b, (Value.slice a2 n2 c2).ownBlock = some b → b < w.heap.size := h.r2.lt
theorem TwoX.below (h : TwoX B e w a1 c1 n1 L1 a2 c2 n2 L2) (hb : Below w.heap.size w w') : TwoX B e w' a1 c1 n1 L1 a2 c2 n2 L2 := by
  obtain ⟨S, h1, h2, h3, h4, h5⟩ := h
  exact ⟨S, h1.below hb, h2.below hb, fun b q => ⟨(h3 b q).1, Nat.lt_of_lt_of_le (h3 b q).2.1 hb.size, (h3 b q).2.2⟩, h4, h5⟩
theorem TwoX.nil : TwoX B e w none 0 0 [] none 0 0 [] := ⟨fun _ => False, RowD.nil, RowD.nil, fun _ q => q.elim, fun _ q => (nomatch q), fun _ q => (nomatch q)⟩
/-- The first row has grown by a literal that lies in blocks from 'N' on. -/
theorem TwoRw.grow1 (h : TwoRw B S e w a1 c1 n1 L1 a2 c2 n2 L2) {N : Nat} {ra : Option Addr} {rc : Nat} {y : Li} (hBN : B ≤ N) (h2 : ∀ b, (Value.slice a2 n2 c2).ownBlock = some b → b < N)
    (hr : RowD eltL (fun b => (S b ∨ N ≤ b) ∧ b < w.heap.size) w' e ra rc (n1 + 1) (L1 ++ [y])) (hc : Chg (fun b => (Value.slice a1 n1 c1).ownBlock = some b) w w') (hn : ∀ b, (Value.slice ra (n1 + 1) rc).ownBlock = some b → (Value.slice a1 n1 c1).ownBlock = some b ∨ w.heap.size ≤ b) (hw : B ≤ w.heap.size) :
    TwoX B e w' ra rc (n1 + 1) (L1 ++ [y]) a2 c2 n2 L2 := by
  refine ⟨_, hr, h.r2.chg hc (fun b q q2 => (h.o1 b q2).2 q) (fun b q q2 => by have z := (h.o1 b q2).1; omega), fun b q => ?_, fun b q => ?_, h.o2⟩
  · have hs := hc.size
    refine ⟨?_, Nat.lt_of_lt_of_le q.2 hs, fun q2 => ?_⟩
    · rcases q.1 with q1 | q1
      · exact (h.s1 b q1).1
      · omega
    · rcases q.1 with q1 | q1
      · exact (h.s1 b q1).2.2 q2
      · have z := h2 b q2; omega
  · rcases hn b q with q1 | q1
    · exact h.o1 b q1
    · exact ⟨by omega, fun q2 => by have z := h.lt2 b q2; omega⟩
/-- The second row has grown by a literal whose sides lie below. -/
theorem TwoRw.grow2 (h : TwoRw B S e w a1 c1 n1 L1 a2 c2 n2 L2) {ra : Option Addr} {rc : Nat} {y : Li}
    (hr : RowD eltL (fun b => (b < B ∨ b < B) ∧ b < w.heap.size) w' e ra rc (n2 + 1) (L2 ++ [y])) (hc : Chg (fun b => (Value.slice a2 n2 c2).ownBlock = some b) w w') (hn : ∀ b, (Value.slice ra (n2 + 1) rc).ownBlock = some b → (Value.slice a2 n2 c2).ownBlock = some b ∨ w.heap.size ≤ b) (hw : B ≤ w.heap.size) :
    TwoX B e w' a1 c1 n1 L1 ra rc (n2 + 1) (L2 ++ [y]) := by
  have hO : ∀ b, (Value.slice ra (n2 + 1) rc).ownBlock = some b → B ≤ b := fun b q => by
    rcases hn b q with q1 | q1
    · exact h.o2 b q1
    · omega
  refine ⟨S, h.r1.chg hc (fun b q => (h.o1 b q).2) (fun b q => (h.s1 b q).2.2), hr.mono (fun b q _ => by omega) (fun b q q2 => by have z := hO b q2; omega), fun b q => ⟨(h.s1 b q).1, Nat.lt_of_lt_of_le (h.s1 b q).2.1 hc.size, fun q2 => ?_⟩, fun b q => ⟨(h.o1 b q).1, fun q2 => ?_⟩, hO⟩
  · rcases hn b q2 with q1 | q1
    · exact (h.s1 b q).2.2 q1
    · have z := (h.s1 b q).2.1; omega
  · rcases hn b q2 with q1 | q1
    · exact (h.o1 b q).2 q1
    · have z := h.lt1 b q; omega
end
end Go.Proofs.Ytnokgjajcnhkkaa
