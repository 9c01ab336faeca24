/- Arguments of a law, opened: substitutions. -/
import Derived.Test.YtcmfjnadjddboaaMMg
import Derived.Test.YtcmfjnadjddboaaMMh
import Derived.Test.YtcmfjnadjddboaaMMi
import Derived.Test.YtcmfjnadjddboaaMMj
import Derived.Test.YtcmfjnadjddboaaMMe
import Derived.Test.YtcmfjnadjddboaaMMa
import Derived.WalkKit
import Derived.ProofKit
import Derived.JoinedCond
import Derived.OpenShut
import Derived.Test.YtcmfjnadjddboaaMMb
import Derived.Test.YtcmfjnadjddboaaMMd

/- The walk through the law MatchMakes. -/
namespace Go.Proofs.Ytcmfjnadjddboaa
open Go.RowKit Go
set_option linter.unusedVariables false
set_option linter.unusedSimpArgs false

set_option linter.unnecessarySimpa false

set_option maxRecDepth 100000 in
set_option maxHeartbeats 2000000 in
theorem makes_any (p t : T) (ss : List Bd) (w : World) (u v : Value) (sa : Option Addr) (sc : Nat) (hp : IsT w p u) (ht : IsT w t v) (hz : IsSub w ss sa sc) (hzp : p.size ≤ 4294967296) (hzt : t.size ≤ 4294967296) : Calls Try.prog 7 #[u, v, .slice sa ss.length sc] w (Ret fun v' w' => v' = .bool true ∧ Below w.heap.size w w') := by
  have hp0 := hp
  have ht0 := ht
  have hzcap := hz.cap
  have hzlen := hz.len
  have hzsm := hz.small
  obtain ⟨hfp, pa0, pc0, rfl, _, _, _⟩ := hp.form
  obtain ⟨hft, ta0, tc0, rfl, _, _, _⟩ := ht.form
  unfold maxLen at hzcap
  refine Calls.walk (l := [.agg #[.int .i64 p.f, .slice pa0 p.args.length pc0], .agg #[.int .i64 t.f, .slice ta0 t.args.length tc0], .slice sa ss.length sc]) Try.func7 rfl (by kernel_rfl) ?_
  refine WC.sub (K' := [(0, .agg #[.int .i64 p.f, .slice pa0 p.args.length pc0]), (1, .agg #[.int .i64 t.f, .slice ta0 t.args.length tc0]), (2, .slice sa ss.length sc)]) ⟨rfl, rfl, rfl, trivial⟩ ?_
  refine WC.seq ?_
  refine WC.region ?_
  refine WL.step (post := NewBlk w 24 #[.int .i64 p.f, .slice pa0 p.args.length pc0]) rfl rfl rfl (fun za zC zh zk => box_24 rfl (zh.ev rfl) (zk _ _ (newBlk _ _ _))) ?_
  rintro _ w1 ⟨g2, rfl, hg3, hB4, hb5, hz6⟩
  have hl7 : w.heap.size ≤ g2 := by omega
  refine WL.step (post := NewBlk w1 24 #[.int .i64 t.f, .slice ta0 t.args.length tc0]) rfl rfl rfl (fun za zC zh zk => box_24 rfl (zh.ev rfl) (zk _ _ (newBlk _ _ _))) ?_
  rintro _ w8 ⟨g9, rfl, hg10, hB11, hb12, hz13⟩
  have hl14 : g2 < g9 := by have z1 := hB4.lt; omega
  have hl15 : w.heap.size ≤ g9 := by have z2 := (hb5).size; omega
  refine WL.val (.bool false) rfl rfl rfl (fun za zC zh zk => wp_assign rfl (zh.ev rfl) zk) ?_
  refine WL.nil (WE.sub (K' := [(0, .agg #[.int .i64 p.f, .slice pa0 p.args.length pc0]), (1, .agg #[.int .i64 t.f, .slice ta0 t.args.length tc0]), (2, .slice sa ss.length sc), (3, .pointer (some ⟨g2, 0, none⟩)), (4, .pointer (some ⟨g9, 0, none⟩)), (6, .bool false)]) ⟨rfl, rfl, rfl, rfl, rfl, rfl, trivial⟩ ?_)
  refine WE.next ?_
  refine WC.seq ?_
  refine WC.seq ?_
  have hB16 := hB4.below hb12
  have hb17 : Below w.heap.size w w8 := (bstep hb5 hb12)
  refine WC.opt [(true, .val (.agg #[.int .i64 p.f, .slice pa0 p.args.length pc0])), (true, .val (.bool ((p.small 48)))), (true, .val (.bool ((!(p.small 48))))), (true, .val (.bool ((!(p.small 48))))), ((true && !(!(p.small 48))), .val (.agg #[.int .i64 t.f, .slice ta0 t.args.length tc0])), ((true && !(!(p.small 48))), .val (.bool ((t.small 48)))), ((true && !(!(p.small 48))), .val (.bool ((!(t.small 48))))), (true, .val (.bool (((!(p.small 48)) || (!(t.small 48)))))), (true, .val (.bool (((!(p.small 48)) || (!(t.small 48)))))), ((true && !((!(p.small 48)) || (!(t.small 48)))), .val (.slice sa ss.length sc)), ((true && !((!(p.small 48)) || (!(t.small 48)))), .val (.int .i64 ((subCheck ss)))), ((true && !((!(p.small 48)) || (!(t.small 48)))), .val (.bool ((((subCheck ss) : Int) != (0 : Int))))), (true, .val (.bool ((((!(p.small 48)) || (!(t.small 48))) || (((subCheck ss) : Int) != (0 : Int)))))), (true, .val (.bool ((((!(p.small 48)) || (!(t.small 48))) || (((subCheck ss) : Int) != (0 : Int)))))), ((true && !(((!(p.small 48)) || (!(t.small 48))) || (((subCheck ss) : Int) != (0 : Int)))), .val (.slice sa ss.length sc)), ((true && !(((!(p.small 48)) || (!(t.small 48))) || (((subCheck ss) : Int) != (0 : Int)))), .val (.int .i64 (((ss.length : Nat) : Int)))), ((true && !(((!(p.small 48)) || (!(t.small 48))) || (((subCheck ss) : Int) != (0 : Int)))), .val (.bool ((decide ((100 : Int) < (((ss.length : Nat) : Int) : Int)))))), (true, .val (.bool (((((!(p.small 48)) || (!(t.small 48))) || (((subCheck ss) : Int) != (0 : Int))) || (decide ((100 : Int) < (((ss.length : Nat) : Int) : Int)))))))] [(0, .agg #[.int .i64 p.f, .slice pa0 p.args.length pc0]), (1, .agg #[.int .i64 t.f, .slice ta0 t.args.length tc0]), (2, .slice sa ss.length sc), (3, .pointer (some ⟨g2, 0, none⟩)), (4, .pointer (some ⟨g9, 0, none⟩)), (6, .bool false)] ⟨rfl, rfl, rfl, rfl, rfl, rfl, trivial⟩ (by kernel_rfl) (by kernel_rfl) (by kernel_rfl) ?_ ?_
  · refine ⟨⟨true, .none rfl, fun h w => optUndef h, fun zβ za zw zc => ?_⟩, ?_⟩
    · exact ld_24 rfl (zc.kn.ev rfl) (bkeeps zc.below _ _ ((hB16.cell 0).trans rfl)) (bkeeps zc.below _ _ ((hB16.cell 1).trans rfl)) ⟨_, rfl, Below.refl _ _, optDef zβ rfl⟩
    refine ⟨⟨true, .none rfl, fun h w => optUndef h, fun zβ za zw zc => ?_⟩, ?_⟩
    · exact wp_call (by kernel_rfl) rfl (hv2 ((show za.eval (.tmp 16) = za.tmps.getD 16 undef from rfl).trans (optVal (zc.dep 0 16 (by kernel_rfl)) rfl rfl)) (zc.kn.ev rfl)) (rsmall_any p 48 _ _ (by omega) hzp (IsT.below (bstep hb17 zc.below) hp)) (fun v w' h => ⟨v, rfl, h.2, optDef zβ h.1⟩)
    refine ⟨⟨true, .none rfl, fun h w => optUndef h, fun zβ za zw zc => ?_⟩, ?_⟩
    · exact wp_not rfl ((show za.eval (.tmp 17) = za.tmps.getD 17 undef from rfl).trans (optVal (zc.dep 1 17 (by kernel_rfl)) rfl rfl)) ⟨_, rfl, Below.refl _ _, optDef zβ rfl⟩
    refine ⟨⟨true, .none rfl, fun h w => optUndef h, fun zβ za zw zc => ?_⟩, ?_⟩
    · exact wp_move rfl ((show za.eval (.tmp 18) = za.tmps.getD 18 undef from rfl).trans (optVal (zc.dep 2 18 (by kernel_rfl)) rfl rfl)) ⟨_, rfl, Below.refl _ _, optDef zβ rfl⟩
    refine ⟨⟨(true && !(!(p.small 48))), .no (c := (!(p.small 48))) (d := true) rfl (fun v w h => h), fun h w => optUndef h, fun zβ za zw zc => ?_⟩, ?_⟩
    · exact ld_24 rfl (zc.kn.ev rfl) (bkeeps zc.below _ _ ((hB11.cell 0).trans rfl)) (bkeeps zc.below _ _ ((hB11.cell 1).trans rfl)) ⟨_, rfl, Below.refl _ _, optDef zβ rfl⟩
    refine ⟨⟨(true && !(!(p.small 48))), .no (c := (!(p.small 48))) (d := true) rfl (fun v w h => h), fun h w => optUndef h, fun zβ za zw zc => ?_⟩, ?_⟩
    · exact wp_call (by kernel_rfl) rfl (hv2 ((show za.eval (.tmp 20) = za.tmps.getD 20 undef from rfl).trans (optVal (zc.dep 4 20 (by kernel_rfl)) rfl zβ)) (zc.kn.ev rfl)) (rsmall_any t 48 _ _ (by omega) hzt (IsT.below (bstep hb17 zc.below) ht)) (fun v w' h => ⟨v, rfl, h.2, optDef zβ h.1⟩)
    refine ⟨⟨(true && !(!(p.small 48))), .no (c := (!(p.small 48))) (d := true) rfl (fun v w h => h), fun h w => optUndef h, fun zβ za zw zc => ?_⟩, ?_⟩
    · exact wp_not rfl ((show za.eval (.tmp 21) = za.tmps.getD 21 undef from rfl).trans (optVal (zc.dep 5 21 (by kernel_rfl)) rfl zβ)) ⟨_, rfl, Below.refl _ _, optDef zβ rfl⟩
    refine ⟨⟨true, .none rfl, fun h w => optUndef h, fun zβ za zw zc => ?_⟩, ?_⟩
    · exact wp_or rfl ((show za.eval (.tmp 19) = za.tmps.getD 19 undef from rfl).trans (optVal (zc.dep 3 19 (by kernel_rfl)) rfl rfl)) (fun hp => ((show za.eval (.tmp 22) = za.tmps.getD 22 undef from rfl).trans (optVal (zc.dep 6 22 (by kernel_rfl)) rfl (bMkN zβ hp)))) ⟨_, rfl, Below.refl _ _, optDef zβ rfl⟩
    refine ⟨⟨true, .none rfl, fun h w => optUndef h, fun zβ za zw zc => ?_⟩, ?_⟩
    · exact wp_move rfl ((show za.eval (.tmp 23) = za.tmps.getD 23 undef from rfl).trans (optVal (zc.dep 7 23 (by kernel_rfl)) rfl rfl)) ⟨_, rfl, Below.refl _ _, optDef zβ rfl⟩
    refine ⟨⟨(true && !((!(p.small 48)) || (!(t.small 48)))), .no (c := ((!(p.small 48)) || (!(t.small 48)))) (d := true) rfl (fun v w h => h), fun h w => optUndef h, fun zβ za zw zc => ?_⟩, ?_⟩
    · exact wp_move rfl (zc.kn.ev rfl) ⟨_, rfl, Below.refl _ _, optDef zβ rfl⟩
    refine ⟨⟨(true && !((!(p.small 48)) || (!(t.small 48)))), .no (c := ((!(p.small 48)) || (!(t.small 48)))) (d := true) rfl (fun v w h => h), fun h w => optUndef h, fun zβ za zw zc => ?_⟩, ?_⟩
    · exact wp_call (by kernel_rfl) rfl (hv1 ((show za.eval (.tmp 25) = za.tmps.getD 25 undef from rfl).trans (optVal (zc.dep 9 25 (by kernel_rfl)) rfl zβ))) (rcheck_any ss _ _ _ hzsm (hz.below (bstep hb17 zc.below)).rows) (fun v w' h => ⟨v, rfl, h.2, optDef zβ h.1⟩)
    refine ⟨⟨(true && !((!(p.small 48)) || (!(t.small 48)))), .no (c := ((!(p.small 48)) || (!(t.small 48)))) (d := true) rfl (fun v w h => h), fun h w => optUndef h, fun zβ za zw zc => ?_⟩, ?_⟩
    · exact neq_54 rfl ((show za.eval (.tmp 26) = za.tmps.getD 26 undef from rfl).trans (optVal (zc.dep 10 26 (by kernel_rfl)) rfl zβ)) (zc.kn.ev rfl) ⟨_, rfl, Below.refl _ _, optDef zβ rfl⟩
    refine ⟨⟨true, .none rfl, fun h w => optUndef h, fun zβ za zw zc => ?_⟩, ?_⟩
    · exact wp_or rfl ((show za.eval (.tmp 24) = za.tmps.getD 24 undef from rfl).trans (optVal (zc.dep 8 24 (by kernel_rfl)) rfl rfl)) (fun hp => ((show za.eval (.tmp 27) = za.tmps.getD 27 undef from rfl).trans (optVal (zc.dep 11 27 (by kernel_rfl)) rfl (bMkN zβ hp)))) ⟨_, rfl, Below.refl _ _, optDef zβ rfl⟩
    refine ⟨⟨true, .none rfl, fun h w => optUndef h, fun zβ za zw zc => ?_⟩, ?_⟩
    · exact wp_move rfl ((show za.eval (.tmp 28) = za.tmps.getD 28 undef from rfl).trans (optVal (zc.dep 12 28 (by kernel_rfl)) rfl rfl)) ⟨_, rfl, Below.refl _ _, optDef zβ rfl⟩
    refine ⟨⟨(true && !(((!(p.small 48)) || (!(t.small 48))) || (((subCheck ss) : Int) != (0 : Int)))), .no (c := (((!(p.small 48)) || (!(t.small 48))) || (((subCheck ss) : Int) != (0 : Int)))) (d := true) rfl (fun v w h => h), fun h w => optUndef h, fun zβ za zw zc => ?_⟩, ?_⟩
    · exact wp_move rfl (zc.kn.ev rfl) ⟨_, rfl, Below.refl _ _, optDef zβ rfl⟩
    refine ⟨⟨(true && !(((!(p.small 48)) || (!(t.small 48))) || (((subCheck ss) : Int) != (0 : Int)))), .no (c := (((!(p.small 48)) || (!(t.small 48))) || (((subCheck ss) : Int) != (0 : Int)))) (d := true) rfl (fun v w h => h), fun h w => optUndef h, fun zβ za zw zc => ?_⟩, ?_⟩
    · exact len_26 rfl ((show za.eval (.tmp 30) = za.tmps.getD 30 undef from rfl).trans (optVal (zc.dep 14 30 (by kernel_rfl)) rfl zβ)) ⟨_, rfl, Below.refl _ _, optDef zβ rfl⟩
    refine ⟨⟨(true && !(((!(p.small 48)) || (!(t.small 48))) || (((subCheck ss) : Int) != (0 : Int)))), .no (c := (((!(p.small 48)) || (!(t.small 48))) || (((subCheck ss) : Int) != (0 : Int)))) (d := true) rfl (fun v w h => h), fun h w => optUndef h, fun zβ za zw zc => ?_⟩, ?_⟩
    · exact gtr_3 rfl ((show za.eval (.tmp 31) = za.tmps.getD 31 undef from rfl).trans (optVal (zc.dep 15 31 (by kernel_rfl)) rfl zβ)) (zc.kn.ev rfl) ⟨_, rfl, Below.refl _ _, optDef zβ rfl⟩
    refine ⟨⟨true, .none rfl, fun h w => optUndef h, fun zβ za zw zc => ?_⟩, ?_⟩
    · exact wp_or rfl ((show za.eval (.tmp 29) = za.tmps.getD 29 undef from rfl).trans (optVal (zc.dep 13 29 (by kernel_rfl)) rfl rfl)) (fun hp => ((show za.eval (.tmp 32) = za.tmps.getD 32 undef from rfl).trans (optVal (zc.dep 16 32 (by kernel_rfl)) rfl (bMkN zβ hp)))) ⟨_, rfl, Below.refl _ _, optDef zβ rfl⟩
    exact trivial
  · intro za w21 zh hb22 zu
    have zh := zh.cons (d := 33) (v := .bool (((((!(p.small 48)) || (!(t.small 48))) || (((subCheck ss) : Int) != (0 : Int))) || (decide ((100 : Int) < (((ss.length : Nat) : Int) : Int)))))) (optVal (zu 17 33 (by kernel_rfl)) rfl rfl)
    clear zu
    refine (show WE _ [(0, .agg #[.int .i64 p.f, .slice pa0 p.args.length pc0]), (1, .agg #[.int .i64 t.f, .slice ta0 t.args.length tc0]), (2, .slice sa ss.length sc), (3, .pointer (some ⟨g2, 0, none⟩)), (4, .pointer (some ⟨g9, 0, none⟩)), (6, .bool false), (33, .bool (((((!(p.small 48)) || (!(t.small 48))) || (((subCheck ss) : Int) != (0 : Int))) || (decide ((100 : Int) < (((ss.length : Nat) : Int) : Int))))))] w21 _ .normal from ?_) za (zh.sub ⟨rfl, rfl, rfl, rfl, rfl, rfl, rfl, trivial⟩)
    refine WE.next ?_
    refine WC.cond rfl (fun h23 => ?_) (fun h23 => ?_)
    · have h23 : (((¬ ((p.small 48) = true)) ∨ (¬ ((t.small 48) = true))) ∨ (((subCheck ss) : Int) ≠ (0 : Int))) ∨ ((100 : Int) < (((ss.length : Nat) : Int) : Int)) := by simpa using h23
      refine WC.seq ?_
      refine WC.region ?_
      refine WL.call rfl rfl rfl (fun za zh zC => wp_call (by kernel_rfl) rfl (hv0)) (wakes_any _) ?_
      rintro _ w25 ⟨rfl, hq24⟩
      refine WL.val (.bool true) rfl rfl rfl (fun za zC zh zk => wp_assign rfl (zh.ev rfl) zk) ?_
      refine WL.nil (WE.sub (K' := [(0, .agg #[.int .i64 p.f, .slice pa0 p.args.length pc0]), (1, .agg #[.int .i64 t.f, .slice ta0 t.args.length tc0]), (2, .slice sa ss.length sc), (3, .pointer (some ⟨g2, 0, none⟩)), (4, .pointer (some ⟨g9, 0, none⟩)), (6, .bool true), (33, .bool (((((!(p.small 48)) || (!(t.small 48))) || (((subCheck ss) : Int) != (0 : Int))) || (decide ((100 : Int) < (((ss.length : Nat) : Int) : Int))))))]) ⟨rfl, rfl, rfl, rfl, rfl, rfl, rfl, trivial⟩ ?_)
      refine WE.next ?_
      refine WC.ret ?_
      refine WE.thenRet ?_
      refine WE.ret1 rfl rfl ?_
      have hb26 : Below w.heap.size w w25 := (bstep (bstep hb17 hb22) hq24)
      exact ⟨_, rfl, rfl, hb26⟩
    · have h23 : ¬ ((((¬ ((p.small 48) = true)) ∨ (¬ ((t.small 48) = true))) ∨ (((subCheck ss) : Int) ≠ (0 : Int))) ∨ ((100 : Int) < (((ss.length : Nat) : Int) : Int))) := by simpa using h23
      refine WC.skip ?_
      refine WE.next ?_
      refine WC.seq ?_
      refine WC.seq ?_
      refine WC.region ?_
      refine WL.val (.slice sa ss.length sc) rfl rfl rfl (fun za zC zh zk => wp_move rfl (zh.ev rfl) zk) ?_
      refine WL.val (.int .i64 (((ss.length : Nat) : Int))) rfl rfl rfl (fun za zC zh zk => len_26 rfl (zh.ev rfl) zk) ?_
      refine WL.val (.int .i64 0) rfl rfl rfl (fun za zC zh zk => wp_move rfl (zh.ev rfl) zk) ?_
      refine WL.nil (WE.sub (K' := [(0, .agg #[.int .i64 p.f, .slice pa0 p.args.length pc0]), (1, .agg #[.int .i64 t.f, .slice ta0 t.args.length tc0]), (2, .slice sa ss.length sc), (3, .pointer (some ⟨g2, 0, none⟩)), (4, .pointer (some ⟨g9, 0, none⟩)), (6, .bool false), (33, .bool (((((!(p.small 48)) || (!(t.small 48))) || (((subCheck ss) : Int) != (0 : Int))) || (decide ((100 : Int) < (((ss.length : Nat) : Int) : Int)))))), (36, .int .i64 (((ss.length : Nat) : Int))), (37, .int .i64 0)]) ⟨rfl, rfl, rfl, rfl, rfl, rfl, rfl, rfl, rfl, trivial⟩ ?_)
      refine WE.next ?_
      refine WC.block ?_
      refine WC.loop (X := Nat) (fun k => ss.length - k) (fun k => [(0, .agg #[.int .i64 p.f, .slice pa0 p.args.length pc0]), (1, .agg #[.int .i64 t.f, .slice ta0 t.args.length tc0]), (2, .slice sa ss.length sc), (3, .pointer (some ⟨g2, 0, none⟩)), (4, .pointer (some ⟨g9, 0, none⟩)), (33, .bool (((((!(p.small 48)) || (!(t.small 48))) || (((subCheck ss) : Int) != (0 : Int))) || (decide ((100 : Int) < (((ss.length : Nat) : Int) : Int)))))), (36, .int .i64 (((ss.length : Nat) : Int))), (37, .int .i64 (((k : Nat) : Int)))]) (fun k w27 => k ≤ ss.length ∧ (∀ i, i < k → (dget ss i).t.small 48 = true) ∧ Below w.heap.size w w27 ∧ Blk w27 g2 24 #[.int .i64 p.f, .slice pa0 p.args.length pc0] ∧ Blk w27 g9 24 #[.int .i64 t.f, .slice ta0 t.args.length tc0]) 0 ⟨rfl, rfl, rfl, rfl, rfl, rfl, rfl, rfl, trivial⟩ ?_ ?_
      · have hb28 : Below w.heap.size w w21 := (bstep hb17 hb22)
        have hB29 := hB16.below hb22
        have hB30 := hB11.below hb22
        exact ⟨Nat.zero_le _, fun i h => absurd h (Nat.not_lt_zero i), hb28, hB29, hB30⟩
      · rintro k w27 ⟨hk, hE, hb31, hB32, hB33⟩
        refine WC.seq ?_
        refine WC.region ?_
        refine WL.val (.bool ((decide ((((k : Nat) : Int) : Int) < (((ss.length : Nat) : Int) : Int))))) rfl rfl rfl (fun za zC zh zk => lss_3 rfl (zh.ev rfl) (zh.ev rfl) zk) ?_
        refine WL.nil (WE.sub (K' := [(0, .agg #[.int .i64 p.f, .slice pa0 p.args.length pc0]), (1, .agg #[.int .i64 t.f, .slice ta0 t.args.length tc0]), (2, .slice sa ss.length sc), (3, .pointer (some ⟨g2, 0, none⟩)), (4, .pointer (some ⟨g9, 0, none⟩)), (33, .bool (((((!(p.small 48)) || (!(t.small 48))) || (((subCheck ss) : Int) != (0 : Int))) || (decide ((100 : Int) < (((ss.length : Nat) : Int) : Int)))))), (36, .int .i64 (((ss.length : Nat) : Int))), (37, .int .i64 (((k : Nat) : Int))), (38, .bool ((decide ((((k : Nat) : Int) : Int) < (((ss.length : Nat) : Int) : Int)))))]) ⟨rfl, rfl, rfl, rfl, rfl, rfl, rfl, rfl, rfl, trivial⟩ ?_)
        refine WE.next ?_
        refine WC.seq ?_
        refine WC.cond rfl (fun h34 => ?_) (fun h34 => ?_)
        · have h34 : (((k : Nat) : Int) : Int) < (((ss.length : Nat) : Int) : Int) := by simpa using h34
          refine WC.skip ?_
          refine WE.next ?_
          refine WC.seq ?_
          refine WC.block ?_
          refine WC.seq ?_
          refine WC.region ?_
          refine WL.val (.int .i64 (((k : Nat) : Int))) rfl rfl rfl (fun za zC zh zk => wp_move rfl (zh.ev rfl) zk) ?_
          refine WL.val (.int .i64 (((k : Nat) : Int))) rfl rfl rfl (fun za zC zh zk => wp_assign rfl (zh.ev rfl) zk) ?_
          refine WL.nil (WE.sub (K' := [(0, .agg #[.int .i64 p.f, .slice pa0 p.args.length pc0]), (1, .agg #[.int .i64 t.f, .slice ta0 t.args.length tc0]), (2, .slice sa ss.length sc), (3, .pointer (some ⟨g2, 0, none⟩)), (4, .pointer (some ⟨g9, 0, none⟩)), (7, .int .i64 (((k : Nat) : Int))), (33, .bool (((((!(p.small 48)) || (!(t.small 48))) || (((subCheck ss) : Int) != (0 : Int))) || (decide ((100 : Int) < (((ss.length : Nat) : Int) : Int)))))), (36, .int .i64 (((ss.length : Nat) : Int))), (37, .int .i64 (((k : Nat) : Int))), (38, .bool ((decide ((((k : Nat) : Int) : Int) < (((ss.length : Nat) : Int) : Int)))))]) ⟨rfl, rfl, rfl, rfl, rfl, rfl, rfl, rfl, rfl, rfl, trivial⟩ ?_)
          refine WE.next ?_
          refine WC.seq ?_
          refine WC.region ?_
          refine WL.val (.slice sa ss.length sc) rfl rfl rfl (fun za zC zh zk => wp_move rfl (zh.ev rfl) zk) ?_
          refine WL.val (.int .i64 (((k : Nat) : Int))) rfl rfl rfl (fun za zC zh zk => wp_move rfl (zh.ev rfl) zk) ?_
          obtain ⟨b35, o36, A37, C38, ha39, hc40⟩ := InRow.openB hz.rows
          refine WL.val (.pointer (some ⟨b35, o36 + k * 3, none⟩)) rfl rfl rfl (fun za zC zh zk => ix_26 (k := k) rfl (zh.ev rfl) (ha39 k (by first | omega | (simp; omega))) (zh.ev rfl) (by first | omega | (simp; omega)) zk) ?_
          refine WL.val (.pointer (some ⟨b35, o36 + k * 3 + 1, none⟩)) rfl rfl rfl (fun za zC zh zk => fld_57_1 rfl (zh.ev rfl) zk) ?_
          refine WL.val (.agg #[.int .i64 ((dget ss k).t.f), .slice ((A37 k)) ((dget ss k).t.args.length) ((C38 k))]) rfl rfl rfl (fun za zC zh zk => ld_24 rfl (zh.ev rfl) (bkeeps hb31 _ _ (hc40 k (by first | omega | (simp; omega))).2.1) (bkeeps hb31 _ _ (hc40 k (by first | omega | (simp; omega))).2.2.1) zk) ?_
          refine WL.call rfl rfl rfl (fun za zh zC => wp_call (by kernel_rfl) rfl (hv2 (zh.ev rfl) (zh.ev rfl))) (rsmall_any ((dget ss k).t) 48 _ _ (by omega) (hz.parts _ (dget_mem (by omega))) (IsT.below hb31 (InT.isT (hc40 k (by first | omega | (simp; omega))).2.2.2.1))) ?_
          rintro _ w42 ⟨rfl, hq41⟩
          refine WL.val (.bool ((!(((dget ss k).t).small 48)))) rfl rfl rfl (fun za zC zh zk => wp_not rfl (zh.ev rfl) zk) ?_
          refine WL.nil (WE.sub (K' := [(0, .agg #[.int .i64 p.f, .slice pa0 p.args.length pc0]), (1, .agg #[.int .i64 t.f, .slice ta0 t.args.length tc0]), (2, .slice sa ss.length sc), (3, .pointer (some ⟨g2, 0, none⟩)), (4, .pointer (some ⟨g9, 0, none⟩)), (7, .int .i64 (((k : Nat) : Int))), (33, .bool (((((!(p.small 48)) || (!(t.small 48))) || (((subCheck ss) : Int) != (0 : Int))) || (decide ((100 : Int) < (((ss.length : Nat) : Int) : Int)))))), (36, .int .i64 (((ss.length : Nat) : Int))), (37, .int .i64 (((k : Nat) : Int))), (38, .bool ((decide ((((k : Nat) : Int) : Int) < (((ss.length : Nat) : Int) : Int))))), (46, .bool ((!(((dget ss k).t).small 48))))]) ⟨rfl, rfl, rfl, rfl, rfl, rfl, rfl, rfl, rfl, rfl, rfl, trivial⟩ ?_)
          refine WE.next ?_
          refine WC.cond rfl (fun h43 => ?_) (fun h43 => ?_)
          · have h43 : ¬ ((((dget ss k).t).small 48) = true) := by simpa using h43
            refine WC.seq ?_
            refine WC.region ?_
            refine WL.call rfl rfl rfl (fun za zh zC => wp_call (by kernel_rfl) rfl (hv0)) (wakes_any _) ?_
            rintro _ w45 ⟨rfl, hq44⟩
            refine WL.val (.bool true) rfl rfl rfl (fun za zC zh zk => wp_assign rfl (zh.ev rfl) zk) ?_
            refine WL.nil (WE.sub (K' := [(0, .agg #[.int .i64 p.f, .slice pa0 p.args.length pc0]), (1, .agg #[.int .i64 t.f, .slice ta0 t.args.length tc0]), (2, .slice sa ss.length sc), (3, .pointer (some ⟨g2, 0, none⟩)), (4, .pointer (some ⟨g9, 0, none⟩)), (6, .bool true), (7, .int .i64 (((k : Nat) : Int))), (33, .bool (((((!(p.small 48)) || (!(t.small 48))) || (((subCheck ss) : Int) != (0 : Int))) || (decide ((100 : Int) < (((ss.length : Nat) : Int) : Int)))))), (36, .int .i64 (((ss.length : Nat) : Int))), (37, .int .i64 (((k : Nat) : Int))), (38, .bool ((decide ((((k : Nat) : Int) : Int) < (((ss.length : Nat) : Int) : Int))))), (46, .bool ((!(((dget ss k).t).small 48))))]) ⟨rfl, rfl, rfl, rfl, rfl, rfl, rfl, rfl, rfl, rfl, rfl, rfl, trivial⟩ ?_)
            refine WE.next ?_
            refine WC.ret ?_
            refine WE.blockRet ?_
            refine WE.thenRet ?_
            refine WE.thenRet ?_
            refine WE.blockRet ?_
            refine WE.thenRet ?_
            refine WE.ret1 rfl rfl ?_
            have hb46 : Below w.heap.size w w45 := (bstep (bstep hb31 hq41) hq44)
            exact ⟨_, rfl, rfl, hb46⟩
          · have h43 : ¬ (¬ ((((dget ss k).t).small 48) = true)) := by simpa using h43
            refine WC.skip ?_
            refine WE.blockNormal ?_
            refine WE.next ?_
            refine WC.region ?_
            refine WL.val (.int .i64 ((((k + 1) : Nat) : Int))) rfl rfl rfl (fun za zC zh zk => addb_3 rfl (zh.ev rfl) (zh.ev rfl) (wrap_eq (by omega) (by omega) (by omega)) zk) ?_
            refine WL.val (.int .i64 ((((k + 1) : Nat) : Int))) rfl rfl rfl (fun za zC zh zk => wp_move rfl (zh.ev rfl) zk) ?_
            refine WL.nil (WE.sub (K' := [(0, .agg #[.int .i64 p.f, .slice pa0 p.args.length pc0]), (1, .agg #[.int .i64 t.f, .slice ta0 t.args.length tc0]), (2, .slice sa ss.length sc), (3, .pointer (some ⟨g2, 0, none⟩)), (4, .pointer (some ⟨g9, 0, none⟩)), (7, .int .i64 (((k : Nat) : Int))), (33, .bool (((((!(p.small 48)) || (!(t.small 48))) || (((subCheck ss) : Int) != (0 : Int))) || (decide ((100 : Int) < (((ss.length : Nat) : Int) : Int)))))), (36, .int .i64 (((ss.length : Nat) : Int))), (37, .int .i64 ((((k + 1) : Nat) : Int))), (38, .bool ((decide ((((k : Nat) : Int) : Int) < (((ss.length : Nat) : Int) : Int))))), (46, .bool ((!(((dget ss k).t).small 48))))]) ⟨rfl, rfl, rfl, rfl, rfl, rfl, rfl, rfl, rfl, rfl, rfl, trivial⟩ ?_)
            refine WE.round (k + 1) ⟨rfl, rfl, rfl, rfl, rfl, rfl, rfl, rfl, trivial⟩ ?_ ?_
            · have hb47 : Below w.heap.size w w42 := (bstep hb31 hq41)
              have hB48 := hB32.below hq41
              have hB49 := hB33.below hq41
              exact ⟨by omega, fun i hi => by rcases Nat.lt_or_ge i k with q | q; exact hE i q; (obtain rfl : i = k := by omega); simpa using h43, hb47, hB48, hB49⟩
            · omega
        · have h34 : ¬ ((((k : Nat) : Int) : Int) < (((ss.length : Nat) : Int) : Int)) := by simpa using h34
          refine WC.exit ?_
          refine WE.thenExit ?_
          refine WE.thenExit ?_
          refine WE.blockIs rfl ?_
          refine WE.next ?_
          refine WC.seq ?_
          refine WC.region ?_
          refine WL.val (.agg #[.int .i64 p.f, .slice pa0 p.args.length pc0]) rfl rfl rfl (fun za zC zh zk => ld_24 rfl (zh.ev rfl) ((hB32.cell 0).trans rfl) ((hB32.cell 1).trans rfl) zk) ?_
          refine WL.val (.agg #[.int .i64 t.f, .slice ta0 t.args.length tc0]) rfl rfl rfl (fun za zC zh zk => ld_24 rfl (zh.ev rfl) ((hB33.cell 0).trans rfl) ((hB33.cell 1).trans rfl) zk) ?_
          have hps : p.small 48 = true := by have z := h23; simp at z; exact z.1.1.1
          have hzs : ∀ b ∈ ss, b.t.size ≤ 300 := fun b hb => by
            obtain ⟨i, hi, rfl⟩ := List.getElem_of_mem hb
            have z1 := small_size (hE i (by omega))
            rwa [dget_lt hi] at z1
          have hp3 := small_size hps
          refine WL.call rfl rfl rfl (fun za zh zC => wp_call (by kernel_rfl) rfl (hv2 (zh.ev rfl) (zh.ev rfl))) (match_any p t _ _ _ (IsT.below hb31 hp) (IsT.below hb31 ht) hzp hzt) ?_
          rintro v53 w50 ⟨hm51, hb52⟩
          unfold MatchIs at hm51
          rcases Classical.em (mOk p t [] = true) with hok54 | hok54
          · rw [if_pos hok54] at hm51
            obtain ⟨R1, p1, k1, rfl, hR1, hN1⟩ := hm51
            have hS1 := subOf_isSub hR1 hN1 hzp hzt
            refine WL.val (.tuple #[.slice p1 R1.length k1, .bool true]) rfl rfl rfl (fun za zC zh zk => wp_move rfl (zh.ev rfl) zk) ?_
            refine WL.val (.slice p1 R1.length k1) rfl rfl rfl (fun za zC zh zk => ext2_0 rfl (zh.ev rfl) zk) ?_
            refine WL.val (.bool true) rfl rfl rfl (fun za zC zh zk => ext2_1 rfl (zh.ev rfl) zk) ?_
            refine WL.val (.slice p1 R1.length k1) rfl rfl rfl (fun za zC zh zk => wp_assign rfl (zh.ev rfl) zk) ?_
            refine WL.val (.bool true) rfl rfl rfl (fun za zC zh zk => wp_assign rfl (zh.ev rfl) zk) ?_
            refine WL.nil (WE.sub (K' := [(0, .agg #[.int .i64 p.f, .slice pa0 p.args.length pc0]), (1, .agg #[.int .i64 t.f, .slice ta0 t.args.length tc0]), (2, .slice sa ss.length sc), (3, .pointer (some ⟨g2, 0, none⟩)), (4, .pointer (some ⟨g9, 0, none⟩)), (8, .slice p1 R1.length k1), (9, .bool true), (33, .bool (((((!(p.small 48)) || (!(t.small 48))) || (((subCheck ss) : Int) != (0 : Int))) || (decide ((100 : Int) < (((ss.length : Nat) : Int) : Int)))))), (36, .int .i64 (((ss.length : Nat) : Int))), (37, .int .i64 (((k : Nat) : Int))), (38, .bool ((decide ((((k : Nat) : Int) : Int) < (((ss.length : Nat) : Int) : Int)))))]) ⟨rfl, rfl, rfl, rfl, rfl, rfl, rfl, rfl, rfl, rfl, rfl, trivial⟩ ?_)
            refine WE.next ?_
            refine WC.seq ?_
            refine WC.seq ?_
            have hB55 := hB32.below hb52
            have hb56 : Below w.heap.size w w50 := (bstep hb31 hb52)
            have hB57 := hB33.below hb52
            refine WC.opt [(true, .val (.bool true)), (true, .val (.bool true)), ((true && true), .val (.slice p1 R1.length k1)), ((true && true), .val (.agg #[.int .i64 p.f, .slice pa0 p.args.length pc0])), ((true && true), .mem (fun v w' => IsT w' (p.app R1) v) (fun v w w' hb h => IsT.below hb h)), ((true && true), .val (.agg #[.int .i64 t.f, .slice ta0 t.args.length tc0])), ((true && true), .val (.bool ((T.same (p.app R1) t)))), ((true && true), .val (.bool ((!(T.same (p.app R1) t))))), (true, .val (.bool ((!(T.same (p.app R1) t)))))] [(0, .agg #[.int .i64 p.f, .slice pa0 p.args.length pc0]), (1, .agg #[.int .i64 t.f, .slice ta0 t.args.length tc0]), (2, .slice sa ss.length sc), (3, .pointer (some ⟨g2, 0, none⟩)), (4, .pointer (some ⟨g9, 0, none⟩)), (8, .slice p1 R1.length k1), (9, .bool true), (33, .bool (((((!(p.small 48)) || (!(t.small 48))) || (((subCheck ss) : Int) != (0 : Int))) || (decide ((100 : Int) < (((ss.length : Nat) : Int) : Int)))))), (36, .int .i64 (((ss.length : Nat) : Int))), (37, .int .i64 (((k : Nat) : Int))), (38, .bool ((decide ((((k : Nat) : Int) : Int) < (((ss.length : Nat) : Int) : Int)))))] ⟨rfl, rfl, rfl, rfl, rfl, rfl, rfl, rfl, rfl, rfl, rfl, trivial⟩ (by kernel_rfl) (by kernel_rfl) (by kernel_rfl) ?_ ?_
            · refine ⟨⟨true, .none rfl, fun h w => optUndef h, fun zβ za zw zc => ?_⟩, ?_⟩
              · exact wp_move rfl (zc.kn.ev rfl) ⟨_, rfl, Below.refl _ _, optDef zβ rfl⟩
              refine ⟨⟨true, .none rfl, fun h w => optUndef h, fun zβ za zw zc => ?_⟩, ?_⟩
              · exact wp_move rfl ((show za.eval (.tmp 55) = za.tmps.getD 55 undef from rfl).trans (optVal (zc.dep 0 55 (by kernel_rfl)) rfl rfl)) ⟨_, rfl, Below.refl _ _, optDef zβ rfl⟩
              refine ⟨⟨(true && true), .yes (c := true) (d := true) rfl (fun v w h => h), fun h w => optUndef h, fun zβ za zw zc => ?_⟩, ?_⟩
              · exact wp_move rfl (zc.kn.ev rfl) ⟨_, rfl, Below.refl _ _, optDef zβ rfl⟩
              refine ⟨⟨(true && true), .yes (c := true) (d := true) rfl (fun v w h => h), fun h w => optUndef h, fun zβ za zw zc => ?_⟩, ?_⟩
              · exact ld_24 rfl (zc.kn.ev rfl) (bkeeps zc.below _ _ ((hB55.cell 0).trans rfl)) (bkeeps zc.below _ _ ((hB55.cell 1).trans rfl)) ⟨_, rfl, Below.refl _ _, optDef zβ rfl⟩
              refine ⟨⟨(true && true), .yes (c := true) (d := true) rfl (fun v w h => h), fun h w => optUndef h, fun zβ za zw zc => ?_⟩, ?_⟩
              · exact wp_call (by kernel_rfl) rfl (hv2 ((show za.eval (.tmp 57) = za.tmps.getD 57 undef from rfl).trans (optVal (zc.dep 2 57 (by kernel_rfl)) rfl rfl)) ((show za.eval (.tmp 58) = za.tmps.getD 58 undef from rfl).trans (optVal (zc.dep 3 58 (by kernel_rfl)) rfl rfl))) (apply_any R1 p _ _ _ _ hzp (IsT.below (bstep hb56 zc.below) hp) (hS1.below zc.below)) (fun v w' h => ⟨v, rfl, h.2, optDef zβ (InT.isT h.1)⟩)
              refine ⟨⟨(true && true), .yes (c := true) (d := true) rfl (fun v w h => h), fun h w => optUndef h, fun zβ za zw zc => ?_⟩, ?_⟩
              · exact ld_24 rfl (zc.kn.ev rfl) (bkeeps zc.below _ _ ((hB57.cell 0).trans rfl)) (bkeeps zc.below _ _ ((hB57.cell 1).trans rfl)) ⟨_, rfl, Below.refl _ _, optDef zβ rfl⟩
              refine ⟨⟨(true && true), .yes (c := true) (d := true) rfl (fun v w h => h), fun h w => optUndef h, fun zβ za zw zc => ?_⟩, ?_⟩
              · exact wp_call (by kernel_rfl) rfl (hv2 (show za.eval (.tmp 59) = za.tmps.getD 59 undef from rfl) ((show za.eval (.tmp 60) = za.tmps.getD 60 undef from rfl).trans (optVal (zc.dep 5 60 (by kernel_rfl)) rfl rfl))) (ret_of (rsame_any (p.app R1) t _ _ _ (optMem (zc.dep 4 59 (by kernel_rfl)) rfl rfl) (IsT.below (bstep hb56 zc.below) ht))) (fun v w' h => ⟨v, rfl, h.2, optDef zβ h.1⟩)
              refine ⟨⟨(true && true), .yes (c := true) (d := true) rfl (fun v w h => h), fun h w => optUndef h, fun zβ za zw zc => ?_⟩, ?_⟩
              · exact wp_not rfl ((show za.eval (.tmp 61) = za.tmps.getD 61 undef from rfl).trans (optVal (zc.dep 6 61 (by kernel_rfl)) rfl rfl)) ⟨_, rfl, Below.refl _ _, optDef zβ rfl⟩
              refine ⟨⟨true, .none rfl, fun h w => optUndef h, fun zβ za zw zc => ?_⟩, ?_⟩
              · exact wp_pickT rfl ((show za.eval (.tmp 56) = za.tmps.getD 56 undef from rfl).trans (optVal (zc.dep 1 56 (by kernel_rfl)) rfl rfl)) ((show za.eval (.tmp 62) = za.tmps.getD 62 undef from rfl).trans (optVal (zc.dep 7 62 (by kernel_rfl)) rfl rfl)) ⟨_, rfl, Below.refl _ _, optDef zβ rfl⟩
              exact trivial
            · intro za w58 zh hb59 zu
              have zh := zh.cons (d := 63) (v := .bool ((!(T.same (p.app R1) t)))) (optVal (zu 8 63 (by kernel_rfl)) rfl rfl)
              clear zu
              refine (show WE _ [(0, .agg #[.int .i64 p.f, .slice pa0 p.args.length pc0]), (1, .agg #[.int .i64 t.f, .slice ta0 t.args.length tc0]), (2, .slice sa ss.length sc), (3, .pointer (some ⟨g2, 0, none⟩)), (4, .pointer (some ⟨g9, 0, none⟩)), (8, .slice p1 R1.length k1), (9, .bool true), (33, .bool (((((!(p.small 48)) || (!(t.small 48))) || (((subCheck ss) : Int) != (0 : Int))) || (decide ((100 : Int) < (((ss.length : Nat) : Int) : Int)))))), (36, .int .i64 (((ss.length : Nat) : Int))), (37, .int .i64 (((k : Nat) : Int))), (38, .bool ((decide ((((k : Nat) : Int) : Int) < (((ss.length : Nat) : Int) : Int))))), (63, .bool ((!(T.same (p.app R1) t))))] w58 _ .normal from ?_) za (zh.sub ⟨rfl, rfl, rfl, rfl, rfl, rfl, rfl, rfl, rfl, rfl, rfl, rfl, trivial⟩)
              refine WE.next ?_
              refine WC.cond rfl (fun h60 => ?_) (fun h60 => ?_)
              · have h60 : ¬ ((T.same (p.app R1) t) = true) := by simpa using h60
                exfalso
                have e9 := makes_one hok54 hR1
                rw [e9, T.same_refl] at h60
                simp at h60
              · have h60 : ¬ (¬ ((T.same (p.app R1) t) = true)) := by simpa using h60
                refine WC.skip ?_
                refine WE.next ?_
                refine WC.seq ?_
                refine WC.region ?_
                refine WL.val (.slice sa ss.length sc) rfl rfl rfl (fun za zC zh zk => wp_move rfl (zh.ev rfl) zk) ?_
                have hB61 := hB55.below hb59
                refine WL.val (.agg #[.int .i64 p.f, .slice pa0 p.args.length pc0]) rfl rfl rfl (fun za zC zh zk => ld_24 rfl (zh.ev rfl) ((hB61.cell 0).trans rfl) ((hB61.cell 1).trans rfl) zk) ?_
                have hb62 : Below w.heap.size w w58 := (bstep hb56 hb59)
                have hl66 : g2 < w58.heap.size := by have z1 := hB61.lt; omega
                have hl67 : g9 < w58.heap.size := by have z1 := hB57.lt; have z2 := (hb59).size; omega
                have hl68 : w.heap.size ≤ w58.heap.size := (hb62).size
                have hl69 : w50.heap.size ≤ w58.heap.size := (hb59).size
                refine WL.call rfl rfl rfl (fun za zh zC => wp_call (by kernel_rfl) rfl (hv2 (zh.ev rfl) (zh.ev rfl))) (rapply_any ss _ _ p _ _ hzp (IsT.below hb62 hp) (hz.below hb62)) ?_
                rintro v63 w70 ⟨hn64, hb65⟩
                obtain ⟨_, a71, c72, rfl, _, _, _⟩ := hn64.form
                refine WL.step (post := NewBlk w70 24 #[.int .i64 0, .slice none 0 0]) rfl rfl rfl (fun za zC zh zk => alloc_24 rfl (zk _ _ (newBlk _ _ _))) ?_
                rintro _ w73 ⟨g74, rfl, hg75, hB76, hb77, hz78⟩
                have hl79 : g2 < g74 := by have z1 := hB61.lt; have z2 := (hb65).size; omega
                have hb80 : Below w50.heap.size w50 w70 := (bstep hb59 hb65)
                have hl81 : g9 < g74 := by have z1 := hB57.lt; have z2 := (hb80).size; omega
                have hb82 : Below w.heap.size w w70 := (bstep hb56 hb80)
                have hl83 : w.heap.size ≤ g74 := by have z2 := (hb82).size; omega
                have hl84 : w50.heap.size ≤ g74 := by have z2 := (hb80).size; omega
                have hl85 : w70.heap.size ≤ g74 := by omega
                refine WL.step (post := fun _ w' => Upd g74 w73 w' ∧ Blk w' g74 24 #[.int .i64 ((p.app ss).f), .slice a71 ((p.app ss).args.length) c72]) rfl rfl rfl (fun za zC zh zk => st_24 rfl (zh.ev rfl) (zh.ev rfl) rfl rfl hB76 (by first | decide | simp) (fun v => zk v _ ⟨(Upd.at_ _ _ _ _).trans (Upd.at_ _ _ _ _), (hB76.set_ 0 _).set_ 1 _⟩)) ?_
                rintro v89 w86 ⟨hu87, hB88⟩
                have hb90 : Below w.heap.size w w73 := (bstep hb82 hb77)
                have hb91 : Below w50.heap.size w50 w73 := (bstep hb80 hb77)
                have hb92 := upd_below hb90 hu87 (by omega)
                have hb93 := upd_below hb91 hu87 (by omega)
                have hb94 := upd_below hb77 hu87 (by omega)
                have hb96 : Below w58.heap.size w58 w73 := (bstep hb65 hb77)
                have hB95 := hB61.below hb96
                have hB97 := upd_blk hB95 hu87 (by omega)
                have hB98 := hB57.below hb91
                have hB99 := upd_blk hB98 hu87 (by omega)
                refine WL.nil (WE.sub (K' := [(0, .agg #[.int .i64 p.f, .slice pa0 p.args.length pc0]), (1, .agg #[.int .i64 t.f, .slice ta0 t.args.length tc0]), (2, .slice sa ss.length sc), (3, .pointer (some ⟨g2, 0, none⟩)), (4, .pointer (some ⟨g9, 0, none⟩)), (8, .slice p1 R1.length k1), (9, .bool true), (10, .pointer (some ⟨g74, 0, none⟩)), (33, .bool (((((!(p.small 48)) || (!(t.small 48))) || (((subCheck ss) : Int) != (0 : Int))) || (decide ((100 : Int) < (((ss.length : Nat) : Int) : Int)))))), (36, .int .i64 (((ss.length : Nat) : Int))), (37, .int .i64 (((k : Nat) : Int))), (38, .bool ((decide ((((k : Nat) : Int) : Int) < (((ss.length : Nat) : Int) : Int))))), (63, .bool ((!(T.same (p.app R1) t))))]) ⟨rfl, rfl, rfl, rfl, rfl, rfl, rfl, rfl, rfl, rfl, rfl, rfl, rfl, trivial⟩ ?_)
                refine WE.next ?_
                refine WC.seq ?_
                have hxz9 : (p.app ss).size ≤ 4294967296 := by have z1 := T.app_size (B := 300) (by omega) hzs p; have z2 := Nat.mul_le_mul_right 300 hp3; omega
                refine WC.region ?_
                refine WL.val (.agg #[.int .i64 p.f, .slice pa0 p.args.length pc0]) rfl rfl rfl (fun za zC zh zk => ld_24 rfl (zh.ev rfl) ((hB97.cell 0).trans rfl) ((hB97.cell 1).trans rfl) zk) ?_
                refine WL.val (.agg #[.int .i64 ((p.app ss).f), .slice a71 ((p.app ss).args.length) c72]) rfl rfl rfl (fun za zC zh zk => ld_24 rfl (zh.ev rfl) ((hB88.cell 0).trans rfl) ((hB88.cell 1).trans rfl) zk) ?_
                have ho105 := hn64.below hb94
                refine WL.call rfl rfl rfl (fun za zh zC => wp_call (by kernel_rfl) rfl (hv2 (zh.ev rfl) (zh.ev rfl))) (match_any p (p.app ss) _ _ _ (IsT.below hb92 hp) (IsT.below (Below.refl _ _) (InT.isT ho105)) hzp hxz9) ?_
                rintro v103 w100 ⟨hm101, hb102⟩
                unfold MatchIs at hm101
                rcases Classical.em (mOk p (p.app ss) [] = true) with hok104 | hok104
                · rw [if_pos hok104] at hm101
                  obtain ⟨R2, p2, k2, rfl, hR2, hN2⟩ := hm101
                  have hS2 := subOf_isSub hR2 hN2 hzp hxz9
                  refine WL.val (.tuple #[.slice p2 R2.length k2, .bool true]) rfl rfl rfl (fun za zC zh zk => wp_move rfl (zh.ev rfl) zk) ?_
                  refine WL.val (.slice p2 R2.length k2) rfl rfl rfl (fun za zC zh zk => ext2_0 rfl (zh.ev rfl) zk) ?_
                  refine WL.val (.bool true) rfl rfl rfl (fun za zC zh zk => ext2_1 rfl (zh.ev rfl) zk) ?_
                  refine WL.val (.slice p2 R2.length k2) rfl rfl rfl (fun za zC zh zk => wp_assign rfl (zh.ev rfl) zk) ?_
                  refine WL.val (.bool true) rfl rfl rfl (fun za zC zh zk => wp_assign rfl (zh.ev rfl) zk) ?_
                  refine WL.nil (WE.sub (K' := [(0, .agg #[.int .i64 p.f, .slice pa0 p.args.length pc0]), (1, .agg #[.int .i64 t.f, .slice ta0 t.args.length tc0]), (2, .slice sa ss.length sc), (3, .pointer (some ⟨g2, 0, none⟩)), (4, .pointer (some ⟨g9, 0, none⟩)), (8, .slice p1 R1.length k1), (9, .bool true), (10, .pointer (some ⟨g74, 0, none⟩)), (11, .slice p2 R2.length k2), (12, .bool true), (33, .bool (((((!(p.small 48)) || (!(t.small 48))) || (((subCheck ss) : Int) != (0 : Int))) || (decide ((100 : Int) < (((ss.length : Nat) : Int) : Int)))))), (36, .int .i64 (((ss.length : Nat) : Int))), (37, .int .i64 (((k : Nat) : Int))), (38, .bool ((decide ((((k : Nat) : Int) : Int) < (((ss.length : Nat) : Int) : Int))))), (63, .bool ((!(T.same (p.app R1) t))))]) ⟨rfl, rfl, rfl, rfl, rfl, rfl, rfl, rfl, rfl, rfl, rfl, rfl, rfl, rfl, rfl, trivial⟩ ?_)
                  refine WE.next ?_
                  refine WC.seq ?_
                  refine WC.seq ?_
                  refine WC.region ?_
                  have hB106 := hB88.below hb102
                  refine WL.val (.agg #[.int .i64 ((p.app ss).f), .slice a71 ((p.app ss).args.length) c72]) rfl rfl rfl (fun za zC zh zk => ld_24 rfl (zh.ev rfl) ((hB106.cell 0).trans rfl) ((hB106.cell 1).trans rfl) zk) ?_
                  have ho107 := ho105.below hb102
                  refine WL.call rfl rfl rfl (fun za zh zC => wp_call (by kernel_rfl) rfl (hv2 (zh.ev rfl) (zh.ev rfl))) (rsmall_any (p.app ss) 48 _ _ (by omega) hxz9 (IsT.below (Below.refl _ _) (InT.isT ho107))) ?_
                  rintro _ w109 ⟨rfl, hq108⟩
                  refine WL.val (.bool ((!((p.app ss).small 48)))) rfl rfl rfl (fun za zC zh zk => wp_not rfl (zh.ev rfl) zk) ?_
                  refine WL.nil (WE.sub (K' := [(0, .agg #[.int .i64 p.f, .slice pa0 p.args.length pc0]), (1, .agg #[.int .i64 t.f, .slice ta0 t.args.length tc0]), (2, .slice sa ss.length sc), (3, .pointer (some ⟨g2, 0, none⟩)), (4, .pointer (some ⟨g9, 0, none⟩)), (8, .slice p1 R1.length k1), (9, .bool true), (10, .pointer (some ⟨g74, 0, none⟩)), (11, .slice p2 R2.length k2), (12, .bool true), (33, .bool (((((!(p.small 48)) || (!(t.small 48))) || (((subCheck ss) : Int) != (0 : Int))) || (decide ((100 : Int) < (((ss.length : Nat) : Int) : Int)))))), (36, .int .i64 (((ss.length : Nat) : Int))), (37, .int .i64 (((k : Nat) : Int))), (38, .bool ((decide ((((k : Nat) : Int) : Int) < (((ss.length : Nat) : Int) : Int))))), (63, .bool ((!(T.same (p.app R1) t)))), (75, .bool ((!((p.app ss).small 48))))]) ⟨rfl, rfl, rfl, rfl, rfl, rfl, rfl, rfl, rfl, rfl, rfl, rfl, rfl, rfl, rfl, rfl, trivial⟩ ?_)
                  refine WE.next ?_
                  refine WC.cond rfl (fun h110 => ?_) (fun h110 => ?_)
                  · have h110 : ¬ (((p.app ss).small 48) = true) := by simpa using h110
                    refine WC.seq ?_
                    refine WC.region ?_
                    refine WL.call rfl rfl rfl (fun za zh zC => wp_call (by kernel_rfl) rfl (hv0)) (wakes_any _) ?_
                    rintro _ w112 ⟨rfl, hq111⟩
                    refine WL.val (.bool true) rfl rfl rfl (fun za zC zh zk => wp_assign rfl (zh.ev rfl) zk) ?_
                    refine WL.nil (WE.sub (K' := [(0, .agg #[.int .i64 p.f, .slice pa0 p.args.length pc0]), (1, .agg #[.int .i64 t.f, .slice ta0 t.args.length tc0]), (2, .slice sa ss.length sc), (3, .pointer (some ⟨g2, 0, none⟩)), (4, .pointer (some ⟨g9, 0, none⟩)), (6, .bool true), (8, .slice p1 R1.length k1), (9, .bool true), (10, .pointer (some ⟨g74, 0, none⟩)), (11, .slice p2 R2.length k2), (12, .bool true), (33, .bool (((((!(p.small 48)) || (!(t.small 48))) || (((subCheck ss) : Int) != (0 : Int))) || (decide ((100 : Int) < (((ss.length : Nat) : Int) : Int)))))), (36, .int .i64 (((ss.length : Nat) : Int))), (37, .int .i64 (((k : Nat) : Int))), (38, .bool ((decide ((((k : Nat) : Int) : Int) < (((ss.length : Nat) : Int) : Int))))), (63, .bool ((!(T.same (p.app R1) t)))), (75, .bool ((!((p.app ss).small 48))))]) ⟨rfl, rfl, rfl, rfl, rfl, rfl, rfl, rfl, rfl, rfl, rfl, rfl, rfl, rfl, rfl, rfl, rfl, trivial⟩ ?_)
                    refine WE.next ?_
                    refine WC.ret ?_
                    refine WE.thenRet ?_
                    refine WE.ret1 rfl rfl ?_
                    have hb113 : Below w.heap.size w w112 := (bstep (bstep (bstep hb92 hb102) hq108) hq111)
                    exact ⟨_, rfl, rfl, hb113⟩
                  · have h110 : ¬ (¬ (((p.app ss).small 48) = true)) := by simpa using h110
                    have hxs : (p.app ss).small 48 = true := by simpa using h110
                    refine WC.skip ?_
                    refine WE.next ?_
                    refine WC.seq ?_
                    refine WC.region ?_
                    have hb115 : Below w86.heap.size w86 w109 := (bstep hb102 hq108)
                    have hB114 := hB97.below hb115
                    refine WL.val (.agg #[.int .i64 p.f, .slice pa0 p.args.length pc0]) rfl rfl rfl (fun za zC zh zk => ld_24 rfl (zh.ev rfl) ((hB114.cell 0).trans rfl) ((hB114.cell 1).trans rfl) zk) ?_
                    have hb117 : Below w.heap.size w w109 := (bstep hb92 hb115)
                    refine WL.call rfl rfl rfl (fun za zh zC => wp_call (by kernel_rfl) rfl (hv1 (zh.ev rfl))) (vars_any p _ _ hzp (IsT.below hb117 hp)) ?_
                    rintro _ w118 ⟨⟨V, va, vc, rfl, hV, hvv, hvl⟩, hb116⟩
                    refine WL.val (.slice va V.length vc) rfl rfl rfl (fun za zC zh zk => wp_assign rfl (zh.ev rfl) zk) ?_
                    refine WL.nil (WE.sub (K' := [(0, .agg #[.int .i64 p.f, .slice pa0 p.args.length pc0]), (1, .agg #[.int .i64 t.f, .slice ta0 t.args.length tc0]), (2, .slice sa ss.length sc), (3, .pointer (some ⟨g2, 0, none⟩)), (4, .pointer (some ⟨g9, 0, none⟩)), (8, .slice p1 R1.length k1), (9, .bool true), (10, .pointer (some ⟨g74, 0, none⟩)), (11, .slice p2 R2.length k2), (12, .bool true), (13, .slice va V.length vc), (33, .bool (((((!(p.small 48)) || (!(t.small 48))) || (((subCheck ss) : Int) != (0 : Int))) || (decide ((100 : Int) < (((ss.length : Nat) : Int) : Int)))))), (36, .int .i64 (((ss.length : Nat) : Int))), (37, .int .i64 (((k : Nat) : Int))), (38, .bool ((decide ((((k : Nat) : Int) : Int) < (((ss.length : Nat) : Int) : Int))))), (63, .bool ((!(T.same (p.app R1) t)))), (75, .bool ((!((p.app ss).small 48))))]) ⟨rfl, rfl, rfl, rfl, rfl, rfl, rfl, rfl, rfl, rfl, rfl, rfl, rfl, rfl, rfl, rfl, rfl, trivial⟩ ?_)
                    refine WE.next ?_
                    refine WC.seq ?_
                    refine WC.seq ?_
                    refine WC.region ?_
                    refine WL.val (.slice va V.length vc) rfl rfl rfl (fun za zC zh zk => wp_move rfl (zh.ev rfl) zk) ?_
                    refine WL.val (.int .i64 (((V.length : Nat) : Int))) rfl rfl rfl (fun za zC zh zk => len_59 rfl (zh.ev rfl) zk) ?_
                    refine WL.val (.int .i64 0) rfl rfl rfl (fun za zC zh zk => wp_move rfl (zh.ev rfl) zk) ?_
                    refine WL.nil (WE.sub (K' := [(0, .agg #[.int .i64 p.f, .slice pa0 p.args.length pc0]), (1, .agg #[.int .i64 t.f, .slice ta0 t.args.length tc0]), (2, .slice sa ss.length sc), (3, .pointer (some ⟨g2, 0, none⟩)), (4, .pointer (some ⟨g9, 0, none⟩)), (8, .slice p1 R1.length k1), (9, .bool true), (10, .pointer (some ⟨g74, 0, none⟩)), (11, .slice p2 R2.length k2), (12, .bool true), (13, .slice va V.length vc), (33, .bool (((((!(p.small 48)) || (!(t.small 48))) || (((subCheck ss) : Int) != (0 : Int))) || (decide ((100 : Int) < (((ss.length : Nat) : Int) : Int)))))), (36, .int .i64 (((ss.length : Nat) : Int))), (37, .int .i64 (((k : Nat) : Int))), (38, .bool ((decide ((((k : Nat) : Int) : Int) < (((ss.length : Nat) : Int) : Int))))), (63, .bool ((!(T.same (p.app R1) t)))), (75, .bool ((!((p.app ss).small 48)))), (80, .int .i64 (((V.length : Nat) : Int))), (81, .int .i64 0)]) ⟨rfl, rfl, rfl, rfl, rfl, rfl, rfl, rfl, rfl, rfl, rfl, rfl, rfl, rfl, rfl, rfl, rfl, rfl, rfl, trivial⟩ ?_)
                    refine WE.next ?_
                    refine WC.block ?_
                    refine WC.loop (X := Nat) (fun i => V.length - i) (fun i => [(0, .agg #[.int .i64 p.f, .slice pa0 p.args.length pc0]), (1, .agg #[.int .i64 t.f, .slice ta0 t.args.length tc0]), (2, .slice sa ss.length sc), (3, .pointer (some ⟨g2, 0, none⟩)), (4, .pointer (some ⟨g9, 0, none⟩)), (8, .slice p1 R1.length k1), (9, .bool true), (10, .pointer (some ⟨g74, 0, none⟩)), (11, .slice p2 R2.length k2), (12, .bool true), (13, .slice va V.length vc), (33, .bool (((((!(p.small 48)) || (!(t.small 48))) || (((subCheck ss) : Int) != (0 : Int))) || (decide ((100 : Int) < (((ss.length : Nat) : Int) : Int)))))), (36, .int .i64 (((ss.length : Nat) : Int))), (37, .int .i64 (((k : Nat) : Int))), (38, .bool ((decide ((((k : Nat) : Int) : Int) < (((ss.length : Nat) : Int) : Int))))), (63, .bool ((!(T.same (p.app R1) t)))), (75, .bool ((!((p.app ss).small 48)))), (80, .int .i64 (((V.length : Nat) : Int))), (81, .int .i64 (((i : Nat) : Int)))]) (fun i w119 => i ≤ V.length ∧ Below w.heap.size w w119 ∧ Below w50.heap.size w50 w119 ∧ Below w100.heap.size w100 w119 ∧ Below w118.heap.size w118 w119 ∧ Blk w119 g2 24 #[.int .i64 p.f, .slice pa0 p.args.length pc0] ∧ Blk w119 g9 24 #[.int .i64 t.f, .slice ta0 t.args.length tc0] ∧ Blk w119 g74 24 #[.int .i64 ((p.app ss).f), .slice a71 ((p.app ss).args.length) c72] ∧ NewT w58 (w119) (p.app ss) (.agg #[.int .i64 ((p.app ss).f), .slice a71 ((p.app ss).args.length) c72])) 0 ⟨rfl, rfl, rfl, rfl, rfl, rfl, rfl, rfl, rfl, rfl, rfl, rfl, rfl, rfl, rfl, rfl, rfl, rfl, rfl, trivial⟩ ?_ ?_
                    · have hb120 : Below w.heap.size w w118 := (bstep hb117 hb116)
                      have hb121 : Below w50.heap.size w50 w118 := (bstep (bstep hb93 hb115) hb116)
                      have hb122 : Below w100.heap.size w100 w118 := (bstep hq108 hb116)
                      have hB123 := hB114.below hb116
                      have hb125 : Below w86.heap.size w86 w118 := (bstep hb102 hb122)
                      have hB124 := hB99.below hb125
                      have hB126 := hB106.below hb122
                      have ho127 := ho107.below hb122
                      exact ⟨Nat.zero_le _, hb120, hb121, hb122, (Below.refl _ _), hB123, hB124, hB126, ho127⟩
                    · rintro i w119 ⟨hi, hb128, hb129, hb130, hb131, hB132, hB133, hB134, ho135⟩
                      refine WC.seq ?_
                      refine WC.region ?_
                      refine WL.val (.bool ((decide ((((i : Nat) : Int) : Int) < (((V.length : Nat) : Int) : Int))))) rfl rfl rfl (fun za zC zh zk => lss_3 rfl (zh.ev rfl) (zh.ev rfl) zk) ?_
                      refine WL.nil (WE.sub (K' := [(0, .agg #[.int .i64 p.f, .slice pa0 p.args.length pc0]), (1, .agg #[.int .i64 t.f, .slice ta0 t.args.length tc0]), (2, .slice sa ss.length sc), (3, .pointer (some ⟨g2, 0, none⟩)), (4, .pointer (some ⟨g9, 0, none⟩)), (8, .slice p1 R1.length k1), (9, .bool true), (10, .pointer (some ⟨g74, 0, none⟩)), (11, .slice p2 R2.length k2), (12, .bool true), (13, .slice va V.length vc), (33, .bool (((((!(p.small 48)) || (!(t.small 48))) || (((subCheck ss) : Int) != (0 : Int))) || (decide ((100 : Int) < (((ss.length : Nat) : Int) : Int)))))), (36, .int .i64 (((ss.length : Nat) : Int))), (37, .int .i64 (((k : Nat) : Int))), (38, .bool ((decide ((((k : Nat) : Int) : Int) < (((ss.length : Nat) : Int) : Int))))), (63, .bool ((!(T.same (p.app R1) t)))), (75, .bool ((!((p.app ss).small 48)))), (80, .int .i64 (((V.length : Nat) : Int))), (81, .int .i64 (((i : Nat) : Int))), (82, .bool ((decide ((((i : Nat) : Int) : Int) < (((V.length : Nat) : Int) : Int)))))]) ⟨rfl, rfl, rfl, rfl, rfl, rfl, rfl, rfl, rfl, rfl, rfl, rfl, rfl, rfl, rfl, rfl, rfl, rfl, rfl, rfl, trivial⟩ ?_)
                      refine WE.next ?_
                      refine WC.seq ?_
                      refine WC.cond rfl (fun h136 => ?_) (fun h136 => ?_)
                      · have h136 : (((i : Nat) : Int) : Int) < (((V.length : Nat) : Int) : Int) := by simpa using h136
                        refine WC.skip ?_
                        refine WE.next ?_
                        refine WC.seq ?_
                        refine WC.block ?_
                        refine WC.seq ?_
                        refine WC.region ?_
                        refine WL.val (.int .i64 (((i : Nat) : Int))) rfl rfl rfl (fun za zC zh zk => wp_move rfl (zh.ev rfl) zk) ?_
                        refine WL.val (.int .i64 (((i : Nat) : Int))) rfl rfl rfl (fun za zC zh zk => wp_assign rfl (zh.ev rfl) zk) ?_
                        refine WL.nil (WE.sub (K' := [(0, .agg #[.int .i64 p.f, .slice pa0 p.args.length pc0]), (1, .agg #[.int .i64 t.f, .slice ta0 t.args.length tc0]), (2, .slice sa ss.length sc), (3, .pointer (some ⟨g2, 0, none⟩)), (4, .pointer (some ⟨g9, 0, none⟩)), (8, .slice p1 R1.length k1), (9, .bool true), (10, .pointer (some ⟨g74, 0, none⟩)), (11, .slice p2 R2.length k2), (12, .bool true), (13, .slice va V.length vc), (14, .int .i64 (((i : Nat) : Int))), (33, .bool (((((!(p.small 48)) || (!(t.small 48))) || (((subCheck ss) : Int) != (0 : Int))) || (decide ((100 : Int) < (((ss.length : Nat) : Int) : Int)))))), (36, .int .i64 (((ss.length : Nat) : Int))), (37, .int .i64 (((k : Nat) : Int))), (38, .bool ((decide ((((k : Nat) : Int) : Int) < (((ss.length : Nat) : Int) : Int))))), (63, .bool ((!(T.same (p.app R1) t)))), (75, .bool ((!((p.app ss).small 48)))), (80, .int .i64 (((V.length : Nat) : Int))), (81, .int .i64 (((i : Nat) : Int))), (82, .bool ((decide ((((i : Nat) : Int) : Int) < (((V.length : Nat) : Int) : Int)))))]) ⟨rfl, rfl, rfl, rfl, rfl, rfl, rfl, rfl, rfl, rfl, rfl, rfl, rfl, rfl, rfl, rfl, rfl, rfl, rfl, rfl, rfl, trivial⟩ ?_)
                        refine WE.next ?_
                        refine WC.seq ?_
                        have hvi := hvv _ (iget_in (l := V) (k := i) (by omega))
                        have hv0 := T.hasV_nn p hvi
                        have hv48 := small_hasV hps hvi
                        have hvz9 : (T.mk (-1 - (List.getD V i 0)) []).size ≤ 4294967296 := by simp [T.size, T.sizeL]
                        refine WC.region ?_
                        refine WL.val (.slice va V.length vc) rfl rfl rfl (fun za zC zh zk => wp_move rfl (zh.ev rfl) zk) ?_
                        refine WL.val (.int .i64 (((i : Nat) : Int))) rfl rfl rfl (fun za zC zh zk => wp_move rfl (zh.ev rfl) zk) ?_
                        obtain ⟨b137, o138, ha139, hc140⟩ := InRow.openI (hV.rows.below hb131)
                        refine WL.val (.pointer (some ⟨b137, o138 + i, none⟩)) rfl rfl rfl (fun za zC zh zk => ix_59 (k := i) rfl (zh.ev rfl) (ha139 i (by omega)) (zh.ev rfl) (by first | omega | (simp; omega)) zk) ?_
                        refine WL.val (.int .i64 ((List.getD V i 0))) rfl rfl rfl (fun za zC zh zk => ld_3 rfl (zh.ev rfl) (hc140 i (by omega)) zk) ?_
                        refine WL.val (.int .i64 ((-1 - (List.getD V i 0)))) rfl rfl rfl (fun za zC zh zk => subb_3 rfl (zh.ev rfl) (zh.ev rfl) (wrap_eq rfl (by omega) (by omega)) zk) ?_
                        refine WL.val (.agg #[.int .i64 ((-1 - (List.getD V i 0))), .slice none 0 0]) rfl rfl rfl (fun za zC zh zk => build_24_0 rfl (zh.ev rfl) zk) ?_
                        refine WL.step (post := NewBlk w119 24 #[.int .i64 0, .slice none 0 0]) rfl rfl rfl (fun za zC zh zk => alloc_24 rfl (zk _ _ (newBlk _ _ _))) ?_
                        rintro _ w141 ⟨g142, rfl, hg143, hB144, hb145, hz146⟩
                        have hl147 : g2 < g142 := by have z1 := hB132.lt; omega
                        have hl148 : g9 < g142 := by have z1 := hB133.lt; omega
                        have hl149 : g74 < g142 := by have z1 := hB134.lt; omega
                        have hl150 : w.heap.size ≤ g142 := by have z2 := (hb128).size; omega
                        have hl151 : w50.heap.size ≤ g142 := by have z2 := (hb129).size; omega
                        have hl152 : w100.heap.size ≤ g142 := by have z2 := (hb130).size; omega
                        have hl153 : w118.heap.size ≤ g142 := by have z2 := (hb131).size; omega
                        have hl154 : w119.heap.size ≤ g142 := by omega
                        refine WL.step (post := fun _ w' => Upd g142 w141 w' ∧ Blk w' g142 24 #[.int .i64 ((-1 - (List.getD V i 0))), .slice none 0 0]) rfl rfl rfl (fun za zC zh zk => st_24 rfl (zh.ev rfl) (zh.ev rfl) rfl rfl hB144 (by first | decide | simp) (fun v => zk v _ ⟨(Upd.at_ _ _ _ _).trans (Upd.at_ _ _ _ _), (hB144.set_ 0 _).set_ 1 _⟩)) ?_
                        rintro v158 w155 ⟨hu156, hB157⟩
                        have hb159 : Below w.heap.size w w141 := (bstep hb128 hb145)
                        have hb160 : Below w50.heap.size w50 w141 := (bstep hb129 hb145)
                        have hb161 : Below w100.heap.size w100 w141 := (bstep hb130 hb145)
                        have hb162 : Below w118.heap.size w118 w141 := (bstep hb131 hb145)
                        have hb163 := upd_below hb159 hu156 (by omega)
                        have hb164 := upd_below hb160 hu156 (by omega)
                        have hb165 := upd_below hb161 hu156 (by omega)
                        have hb166 := upd_below hb162 hu156 (by omega)
                        have hb167 := upd_below hb145 hu156 (by omega)
                        have hB168 := hB132.below hb145
                        have hB169 := upd_blk hB168 hu156 (by omega)
                        have hB170 := hB133.below hb145
                        have hB171 := upd_blk hB170 hu156 (by omega)
                        have hB172 := hB134.below hb145
                        have hB173 := upd_blk hB172 hu156 (by omega)
                        refine WL.nil (WE.sub (K' := [(0, .agg #[.int .i64 p.f, .slice pa0 p.args.length pc0]), (1, .agg #[.int .i64 t.f, .slice ta0 t.args.length tc0]), (2, .slice sa ss.length sc), (3, .pointer (some ⟨g2, 0, none⟩)), (4, .pointer (some ⟨g9, 0, none⟩)), (8, .slice p1 R1.length k1), (9, .bool true), (10, .pointer (some ⟨g74, 0, none⟩)), (11, .slice p2 R2.length k2), (12, .bool true), (13, .slice va V.length vc), (14, .int .i64 (((i : Nat) : Int))), (15, .pointer (some ⟨g142, 0, none⟩)), (33, .bool (((((!(p.small 48)) || (!(t.small 48))) || (((subCheck ss) : Int) != (0 : Int))) || (decide ((100 : Int) < (((ss.length : Nat) : Int) : Int)))))), (36, .int .i64 (((ss.length : Nat) : Int))), (37, .int .i64 (((k : Nat) : Int))), (38, .bool ((decide ((((k : Nat) : Int) : Int) < (((ss.length : Nat) : Int) : Int))))), (63, .bool ((!(T.same (p.app R1) t)))), (75, .bool ((!((p.app ss).small 48)))), (80, .int .i64 (((V.length : Nat) : Int))), (81, .int .i64 (((i : Nat) : Int))), (82, .bool ((decide ((((i : Nat) : Int) : Int) < (((V.length : Nat) : Int) : Int)))))]) ⟨rfl, rfl, rfl, rfl, rfl, rfl, rfl, rfl, rfl, rfl, rfl, rfl, rfl, rfl, rfl, rfl, rfl, rfl, rfl, rfl, rfl, rfl, trivial⟩ ?_)
                        refine WE.next ?_
                        refine WC.seq ?_
                        refine WC.opt [(true, .val (.bool true)), (true, .val (.bool false)), (true, .val (.bool false)), ((true && !false), .val (.slice p2 R2.length k2)), ((true && !false), .val (.agg #[.int .i64 ((-1 - (List.getD V i 0))), .slice none 0 0])), ((true && !false), .mem (fun v w' => IsT w' (((T.mk (-1 - (List.getD V i 0)) [])).app R2) v) (fun v w w' hb h => IsT.below hb h)), ((true && !false), .val (.slice sa ss.length sc)), ((true && !false), .val (.agg #[.int .i64 ((-1 - (List.getD V i 0))), .slice none 0 0])), ((true && !false), .mem (fun v w' => IsT w' (((T.mk (-1 - (List.getD V i 0)) [])).app ss) v) (fun v w w' hb h => IsT.below hb h)), ((true && !false), .val (.bool ((T.same ((T.mk (-1 - (List.getD V i 0)) []).app R2) ((T.mk (-1 - (List.getD V i 0)) []).app ss))))), ((true && !false), .val (.bool ((!(T.same ((T.mk (-1 - (List.getD V i 0)) []).app R2) ((T.mk (-1 - (List.getD V i 0)) []).app ss)))))), (true, .val (.bool ((!(T.same ((T.mk (-1 - (List.getD V i 0)) []).app R2) ((T.mk (-1 - (List.getD V i 0)) []).app ss))))))] [(0, .agg #[.int .i64 p.f, .slice pa0 p.args.length pc0]), (1, .agg #[.int .i64 t.f, .slice ta0 t.args.length tc0]), (2, .slice sa ss.length sc), (3, .pointer (some ⟨g2, 0, none⟩)), (4, .pointer (some ⟨g9, 0, none⟩)), (8, .slice p1 R1.length k1), (9, .bool true), (10, .pointer (some ⟨g74, 0, none⟩)), (11, .slice p2 R2.length k2), (12, .bool true), (13, .slice va V.length vc), (14, .int .i64 (((i : Nat) : Int))), (15, .pointer (some ⟨g142, 0, none⟩)), (33, .bool (((((!(p.small 48)) || (!(t.small 48))) || (((subCheck ss) : Int) != (0 : Int))) || (decide ((100 : Int) < (((ss.length : Nat) : Int) : Int)))))), (36, .int .i64 (((ss.length : Nat) : Int))), (37, .int .i64 (((k : Nat) : Int))), (38, .bool ((decide ((((k : Nat) : Int) : Int) < (((ss.length : Nat) : Int) : Int))))), (63, .bool ((!(T.same (p.app R1) t)))), (75, .bool ((!((p.app ss).small 48)))), (80, .int .i64 (((V.length : Nat) : Int))), (81, .int .i64 (((i : Nat) : Int))), (82, .bool ((decide ((((i : Nat) : Int) : Int) < (((V.length : Nat) : Int) : Int)))))] ⟨rfl, rfl, rfl, rfl, rfl, rfl, rfl, rfl, rfl, rfl, rfl, rfl, rfl, rfl, rfl, rfl, rfl, rfl, rfl, rfl, rfl, rfl, trivial⟩ (by kernel_rfl) (by kernel_rfl) (by kernel_rfl) ?_ ?_
                        · refine ⟨⟨true, .none rfl, fun h w => optUndef h, fun zβ za zw zc => ?_⟩, ?_⟩
                          · exact wp_move rfl (zc.kn.ev rfl) ⟨_, rfl, Below.refl _ _, optDef zβ rfl⟩
                          refine ⟨⟨true, .none rfl, fun h w => optUndef h, fun zβ za zw zc => ?_⟩, ?_⟩
                          · exact wp_not rfl ((show za.eval (.tmp 90) = za.tmps.getD 90 undef from rfl).trans (optVal (zc.dep 0 90 (by kernel_rfl)) rfl rfl)) ⟨_, rfl, Below.refl _ _, optDef zβ rfl⟩
                          refine ⟨⟨true, .none rfl, fun h w => optUndef h, fun zβ za zw zc => ?_⟩, ?_⟩
                          · exact wp_move rfl ((show za.eval (.tmp 91) = za.tmps.getD 91 undef from rfl).trans (optVal (zc.dep 1 91 (by kernel_rfl)) rfl rfl)) ⟨_, rfl, Below.refl _ _, optDef zβ rfl⟩
                          refine ⟨⟨(true && !false), .no (c := false) (d := true) rfl (fun v w h => h), fun h w => optUndef h, fun zβ za zw zc => ?_⟩, ?_⟩
                          · exact wp_move rfl (zc.kn.ev rfl) ⟨_, rfl, Below.refl _ _, optDef zβ rfl⟩
                          refine ⟨⟨(true && !false), .no (c := false) (d := true) rfl (fun v w h => h), fun h w => optUndef h, fun zβ za zw zc => ?_⟩, ?_⟩
                          · exact ld_24 rfl (zc.kn.ev rfl) (bkeeps zc.below _ _ ((hB157.cell 0).trans rfl)) (bkeeps zc.below _ _ ((hB157.cell 1).trans rfl)) ⟨_, rfl, Below.refl _ _, optDef zβ rfl⟩
                          refine ⟨⟨(true && !false), .no (c := false) (d := true) rfl (fun v w h => h), fun h w => optUndef h, fun zβ za zw zc => ?_⟩, ?_⟩
                          · exact wp_call (by kernel_rfl) rfl (hv2 ((show za.eval (.tmp 93) = za.tmps.getD 93 undef from rfl).trans (optVal (zc.dep 3 93 (by kernel_rfl)) rfl rfl)) ((show za.eval (.tmp 94) = za.tmps.getD 94 undef from rfl).trans (optVal (zc.dep 4 94 (by kernel_rfl)) rfl rfl))) (apply_any R2 ((T.mk (-1 - (List.getD V i 0)) [])) _ _ _ _ hvz9 (IsT.below zc.below (InT.isT (S := fun _ => True) (inT_leaf (w := w155) (i64_lit (by omega))))) (hS2.below (bstep hb165 zc.below))) (fun v w' h => ⟨v, rfl, h.2, optDef zβ (InT.isT h.1)⟩)
                          refine ⟨⟨(true && !false), .no (c := false) (d := true) rfl (fun v w h => h), fun h w => optUndef h, fun zβ za zw zc => ?_⟩, ?_⟩
                          · exact wp_move rfl (zc.kn.ev rfl) ⟨_, rfl, Below.refl _ _, optDef zβ rfl⟩
                          refine ⟨⟨(true && !false), .no (c := false) (d := true) rfl (fun v w h => h), fun h w => optUndef h, fun zβ za zw zc => ?_⟩, ?_⟩
                          · exact ld_24 rfl (zc.kn.ev rfl) (bkeeps zc.below _ _ ((hB157.cell 0).trans rfl)) (bkeeps zc.below _ _ ((hB157.cell 1).trans rfl)) ⟨_, rfl, Below.refl _ _, optDef zβ rfl⟩
                          refine ⟨⟨(true && !false), .no (c := false) (d := true) rfl (fun v w h => h), fun h w => optUndef h, fun zβ za zw zc => ?_⟩, ?_⟩
                          · exact wp_call (by kernel_rfl) rfl (hv2 ((show za.eval (.tmp 96) = za.tmps.getD 96 undef from rfl).trans (optVal (zc.dep 6 96 (by kernel_rfl)) rfl rfl)) ((show za.eval (.tmp 97) = za.tmps.getD 97 undef from rfl).trans (optVal (zc.dep 7 97 (by kernel_rfl)) rfl rfl))) (rapply_any ss _ _ ((T.mk (-1 - (List.getD V i 0)) [])) _ _ hvz9 (IsT.below zc.below (InT.isT (S := fun _ => True) (inT_leaf (w := w155) (i64_lit (by omega))))) (hz.below (bstep hb163 zc.below))) (fun v w' h => ⟨v, rfl, h.2, optDef zβ (InT.isT h.1)⟩)
                          refine ⟨⟨(true && !false), .no (c := false) (d := true) rfl (fun v w h => h), fun h w => optUndef h, fun zβ za zw zc => ?_⟩, ?_⟩
                          · exact wp_call (by kernel_rfl) rfl (hv2 (show za.eval (.tmp 95) = za.tmps.getD 95 undef from rfl) (show za.eval (.tmp 98) = za.tmps.getD 98 undef from rfl)) (ret_of (rsame_any ((T.mk (-1 - (List.getD V i 0)) []).app R2) ((T.mk (-1 - (List.getD V i 0)) []).app ss) _ _ _ (optMem (zc.dep 5 95 (by kernel_rfl)) rfl rfl) (optMem (zc.dep 8 98 (by kernel_rfl)) rfl rfl))) (fun v w' h => ⟨v, rfl, h.2, optDef zβ h.1⟩)
                          refine ⟨⟨(true && !false), .no (c := false) (d := true) rfl (fun v w h => h), fun h w => optUndef h, fun zβ za zw zc => ?_⟩, ?_⟩
                          · exact wp_not rfl ((show za.eval (.tmp 99) = za.tmps.getD 99 undef from rfl).trans (optVal (zc.dep 9 99 (by kernel_rfl)) rfl rfl)) ⟨_, rfl, Below.refl _ _, optDef zβ rfl⟩
                          refine ⟨⟨true, .none rfl, fun h w => optUndef h, fun zβ za zw zc => ?_⟩, ?_⟩
                          · exact wp_pickF rfl ((show za.eval (.tmp 92) = za.tmps.getD 92 undef from rfl).trans (optVal (zc.dep 2 92 (by kernel_rfl)) rfl rfl)) ((show za.eval (.tmp 100) = za.tmps.getD 100 undef from rfl).trans (optVal (zc.dep 10 100 (by kernel_rfl)) rfl rfl)) ⟨_, rfl, Below.refl _ _, optDef zβ rfl⟩
                          exact trivial
                        · intro za w174 zh hb175 zu
                          have zh := zh.cons (d := 101) (v := .bool ((!(T.same ((T.mk (-1 - (List.getD V i 0)) []).app R2) ((T.mk (-1 - (List.getD V i 0)) []).app ss))))) (optVal (zu 11 101 (by kernel_rfl)) rfl rfl)
                          clear zu
                          refine (show WE _ [(0, .agg #[.int .i64 p.f, .slice pa0 p.args.length pc0]), (1, .agg #[.int .i64 t.f, .slice ta0 t.args.length tc0]), (2, .slice sa ss.length sc), (3, .pointer (some ⟨g2, 0, none⟩)), (4, .pointer (some ⟨g9, 0, none⟩)), (8, .slice p1 R1.length k1), (9, .bool true), (10, .pointer (some ⟨g74, 0, none⟩)), (11, .slice p2 R2.length k2), (12, .bool true), (13, .slice va V.length vc), (14, .int .i64 (((i : Nat) : Int))), (15, .pointer (some ⟨g142, 0, none⟩)), (33, .bool (((((!(p.small 48)) || (!(t.small 48))) || (((subCheck ss) : Int) != (0 : Int))) || (decide ((100 : Int) < (((ss.length : Nat) : Int) : Int)))))), (36, .int .i64 (((ss.length : Nat) : Int))), (37, .int .i64 (((k : Nat) : Int))), (38, .bool ((decide ((((k : Nat) : Int) : Int) < (((ss.length : Nat) : Int) : Int))))), (63, .bool ((!(T.same (p.app R1) t)))), (75, .bool ((!((p.app ss).small 48)))), (80, .int .i64 (((V.length : Nat) : Int))), (81, .int .i64 (((i : Nat) : Int))), (82, .bool ((decide ((((i : Nat) : Int) : Int) < (((V.length : Nat) : Int) : Int))))), (101, .bool ((!(T.same ((T.mk (-1 - (List.getD V i 0)) []).app R2) ((T.mk (-1 - (List.getD V i 0)) []).app ss)))))] w174 _ .normal from ?_) za (zh.sub ⟨rfl, rfl, rfl, rfl, rfl, rfl, rfl, rfl, rfl, rfl, rfl, rfl, rfl, rfl, rfl, rfl, rfl, rfl, rfl, rfl, rfl, rfl, rfl, trivial⟩)
                          refine WE.next ?_
                          refine WC.cond rfl (fun h176 => ?_) (fun h176 => ?_)
                          · have h176 : ¬ ((T.same ((T.mk (-1 - (List.getD V i 0)) []).app R2) ((T.mk (-1 - (List.getD V i 0)) []).app ss)) = true) := by simpa using h176
                            exfalso
                            have e9 := makes_two (small_plain hps) (small_plain hxs) hR2 hvi hv0
                            rw [e9, T.same_refl] at h176
                            simp at h176
                          · have h176 : ¬ (¬ ((T.same ((T.mk (-1 - (List.getD V i 0)) []).app R2) ((T.mk (-1 - (List.getD V i 0)) []).app ss)) = true)) := by simpa using h176
                            refine WC.skip ?_
                            refine WE.blockNormal ?_
                            refine WE.next ?_
                            refine WC.region ?_
                            refine WL.val (.int .i64 ((((i + 1) : Nat) : Int))) rfl rfl rfl (fun za zC zh zk => addb_3 rfl (zh.ev rfl) (zh.ev rfl) (wrap_eq (by omega) (by omega) (by omega)) zk) ?_
                            refine WL.val (.int .i64 ((((i + 1) : Nat) : Int))) rfl rfl rfl (fun za zC zh zk => wp_move rfl (zh.ev rfl) zk) ?_
                            refine WL.nil (WE.sub (K' := [(0, .agg #[.int .i64 p.f, .slice pa0 p.args.length pc0]), (1, .agg #[.int .i64 t.f, .slice ta0 t.args.length tc0]), (2, .slice sa ss.length sc), (3, .pointer (some ⟨g2, 0, none⟩)), (4, .pointer (some ⟨g9, 0, none⟩)), (8, .slice p1 R1.length k1), (9, .bool true), (10, .pointer (some ⟨g74, 0, none⟩)), (11, .slice p2 R2.length k2), (12, .bool true), (13, .slice va V.length vc), (14, .int .i64 (((i : Nat) : Int))), (15, .pointer (some ⟨g142, 0, none⟩)), (33, .bool (((((!(p.small 48)) || (!(t.small 48))) || (((subCheck ss) : Int) != (0 : Int))) || (decide ((100 : Int) < (((ss.length : Nat) : Int) : Int)))))), (36, .int .i64 (((ss.length : Nat) : Int))), (37, .int .i64 (((k : Nat) : Int))), (38, .bool ((decide ((((k : Nat) : Int) : Int) < (((ss.length : Nat) : Int) : Int))))), (63, .bool ((!(T.same (p.app R1) t)))), (75, .bool ((!((p.app ss).small 48)))), (80, .int .i64 (((V.length : Nat) : Int))), (81, .int .i64 ((((i + 1) : Nat) : Int))), (82, .bool ((decide ((((i : Nat) : Int) : Int) < (((V.length : Nat) : Int) : Int))))), (101, .bool ((!(T.same ((T.mk (-1 - (List.getD V i 0)) []).app R2) ((T.mk (-1 - (List.getD V i 0)) []).app ss)))))]) ⟨rfl, rfl, rfl, rfl, rfl, rfl, rfl, rfl, rfl, rfl, rfl, rfl, rfl, rfl, rfl, rfl, rfl, rfl, rfl, rfl, rfl, rfl, rfl, trivial⟩ ?_)
                            refine WE.round (i + 1) ⟨rfl, rfl, rfl, rfl, rfl, rfl, rfl, rfl, rfl, rfl, rfl, rfl, rfl, rfl, rfl, rfl, rfl, rfl, rfl, trivial⟩ ?_ ?_
                            · have hb177 : Below w.heap.size w w174 := (bstep hb163 hb175)
                              have hb178 : Below w50.heap.size w50 w174 := (bstep hb164 hb175)
                              have hb179 : Below w100.heap.size w100 w174 := (bstep hb165 hb175)
                              have hb180 : Below w118.heap.size w118 w174 := (bstep hb166 hb175)
                              have hB181 := hB169.below hb175
                              have hB182 := hB171.below hb175
                              have hB183 := hB173.below hb175
                              have hb185 : Below w119.heap.size w119 w174 := (bstep hb167 hb175)
                              have ho184 := ho135.below hb185
                              exact ⟨by omega, hb177, hb178, hb179, hb180, hB181, hB182, hB183, ho184⟩
                            · omega
                      · have h136 : ¬ ((((i : Nat) : Int) : Int) < (((V.length : Nat) : Int) : Int)) := by simpa using h136
                        refine WC.exit ?_
                        refine WE.thenExit ?_
                        refine WE.thenExit ?_
                        refine WE.blockIs rfl ?_
                        refine WE.next ?_
                        refine WC.seq ?_
                        refine WC.opt [(true, .val (.bool true)), (true, .val (.bool true)), ((true && true), .val (.bool true)), (true, .val (.bool true)), (true, .val (.bool true))] [(0, .agg #[.int .i64 p.f, .slice pa0 p.args.length pc0]), (1, .agg #[.int .i64 t.f, .slice ta0 t.args.length tc0]), (2, .slice sa ss.length sc), (3, .pointer (some ⟨g2, 0, none⟩)), (4, .pointer (some ⟨g9, 0, none⟩)), (8, .slice p1 R1.length k1), (9, .bool true), (10, .pointer (some ⟨g74, 0, none⟩)), (11, .slice p2 R2.length k2), (12, .bool true), (13, .slice va V.length vc), (33, .bool (((((!(p.small 48)) || (!(t.small 48))) || (((subCheck ss) : Int) != (0 : Int))) || (decide ((100 : Int) < (((ss.length : Nat) : Int) : Int)))))), (36, .int .i64 (((ss.length : Nat) : Int))), (37, .int .i64 (((k : Nat) : Int))), (38, .bool ((decide ((((k : Nat) : Int) : Int) < (((ss.length : Nat) : Int) : Int))))), (63, .bool ((!(T.same (p.app R1) t)))), (75, .bool ((!((p.app ss).small 48)))), (80, .int .i64 (((V.length : Nat) : Int))), (81, .int .i64 (((i : Nat) : Int))), (82, .bool ((decide ((((i : Nat) : Int) : Int) < (((V.length : Nat) : Int) : Int)))))] ⟨rfl, rfl, rfl, rfl, rfl, rfl, rfl, rfl, rfl, rfl, rfl, rfl, rfl, rfl, rfl, rfl, rfl, rfl, rfl, rfl, trivial⟩ (by kernel_rfl) (by kernel_rfl) (by kernel_rfl) ?_ ?_
                        · refine ⟨⟨true, .none rfl, fun h w => optUndef h, fun zβ za zw zc => ?_⟩, ?_⟩
                          · exact wp_move rfl (zc.kn.ev rfl) ⟨_, rfl, Below.refl _ _, optDef zβ rfl⟩
                          refine ⟨⟨true, .none rfl, fun h w => optUndef h, fun zβ za zw zc => ?_⟩, ?_⟩
                          · exact wp_move rfl ((show za.eval (.tmp 103) = za.tmps.getD 103 undef from rfl).trans (optVal (zc.dep 0 103 (by kernel_rfl)) rfl rfl)) ⟨_, rfl, Below.refl _ _, optDef zβ rfl⟩
                          refine ⟨⟨(true && true), .yes (c := true) (d := true) rfl (fun v w h => h), fun h w => optUndef h, fun zβ za zw zc => ?_⟩, ?_⟩
                          · exact wp_call (by kernel_rfl) rfl (hv0) (wakes_any _) (fun v w' h => ⟨v, rfl, h.2, optDef zβ h.1⟩)
                          refine ⟨⟨true, .none rfl, fun h w => optUndef h, fun zβ za zw zc => ?_⟩, ?_⟩
                          · exact wp_pickT rfl ((show za.eval (.tmp 104) = za.tmps.getD 104 undef from rfl).trans (optVal (zc.dep 1 104 (by kernel_rfl)) rfl rfl)) ((show za.eval (.tmp 105) = za.tmps.getD 105 undef from rfl).trans (optVal (zc.dep 2 105 (by kernel_rfl)) rfl rfl)) ⟨_, rfl, Below.refl _ _, optDef zβ rfl⟩
                          refine ⟨⟨true, .none rfl, fun h w => optUndef h, fun zβ za zw zc => ?_⟩, ?_⟩
                          · exact wp_assign rfl ((show za.eval (.tmp 106) = za.tmps.getD 106 undef from rfl).trans (optVal (zc.dep 3 106 (by kernel_rfl)) rfl rfl)) ⟨_, rfl, Below.refl _ _, optDef zβ rfl⟩
                          exact trivial
                        · intro za w187 zh hb188 zu
                          have zh := zh.cons (d := 6) (v := .bool true) (optVal (zu 4 6 (by kernel_rfl)) rfl rfl)
                          clear zu
                          refine (show WE _ [(0, .agg #[.int .i64 p.f, .slice pa0 p.args.length pc0]), (1, .agg #[.int .i64 t.f, .slice ta0 t.args.length tc0]), (2, .slice sa ss.length sc), (3, .pointer (some ⟨g2, 0, none⟩)), (4, .pointer (some ⟨g9, 0, none⟩)), (6, .bool true), (8, .slice p1 R1.length k1), (9, .bool true), (10, .pointer (some ⟨g74, 0, none⟩)), (11, .slice p2 R2.length k2), (12, .bool true), (13, .slice va V.length vc), (33, .bool (((((!(p.small 48)) || (!(t.small 48))) || (((subCheck ss) : Int) != (0 : Int))) || (decide ((100 : Int) < (((ss.length : Nat) : Int) : Int)))))), (36, .int .i64 (((ss.length : Nat) : Int))), (37, .int .i64 (((k : Nat) : Int))), (38, .bool ((decide ((((k : Nat) : Int) : Int) < (((ss.length : Nat) : Int) : Int))))), (63, .bool ((!(T.same (p.app R1) t)))), (75, .bool ((!((p.app ss).small 48)))), (80, .int .i64 (((V.length : Nat) : Int))), (81, .int .i64 (((i : Nat) : Int))), (82, .bool ((decide ((((i : Nat) : Int) : Int) < (((V.length : Nat) : Int) : Int)))))] w187 _ .normal from ?_) za (zh.sub ⟨rfl, rfl, rfl, rfl, rfl, rfl, rfl, rfl, rfl, rfl, rfl, rfl, rfl, rfl, rfl, rfl, rfl, rfl, rfl, rfl, rfl, trivial⟩)
                          refine WE.next ?_
                          refine WC.ret ?_
                          refine WE.ret1 rfl rfl ?_
                          have hb189 : Below w.heap.size w w187 := (bstep hb128 hb188)
                          exact ⟨_, rfl, rfl, hb189⟩
                · rw [if_neg hok104] at hm101
                  subst hm101
                  refine WL.val (.tuple #[.slice none 0 0, .bool false]) rfl rfl rfl (fun za zC zh zk => wp_move rfl (zh.ev rfl) zk) ?_
                  refine WL.val (.slice none 0 0) rfl rfl rfl (fun za zC zh zk => ext2_0 rfl (zh.ev rfl) zk) ?_
                  refine WL.val (.bool false) rfl rfl rfl (fun za zC zh zk => ext2_1 rfl (zh.ev rfl) zk) ?_
                  refine WL.val (.slice none 0 0) rfl rfl rfl (fun za zC zh zk => wp_assign rfl (zh.ev rfl) zk) ?_
                  refine WL.val (.bool false) rfl rfl rfl (fun za zC zh zk => wp_assign rfl (zh.ev rfl) zk) ?_
                  refine WL.nil (WE.sub (K' := [(0, .agg #[.int .i64 p.f, .slice pa0 p.args.length pc0]), (1, .agg #[.int .i64 t.f, .slice ta0 t.args.length tc0]), (2, .slice sa ss.length sc), (3, .pointer (some ⟨g2, 0, none⟩)), (4, .pointer (some ⟨g9, 0, none⟩)), (8, .slice p1 R1.length k1), (9, .bool true), (10, .pointer (some ⟨g74, 0, none⟩)), (11, .slice none 0 0), (12, .bool false), (33, .bool (((((!(p.small 48)) || (!(t.small 48))) || (((subCheck ss) : Int) != (0 : Int))) || (decide ((100 : Int) < (((ss.length : Nat) : Int) : Int)))))), (36, .int .i64 (((ss.length : Nat) : Int))), (37, .int .i64 (((k : Nat) : Int))), (38, .bool ((decide ((((k : Nat) : Int) : Int) < (((ss.length : Nat) : Int) : Int))))), (63, .bool ((!(T.same (p.app R1) t))))]) ⟨rfl, rfl, rfl, rfl, rfl, rfl, rfl, rfl, rfl, rfl, rfl, rfl, rfl, rfl, rfl, trivial⟩ ?_)
                  refine WE.next ?_
                  refine WC.seq ?_
                  refine WC.seq ?_
                  refine WC.region ?_
                  have hB190 := hB88.below hb102
                  refine WL.val (.agg #[.int .i64 ((p.app ss).f), .slice a71 ((p.app ss).args.length) c72]) rfl rfl rfl (fun za zC zh zk => ld_24 rfl (zh.ev rfl) ((hB190.cell 0).trans rfl) ((hB190.cell 1).trans rfl) zk) ?_
                  have ho191 := ho105.below hb102
                  refine WL.call rfl rfl rfl (fun za zh zC => wp_call (by kernel_rfl) rfl (hv2 (zh.ev rfl) (zh.ev rfl))) (rsmall_any (p.app ss) 48 _ _ (by omega) hxz9 (IsT.below (Below.refl _ _) (InT.isT ho191))) ?_
                  rintro _ w193 ⟨rfl, hq192⟩
                  refine WL.val (.bool ((!((p.app ss).small 48)))) rfl rfl rfl (fun za zC zh zk => wp_not rfl (zh.ev rfl) zk) ?_
                  refine WL.nil (WE.sub (K' := [(0, .agg #[.int .i64 p.f, .slice pa0 p.args.length pc0]), (1, .agg #[.int .i64 t.f, .slice ta0 t.args.length tc0]), (2, .slice sa ss.length sc), (3, .pointer (some ⟨g2, 0, none⟩)), (4, .pointer (some ⟨g9, 0, none⟩)), (8, .slice p1 R1.length k1), (9, .bool true), (10, .pointer (some ⟨g74, 0, none⟩)), (11, .slice none 0 0), (12, .bool false), (33, .bool (((((!(p.small 48)) || (!(t.small 48))) || (((subCheck ss) : Int) != (0 : Int))) || (decide ((100 : Int) < (((ss.length : Nat) : Int) : Int)))))), (36, .int .i64 (((ss.length : Nat) : Int))), (37, .int .i64 (((k : Nat) : Int))), (38, .bool ((decide ((((k : Nat) : Int) : Int) < (((ss.length : Nat) : Int) : Int))))), (63, .bool ((!(T.same (p.app R1) t)))), (75, .bool ((!((p.app ss).small 48))))]) ⟨rfl, rfl, rfl, rfl, rfl, rfl, rfl, rfl, rfl, rfl, rfl, rfl, rfl, rfl, rfl, rfl, trivial⟩ ?_)
                  refine WE.next ?_
                  refine WC.cond rfl (fun h194 => ?_) (fun h194 => ?_)
                  · have h194 : ¬ (((p.app ss).small 48) = true) := by simpa using h194
                    refine WC.seq ?_
                    refine WC.region ?_
                    refine WL.call rfl rfl rfl (fun za zh zC => wp_call (by kernel_rfl) rfl (hv0)) (wakes_any _) ?_
                    rintro _ w196 ⟨rfl, hq195⟩
                    refine WL.val (.bool true) rfl rfl rfl (fun za zC zh zk => wp_assign rfl (zh.ev rfl) zk) ?_
                    refine WL.nil (WE.sub (K' := [(0, .agg #[.int .i64 p.f, .slice pa0 p.args.length pc0]), (1, .agg #[.int .i64 t.f, .slice ta0 t.args.length tc0]), (2, .slice sa ss.length sc), (3, .pointer (some ⟨g2, 0, none⟩)), (4, .pointer (some ⟨g9, 0, none⟩)), (6, .bool true), (8, .slice p1 R1.length k1), (9, .bool true), (10, .pointer (some ⟨g74, 0, none⟩)), (11, .slice none 0 0), (12, .bool false), (33, .bool (((((!(p.small 48)) || (!(t.small 48))) || (((subCheck ss) : Int) != (0 : Int))) || (decide ((100 : Int) < (((ss.length : Nat) : Int) : Int)))))), (36, .int .i64 (((ss.length : Nat) : Int))), (37, .int .i64 (((k : Nat) : Int))), (38, .bool ((decide ((((k : Nat) : Int) : Int) < (((ss.length : Nat) : Int) : Int))))), (63, .bool ((!(T.same (p.app R1) t)))), (75, .bool ((!((p.app ss).small 48))))]) ⟨rfl, rfl, rfl, rfl, rfl, rfl, rfl, rfl, rfl, rfl, rfl, rfl, rfl, rfl, rfl, rfl, rfl, trivial⟩ ?_)
                    refine WE.next ?_
                    refine WC.ret ?_
                    refine WE.thenRet ?_
                    refine WE.ret1 rfl rfl ?_
                    have hb197 : Below w.heap.size w w196 := (bstep (bstep (bstep hb92 hb102) hq192) hq195)
                    exact ⟨_, rfl, rfl, hb197⟩
                  · have h194 : ¬ (¬ (((p.app ss).small 48) = true)) := by simpa using h194
                    have hxs : (p.app ss).small 48 = true := by simpa using h194
                    exact absurd (makes_is (small_plain hps) (small_plain hxs)) hok104
          · rw [if_neg hok54] at hm51
            subst hm51
            refine WL.val (.tuple #[.slice none 0 0, .bool false]) rfl rfl rfl (fun za zC zh zk => wp_move rfl (zh.ev rfl) zk) ?_
            refine WL.val (.slice none 0 0) rfl rfl rfl (fun za zC zh zk => ext2_0 rfl (zh.ev rfl) zk) ?_
            refine WL.val (.bool false) rfl rfl rfl (fun za zC zh zk => ext2_1 rfl (zh.ev rfl) zk) ?_
            refine WL.val (.slice none 0 0) rfl rfl rfl (fun za zC zh zk => wp_assign rfl (zh.ev rfl) zk) ?_
            refine WL.val (.bool false) rfl rfl rfl (fun za zC zh zk => wp_assign rfl (zh.ev rfl) zk) ?_
            refine WL.nil (WE.sub (K' := [(0, .agg #[.int .i64 p.f, .slice pa0 p.args.length pc0]), (1, .agg #[.int .i64 t.f, .slice ta0 t.args.length tc0]), (2, .slice sa ss.length sc), (3, .pointer (some ⟨g2, 0, none⟩)), (4, .pointer (some ⟨g9, 0, none⟩)), (8, .slice none 0 0), (9, .bool false), (33, .bool (((((!(p.small 48)) || (!(t.small 48))) || (((subCheck ss) : Int) != (0 : Int))) || (decide ((100 : Int) < (((ss.length : Nat) : Int) : Int)))))), (36, .int .i64 (((ss.length : Nat) : Int))), (37, .int .i64 (((k : Nat) : Int))), (38, .bool ((decide ((((k : Nat) : Int) : Int) < (((ss.length : Nat) : Int) : Int)))))]) ⟨rfl, rfl, rfl, rfl, rfl, rfl, rfl, rfl, rfl, rfl, rfl, trivial⟩ ?_)
            refine WE.next ?_
            refine WC.seq ?_
            refine WC.seq ?_
            refine WC.opt [(true, .val (.bool false)), (true, .val (.bool false)), ((true && false), .val undef), ((true && false), .val undef), ((true && false), .val undef), ((true && false), .val undef), ((true && false), .val undef), ((true && false), .val undef), (true, .val (.bool false))] [(0, .agg #[.int .i64 p.f, .slice pa0 p.args.length pc0]), (1, .agg #[.int .i64 t.f, .slice ta0 t.args.length tc0]), (2, .slice sa ss.length sc), (3, .pointer (some ⟨g2, 0, none⟩)), (4, .pointer (some ⟨g9, 0, none⟩)), (8, .slice none 0 0), (9, .bool false), (33, .bool (((((!(p.small 48)) || (!(t.small 48))) || (((subCheck ss) : Int) != (0 : Int))) || (decide ((100 : Int) < (((ss.length : Nat) : Int) : Int)))))), (36, .int .i64 (((ss.length : Nat) : Int))), (37, .int .i64 (((k : Nat) : Int))), (38, .bool ((decide ((((k : Nat) : Int) : Int) < (((ss.length : Nat) : Int) : Int)))))] ⟨rfl, rfl, rfl, rfl, rfl, rfl, rfl, rfl, rfl, rfl, rfl, trivial⟩ (by kernel_rfl) (by kernel_rfl) (by kernel_rfl) ?_ ?_
            · refine ⟨⟨true, .none rfl, fun h w => optUndef h, fun zβ za zw zc => ?_⟩, ?_⟩
              · exact wp_move rfl (zc.kn.ev rfl) ⟨_, rfl, Below.refl _ _, optDef zβ rfl⟩
              refine ⟨⟨true, .none rfl, fun h w => optUndef h, fun zβ za zw zc => ?_⟩, ?_⟩
              · exact wp_move rfl ((show za.eval (.tmp 55) = za.tmps.getD 55 undef from rfl).trans (optVal (zc.dep 0 55 (by kernel_rfl)) rfl rfl)) ⟨_, rfl, Below.refl _ _, optDef zβ rfl⟩
              refine ⟨⟨(true && false), .yes (c := false) (d := true) rfl (fun v w h => h), fun h w => optUndef h, fun zβ za zw zc => ?_⟩, ?_⟩
              · simp at zβ
              refine ⟨⟨(true && false), .yes (c := false) (d := true) rfl (fun v w h => h), fun h w => optUndef h, fun zβ za zw zc => ?_⟩, ?_⟩
              · simp at zβ
              refine ⟨⟨(true && false), .yes (c := false) (d := true) rfl (fun v w h => h), fun h w => optUndef h, fun zβ za zw zc => ?_⟩, ?_⟩
              · simp at zβ
              refine ⟨⟨(true && false), .yes (c := false) (d := true) rfl (fun v w h => h), fun h w => optUndef h, fun zβ za zw zc => ?_⟩, ?_⟩
              · simp at zβ
              refine ⟨⟨(true && false), .yes (c := false) (d := true) rfl (fun v w h => h), fun h w => optUndef h, fun zβ za zw zc => ?_⟩, ?_⟩
              · simp at zβ
              refine ⟨⟨(true && false), .yes (c := false) (d := true) rfl (fun v w h => h), fun h w => optUndef h, fun zβ za zw zc => ?_⟩, ?_⟩
              · simp at zβ
              refine ⟨⟨true, .none rfl, fun h w => optUndef h, fun zβ za zw zc => ?_⟩, ?_⟩
              · exact wp_pickF rfl ((show za.eval (.tmp 56) = za.tmps.getD 56 undef from rfl).trans (optVal (zc.dep 1 56 (by kernel_rfl)) rfl rfl)) (zc.kn.ev rfl) ⟨_, rfl, Below.refl _ _, optDef zβ rfl⟩
              exact trivial
            · intro za w198 zh hb199 zu
              have zh := zh.cons (d := 63) (v := .bool false) (optVal (zu 8 63 (by kernel_rfl)) rfl rfl)
              clear zu
              refine (show WE _ [(0, .agg #[.int .i64 p.f, .slice pa0 p.args.length pc0]), (1, .agg #[.int .i64 t.f, .slice ta0 t.args.length tc0]), (2, .slice sa ss.length sc), (3, .pointer (some ⟨g2, 0, none⟩)), (4, .pointer (some ⟨g9, 0, none⟩)), (8, .slice none 0 0), (9, .bool false), (33, .bool (((((!(p.small 48)) || (!(t.small 48))) || (((subCheck ss) : Int) != (0 : Int))) || (decide ((100 : Int) < (((ss.length : Nat) : Int) : Int)))))), (36, .int .i64 (((ss.length : Nat) : Int))), (37, .int .i64 (((k : Nat) : Int))), (38, .bool ((decide ((((k : Nat) : Int) : Int) < (((ss.length : Nat) : Int) : Int))))), (63, .bool false)] w198 _ .normal from ?_) za (zh.sub ⟨rfl, rfl, rfl, rfl, rfl, rfl, rfl, rfl, rfl, rfl, rfl, rfl, trivial⟩)
              refine WE.next ?_
              refine WC.condF rfl rfl ?_
              refine WC.skip ?_
              refine WE.next ?_
              refine WC.seq ?_
              refine WC.region ?_
              refine WL.val (.slice sa ss.length sc) rfl rfl rfl (fun za zC zh zk => wp_move rfl (zh.ev rfl) zk) ?_
              have hb201 : Below w27.heap.size w27 w198 := (bstep hb52 hb199)
              have hB200 := hB32.below hb201
              refine WL.val (.agg #[.int .i64 p.f, .slice pa0 p.args.length pc0]) rfl rfl rfl (fun za zC zh zk => ld_24 rfl (zh.ev rfl) ((hB200.cell 0).trans rfl) ((hB200.cell 1).trans rfl) zk) ?_
              have hb202 : Below w.heap.size w w198 := (bstep hb31 hb201)
              have hl206 : g2 < w198.heap.size := by have z1 := hB200.lt; omega
              have hl207 : g9 < w198.heap.size := by have z1 := hB33.lt; have z2 := (hb201).size; omega
              have hl208 : w.heap.size ≤ w198.heap.size := (hb202).size
              have hl209 : w50.heap.size ≤ w198.heap.size := (hb199).size
              refine WL.call rfl rfl rfl (fun za zh zC => wp_call (by kernel_rfl) rfl (hv2 (zh.ev rfl) (zh.ev rfl))) (rapply_any ss _ _ p _ _ hzp (IsT.below hb202 hp) (hz.below hb202)) ?_
              rintro v203 w210 ⟨hn204, hb205⟩
              obtain ⟨_, a211, c212, rfl, _, _, _⟩ := hn204.form
              refine WL.step (post := NewBlk w210 24 #[.int .i64 0, .slice none 0 0]) rfl rfl rfl (fun za zC zh zk => alloc_24 rfl (zk _ _ (newBlk _ _ _))) ?_
              rintro _ w213 ⟨g214, rfl, hg215, hB216, hb217, hz218⟩
              have hl219 : g2 < g214 := by have z1 := hB200.lt; have z2 := (hb205).size; omega
              have hb220 : Below w27.heap.size w27 w210 := (bstep hb201 hb205)
              have hl221 : g9 < g214 := by have z1 := hB33.lt; have z2 := (hb220).size; omega
              have hb222 : Below w.heap.size w w210 := (bstep hb31 hb220)
              have hl223 : w.heap.size ≤ g214 := by have z2 := (hb222).size; omega
              have hb224 : Below w50.heap.size w50 w210 := (bstep hb199 hb205)
              have hl225 : w50.heap.size ≤ g214 := by have z2 := (hb224).size; omega
              have hl226 : w210.heap.size ≤ g214 := by omega
              refine WL.step (post := fun _ w' => Upd g214 w213 w' ∧ Blk w' g214 24 #[.int .i64 ((p.app ss).f), .slice a211 ((p.app ss).args.length) c212]) rfl rfl rfl (fun za zC zh zk => st_24 rfl (zh.ev rfl) (zh.ev rfl) rfl rfl hB216 (by first | decide | simp) (fun v => zk v _ ⟨(Upd.at_ _ _ _ _).trans (Upd.at_ _ _ _ _), (hB216.set_ 0 _).set_ 1 _⟩)) ?_
              rintro v230 w227 ⟨hu228, hB229⟩
              have hb231 : Below w.heap.size w w213 := (bstep hb222 hb217)
              have hb232 : Below w50.heap.size w50 w213 := (bstep hb224 hb217)
              have hb233 := upd_below hb231 hu228 (by omega)
              have hb234 := upd_below hb232 hu228 (by omega)
              have hb235 := upd_below hb217 hu228 (by omega)
              have hb237 : Below w198.heap.size w198 w213 := (bstep hb205 hb217)
              have hB236 := hB200.below hb237
              have hB238 := upd_blk hB236 hu228 (by omega)
              have hb240 : Below w27.heap.size w27 w213 := (bstep hb52 hb232)
              have hB239 := hB33.below hb240
              have hB241 := upd_blk hB239 hu228 (by omega)
              refine WL.nil (WE.sub (K' := [(0, .agg #[.int .i64 p.f, .slice pa0 p.args.length pc0]), (1, .agg #[.int .i64 t.f, .slice ta0 t.args.length tc0]), (2, .slice sa ss.length sc), (3, .pointer (some ⟨g2, 0, none⟩)), (4, .pointer (some ⟨g9, 0, none⟩)), (8, .slice none 0 0), (9, .bool false), (10, .pointer (some ⟨g214, 0, none⟩)), (33, .bool (((((!(p.small 48)) || (!(t.small 48))) || (((subCheck ss) : Int) != (0 : Int))) || (decide ((100 : Int) < (((ss.length : Nat) : Int) : Int)))))), (36, .int .i64 (((ss.length : Nat) : Int))), (37, .int .i64 (((k : Nat) : Int))), (38, .bool ((decide ((((k : Nat) : Int) : Int) < (((ss.length : Nat) : Int) : Int))))), (63, .bool false)]) ⟨rfl, rfl, rfl, rfl, rfl, rfl, rfl, rfl, rfl, rfl, rfl, rfl, rfl, trivial⟩ ?_)
              refine WE.next ?_
              refine WC.seq ?_
              have hxz9 : (p.app ss).size ≤ 4294967296 := by have z1 := T.app_size (B := 300) (by omega) hzs p; have z2 := Nat.mul_le_mul_right 300 hp3; omega
              refine WC.region ?_
              refine WL.val (.agg #[.int .i64 p.f, .slice pa0 p.args.length pc0]) rfl rfl rfl (fun za zC zh zk => ld_24 rfl (zh.ev rfl) ((hB238.cell 0).trans rfl) ((hB238.cell 1).trans rfl) zk) ?_
              refine WL.val (.agg #[.int .i64 ((p.app ss).f), .slice a211 ((p.app ss).args.length) c212]) rfl rfl rfl (fun za zC zh zk => ld_24 rfl (zh.ev rfl) ((hB229.cell 0).trans rfl) ((hB229.cell 1).trans rfl) zk) ?_
              have ho247 := hn204.below hb235
              refine WL.call rfl rfl rfl (fun za zh zC => wp_call (by kernel_rfl) rfl (hv2 (zh.ev rfl) (zh.ev rfl))) (match_any p (p.app ss) _ _ _ (IsT.below hb233 hp) (IsT.below (Below.refl _ _) (InT.isT ho247)) hzp hxz9) ?_
              rintro v245 w242 ⟨hm243, hb244⟩
              unfold MatchIs at hm243
              rcases Classical.em (mOk p (p.app ss) [] = true) with hok246 | hok246
              · rw [if_pos hok246] at hm243
                obtain ⟨R2, p2, k2, rfl, hR2, hN2⟩ := hm243
                have hS2 := subOf_isSub hR2 hN2 hzp hxz9
                refine WL.val (.tuple #[.slice p2 R2.length k2, .bool true]) rfl rfl rfl (fun za zC zh zk => wp_move rfl (zh.ev rfl) zk) ?_
                refine WL.val (.slice p2 R2.length k2) rfl rfl rfl (fun za zC zh zk => ext2_0 rfl (zh.ev rfl) zk) ?_
                refine WL.val (.bool true) rfl rfl rfl (fun za zC zh zk => ext2_1 rfl (zh.ev rfl) zk) ?_
                refine WL.val (.slice p2 R2.length k2) rfl rfl rfl (fun za zC zh zk => wp_assign rfl (zh.ev rfl) zk) ?_
                refine WL.val (.bool true) rfl rfl rfl (fun za zC zh zk => wp_assign rfl (zh.ev rfl) zk) ?_
                refine WL.nil (WE.sub (K' := [(0, .agg #[.int .i64 p.f, .slice pa0 p.args.length pc0]), (1, .agg #[.int .i64 t.f, .slice ta0 t.args.length tc0]), (2, .slice sa ss.length sc), (3, .pointer (some ⟨g2, 0, none⟩)), (4, .pointer (some ⟨g9, 0, none⟩)), (8, .slice none 0 0), (9, .bool false), (10, .pointer (some ⟨g214, 0, none⟩)), (11, .slice p2 R2.length k2), (12, .bool true), (33, .bool (((((!(p.small 48)) || (!(t.small 48))) || (((subCheck ss) : Int) != (0 : Int))) || (decide ((100 : Int) < (((ss.length : Nat) : Int) : Int)))))), (36, .int .i64 (((ss.length : Nat) : Int))), (37, .int .i64 (((k : Nat) : Int))), (38, .bool ((decide ((((k : Nat) : Int) : Int) < (((ss.length : Nat) : Int) : Int))))), (63, .bool false)]) ⟨rfl, rfl, rfl, rfl, rfl, rfl, rfl, rfl, rfl, rfl, rfl, rfl, rfl, rfl, rfl, trivial⟩ ?_)
                refine WE.next ?_
                refine WC.seq ?_
                refine WC.seq ?_
                refine WC.region ?_
                have hB248 := hB229.below hb244
                refine WL.val (.agg #[.int .i64 ((p.app ss).f), .slice a211 ((p.app ss).args.length) c212]) rfl rfl rfl (fun za zC zh zk => ld_24 rfl (zh.ev rfl) ((hB248.cell 0).trans rfl) ((hB248.cell 1).trans rfl) zk) ?_
                have ho249 := ho247.below hb244
                refine WL.call rfl rfl rfl (fun za zh zC => wp_call (by kernel_rfl) rfl (hv2 (zh.ev rfl) (zh.ev rfl))) (rsmall_any (p.app ss) 48 _ _ (by omega) hxz9 (IsT.below (Below.refl _ _) (InT.isT ho249))) ?_
                rintro _ w251 ⟨rfl, hq250⟩
                refine WL.val (.bool ((!((p.app ss).small 48)))) rfl rfl rfl (fun za zC zh zk => wp_not rfl (zh.ev rfl) zk) ?_
                refine WL.nil (WE.sub (K' := [(0, .agg #[.int .i64 p.f, .slice pa0 p.args.length pc0]), (1, .agg #[.int .i64 t.f, .slice ta0 t.args.length tc0]), (2, .slice sa ss.length sc), (3, .pointer (some ⟨g2, 0, none⟩)), (4, .pointer (some ⟨g9, 0, none⟩)), (8, .slice none 0 0), (9, .bool false), (10, .pointer (some ⟨g214, 0, none⟩)), (11, .slice p2 R2.length k2), (12, .bool true), (33, .bool (((((!(p.small 48)) || (!(t.small 48))) || (((subCheck ss) : Int) != (0 : Int))) || (decide ((100 : Int) < (((ss.length : Nat) : Int) : Int)))))), (36, .int .i64 (((ss.length : Nat) : Int))), (37, .int .i64 (((k : Nat) : Int))), (38, .bool ((decide ((((k : Nat) : Int) : Int) < (((ss.length : Nat) : Int) : Int))))), (63, .bool false), (75, .bool ((!((p.app ss).small 48))))]) ⟨rfl, rfl, rfl, rfl, rfl, rfl, rfl, rfl, rfl, rfl, rfl, rfl, rfl, rfl, rfl, rfl, trivial⟩ ?_)
                refine WE.next ?_
                refine WC.cond rfl (fun h252 => ?_) (fun h252 => ?_)
                · have h252 : ¬ (((p.app ss).small 48) = true) := by simpa using h252
                  refine WC.seq ?_
                  refine WC.region ?_
                  refine WL.call rfl rfl rfl (fun za zh zC => wp_call (by kernel_rfl) rfl (hv0)) (wakes_any _) ?_
                  rintro _ w254 ⟨rfl, hq253⟩
                  refine WL.val (.bool true) rfl rfl rfl (fun za zC zh zk => wp_assign rfl (zh.ev rfl) zk) ?_
                  refine WL.nil (WE.sub (K' := [(0, .agg #[.int .i64 p.f, .slice pa0 p.args.length pc0]), (1, .agg #[.int .i64 t.f, .slice ta0 t.args.length tc0]), (2, .slice sa ss.length sc), (3, .pointer (some ⟨g2, 0, none⟩)), (4, .pointer (some ⟨g9, 0, none⟩)), (6, .bool true), (8, .slice none 0 0), (9, .bool false), (10, .pointer (some ⟨g214, 0, none⟩)), (11, .slice p2 R2.length k2), (12, .bool true), (33, .bool (((((!(p.small 48)) || (!(t.small 48))) || (((subCheck ss) : Int) != (0 : Int))) || (decide ((100 : Int) < (((ss.length : Nat) : Int) : Int)))))), (36, .int .i64 (((ss.length : Nat) : Int))), (37, .int .i64 (((k : Nat) : Int))), (38, .bool ((decide ((((k : Nat) : Int) : Int) < (((ss.length : Nat) : Int) : Int))))), (63, .bool false), (75, .bool ((!((p.app ss).small 48))))]) ⟨rfl, rfl, rfl, rfl, rfl, rfl, rfl, rfl, rfl, rfl, rfl, rfl, rfl, rfl, rfl, rfl, rfl, trivial⟩ ?_)
                  refine WE.next ?_
                  refine WC.ret ?_
                  refine WE.thenRet ?_
                  refine WE.ret1 rfl rfl ?_
                  have hb255 : Below w.heap.size w w254 := (bstep (bstep (bstep hb233 hb244) hq250) hq253)
                  exact ⟨_, rfl, rfl, hb255⟩
                · have h252 : ¬ (¬ (((p.app ss).small 48) = true)) := by simpa using h252
                  have hxs : (p.app ss).small 48 = true := by simpa using h252
                  refine WC.skip ?_
                  refine WE.next ?_
                  refine WC.seq ?_
                  refine WC.region ?_
                  have hb257 : Below w227.heap.size w227 w251 := (bstep hb244 hq250)
                  have hB256 := hB238.below hb257
                  refine WL.val (.agg #[.int .i64 p.f, .slice pa0 p.args.length pc0]) rfl rfl rfl (fun za zC zh zk => ld_24 rfl (zh.ev rfl) ((hB256.cell 0).trans rfl) ((hB256.cell 1).trans rfl) zk) ?_
                  have hb259 : Below w.heap.size w w251 := (bstep hb233 hb257)
                  refine WL.call rfl rfl rfl (fun za zh zC => wp_call (by kernel_rfl) rfl (hv1 (zh.ev rfl))) (vars_any p _ _ hzp (IsT.below hb259 hp)) ?_
                  rintro _ w260 ⟨⟨V, va, vc, rfl, hV, hvv, hvl⟩, hb258⟩
                  refine WL.val (.slice va V.length vc) rfl rfl rfl (fun za zC zh zk => wp_assign rfl (zh.ev rfl) zk) ?_
                  refine WL.nil (WE.sub (K' := [(0, .agg #[.int .i64 p.f, .slice pa0 p.args.length pc0]), (1, .agg #[.int .i64 t.f, .slice ta0 t.args.length tc0]), (2, .slice sa ss.length sc), (3, .pointer (some ⟨g2, 0, none⟩)), (4, .pointer (some ⟨g9, 0, none⟩)), (8, .slice none 0 0), (9, .bool false), (10, .pointer (some ⟨g214, 0, none⟩)), (11, .slice p2 R2.length k2), (12, .bool true), (13, .slice va V.length vc), (33, .bool (((((!(p.small 48)) || (!(t.small 48))) || (((subCheck ss) : Int) != (0 : Int))) || (decide ((100 : Int) < (((ss.length : Nat) : Int) : Int)))))), (36, .int .i64 (((ss.length : Nat) : Int))), (37, .int .i64 (((k : Nat) : Int))), (38, .bool ((decide ((((k : Nat) : Int) : Int) < (((ss.length : Nat) : Int) : Int))))), (63, .bool false), (75, .bool ((!((p.app ss).small 48))))]) ⟨rfl, rfl, rfl, rfl, rfl, rfl, rfl, rfl, rfl, rfl, rfl, rfl, rfl, rfl, rfl, rfl, rfl, trivial⟩ ?_)
                  refine WE.next ?_
                  refine WC.seq ?_
                  refine WC.seq ?_
                  refine WC.region ?_
                  refine WL.val (.slice va V.length vc) rfl rfl rfl (fun za zC zh zk => wp_move rfl (zh.ev rfl) zk) ?_
                  refine WL.val (.int .i64 (((V.length : Nat) : Int))) rfl rfl rfl (fun za zC zh zk => len_59 rfl (zh.ev rfl) zk) ?_
                  refine WL.val (.int .i64 0) rfl rfl rfl (fun za zC zh zk => wp_move rfl (zh.ev rfl) zk) ?_
                  refine WL.nil (WE.sub (K' := [(0, .agg #[.int .i64 p.f, .slice pa0 p.args.length pc0]), (1, .agg #[.int .i64 t.f, .slice ta0 t.args.length tc0]), (2, .slice sa ss.length sc), (3, .pointer (some ⟨g2, 0, none⟩)), (4, .pointer (some ⟨g9, 0, none⟩)), (8, .slice none 0 0), (9, .bool false), (10, .pointer (some ⟨g214, 0, none⟩)), (11, .slice p2 R2.length k2), (12, .bool true), (13, .slice va V.length vc), (33, .bool (((((!(p.small 48)) || (!(t.small 48))) || (((subCheck ss) : Int) != (0 : Int))) || (decide ((100 : Int) < (((ss.length : Nat) : Int) : Int)))))), (36, .int .i64 (((ss.length : Nat) : Int))), (37, .int .i64 (((k : Nat) : Int))), (38, .bool ((decide ((((k : Nat) : Int) : Int) < (((ss.length : Nat) : Int) : Int))))), (63, .bool false), (75, .bool ((!((p.app ss).small 48)))), (80, .int .i64 (((V.length : Nat) : Int))), (81, .int .i64 0)]) ⟨rfl, rfl, rfl, rfl, rfl, rfl, rfl, rfl, rfl, rfl, rfl, rfl, rfl, rfl, rfl, rfl, rfl, rfl, rfl, trivial⟩ ?_)
                  refine WE.next ?_
                  refine WC.block ?_
                  refine WC.loop (X := Nat) (fun i => V.length - i) (fun i => [(0, .agg #[.int .i64 p.f, .slice pa0 p.args.length pc0]), (1, .agg #[.int .i64 t.f, .slice ta0 t.args.length tc0]), (2, .slice sa ss.length sc), (3, .pointer (some ⟨g2, 0, none⟩)), (4, .pointer (some ⟨g9, 0, none⟩)), (8, .slice none 0 0), (9, .bool false), (10, .pointer (some ⟨g214, 0, none⟩)), (11, .slice p2 R2.length k2), (12, .bool true), (13, .slice va V.length vc), (33, .bool (((((!(p.small 48)) || (!(t.small 48))) || (((subCheck ss) : Int) != (0 : Int))) || (decide ((100 : Int) < (((ss.length : Nat) : Int) : Int)))))), (36, .int .i64 (((ss.length : Nat) : Int))), (37, .int .i64 (((k : Nat) : Int))), (38, .bool ((decide ((((k : Nat) : Int) : Int) < (((ss.length : Nat) : Int) : Int))))), (63, .bool false), (75, .bool ((!((p.app ss).small 48)))), (80, .int .i64 (((V.length : Nat) : Int))), (81, .int .i64 (((i : Nat) : Int)))]) (fun i w261 => i ≤ V.length ∧ Below w.heap.size w w261 ∧ Below w50.heap.size w50 w261 ∧ Below w242.heap.size w242 w261 ∧ Below w260.heap.size w260 w261 ∧ Blk w261 g2 24 #[.int .i64 p.f, .slice pa0 p.args.length pc0] ∧ Blk w261 g9 24 #[.int .i64 t.f, .slice ta0 t.args.length tc0] ∧ Blk w261 g214 24 #[.int .i64 ((p.app ss).f), .slice a211 ((p.app ss).args.length) c212] ∧ NewT w198 (w261) (p.app ss) (.agg #[.int .i64 ((p.app ss).f), .slice a211 ((p.app ss).args.length) c212])) 0 ⟨rfl, rfl, rfl, rfl, rfl, rfl, rfl, rfl, rfl, rfl, rfl, rfl, rfl, rfl, rfl, rfl, rfl, rfl, rfl, trivial⟩ ?_ ?_
                  · have hb262 : Below w.heap.size w w260 := (bstep hb259 hb258)
                    have hb263 : Below w50.heap.size w50 w260 := (bstep (bstep hb234 hb257) hb258)
                    have hb264 : Below w242.heap.size w242 w260 := (bstep hq250 hb258)
                    have hB265 := hB256.below hb258
                    have hb267 : Below w227.heap.size w227 w260 := (bstep hb244 hb264)
                    have hB266 := hB241.below hb267
                    have hB268 := hB248.below hb264
                    have ho269 := ho249.below hb264
                    exact ⟨Nat.zero_le _, hb262, hb263, hb264, (Below.refl _ _), hB265, hB266, hB268, ho269⟩
                  · rintro i w261 ⟨hi, hb270, hb271, hb272, hb273, hB274, hB275, hB276, ho277⟩
                    refine WC.seq ?_
                    refine WC.region ?_
                    refine WL.val (.bool ((decide ((((i : Nat) : Int) : Int) < (((V.length : Nat) : Int) : Int))))) rfl rfl rfl (fun za zC zh zk => lss_3 rfl (zh.ev rfl) (zh.ev rfl) zk) ?_
                    refine WL.nil (WE.sub (K' := [(0, .agg #[.int .i64 p.f, .slice pa0 p.args.length pc0]), (1, .agg #[.int .i64 t.f, .slice ta0 t.args.length tc0]), (2, .slice sa ss.length sc), (3, .pointer (some ⟨g2, 0, none⟩)), (4, .pointer (some ⟨g9, 0, none⟩)), (8, .slice none 0 0), (9, .bool false), (10, .pointer (some ⟨g214, 0, none⟩)), (11, .slice p2 R2.length k2), (12, .bool true), (13, .slice va V.length vc), (33, .bool (((((!(p.small 48)) || (!(t.small 48))) || (((subCheck ss) : Int) != (0 : Int))) || (decide ((100 : Int) < (((ss.length : Nat) : Int) : Int)))))), (36, .int .i64 (((ss.length : Nat) : Int))), (37, .int .i64 (((k : Nat) : Int))), (38, .bool ((decide ((((k : Nat) : Int) : Int) < (((ss.length : Nat) : Int) : Int))))), (63, .bool false), (75, .bool ((!((p.app ss).small 48)))), (80, .int .i64 (((V.length : Nat) : Int))), (81, .int .i64 (((i : Nat) : Int))), (82, .bool ((decide ((((i : Nat) : Int) : Int) < (((V.length : Nat) : Int) : Int)))))]) ⟨rfl, rfl, rfl, rfl, rfl, rfl, rfl, rfl, rfl, rfl, rfl, rfl, rfl, rfl, rfl, rfl, rfl, rfl, rfl, rfl, trivial⟩ ?_)
                    refine WE.next ?_
                    refine WC.seq ?_
                    refine WC.cond rfl (fun h278 => ?_) (fun h278 => ?_)
                    · have h278 : (((i : Nat) : Int) : Int) < (((V.length : Nat) : Int) : Int) := by simpa using h278
                      refine WC.skip ?_
                      refine WE.next ?_
                      refine WC.seq ?_
                      refine WC.block ?_
                      refine WC.seq ?_
                      refine WC.region ?_
                      refine WL.val (.int .i64 (((i : Nat) : Int))) rfl rfl rfl (fun za zC zh zk => wp_move rfl (zh.ev rfl) zk) ?_
                      refine WL.val (.int .i64 (((i : Nat) : Int))) rfl rfl rfl (fun za zC zh zk => wp_assign rfl (zh.ev rfl) zk) ?_
                      refine WL.nil (WE.sub (K' := [(0, .agg #[.int .i64 p.f, .slice pa0 p.args.length pc0]), (1, .agg #[.int .i64 t.f, .slice ta0 t.args.length tc0]), (2, .slice sa ss.length sc), (3, .pointer (some ⟨g2, 0, none⟩)), (4, .pointer (some ⟨g9, 0, none⟩)), (8, .slice none 0 0), (9, .bool false), (10, .pointer (some ⟨g214, 0, none⟩)), (11, .slice p2 R2.length k2), (12, .bool true), (13, .slice va V.length vc), (14, .int .i64 (((i : Nat) : Int))), (33, .bool (((((!(p.small 48)) || (!(t.small 48))) || (((subCheck ss) : Int) != (0 : Int))) || (decide ((100 : Int) < (((ss.length : Nat) : Int) : Int)))))), (36, .int .i64 (((ss.length : Nat) : Int))), (37, .int .i64 (((k : Nat) : Int))), (38, .bool ((decide ((((k : Nat) : Int) : Int) < (((ss.length : Nat) : Int) : Int))))), (63, .bool false), (75, .bool ((!((p.app ss).small 48)))), (80, .int .i64 (((V.length : Nat) : Int))), (81, .int .i64 (((i : Nat) : Int))), (82, .bool ((decide ((((i : Nat) : Int) : Int) < (((V.length : Nat) : Int) : Int)))))]) ⟨rfl, rfl, rfl, rfl, rfl, rfl, rfl, rfl, rfl, rfl, rfl, rfl, rfl, rfl, rfl, rfl, rfl, rfl, rfl, rfl, rfl, trivial⟩ ?_)
                      refine WE.next ?_
                      refine WC.seq ?_
                      have hvi := hvv _ (iget_in (l := V) (k := i) (by omega))
                      have hv0 := T.hasV_nn p hvi
                      have hv48 := small_hasV hps hvi
                      have hvz9 : (T.mk (-1 - (List.getD V i 0)) []).size ≤ 4294967296 := by simp [T.size, T.sizeL]
                      refine WC.region ?_
                      refine WL.val (.slice va V.length vc) rfl rfl rfl (fun za zC zh zk => wp_move rfl (zh.ev rfl) zk) ?_
                      refine WL.val (.int .i64 (((i : Nat) : Int))) rfl rfl rfl (fun za zC zh zk => wp_move rfl (zh.ev rfl) zk) ?_
                      obtain ⟨b279, o280, ha281, hc282⟩ := InRow.openI (hV.rows.below hb273)
                      refine WL.val (.pointer (some ⟨b279, o280 + i, none⟩)) rfl rfl rfl (fun za zC zh zk => ix_59 (k := i) rfl (zh.ev rfl) (ha281 i (by omega)) (zh.ev rfl) (by first | omega | (simp; omega)) zk) ?_
                      refine WL.val (.int .i64 ((List.getD V i 0))) rfl rfl rfl (fun za zC zh zk => ld_3 rfl (zh.ev rfl) (hc282 i (by omega)) zk) ?_
                      refine WL.val (.int .i64 ((-1 - (List.getD V i 0)))) rfl rfl rfl (fun za zC zh zk => subb_3 rfl (zh.ev rfl) (zh.ev rfl) (wrap_eq rfl (by omega) (by omega)) zk) ?_
                      refine WL.val (.agg #[.int .i64 ((-1 - (List.getD V i 0))), .slice none 0 0]) rfl rfl rfl (fun za zC zh zk => build_24_0 rfl (zh.ev rfl) zk) ?_
                      refine WL.step (post := NewBlk w261 24 #[.int .i64 0, .slice none 0 0]) rfl rfl rfl (fun za zC zh zk => alloc_24 rfl (zk _ _ (newBlk _ _ _))) ?_
                      rintro _ w283 ⟨g284, rfl, hg285, hB286, hb287, hz288⟩
                      have hl289 : g2 < g284 := by have z1 := hB274.lt; omega
                      have hl290 : g9 < g284 := by have z1 := hB275.lt; omega
                      have hl291 : g214 < g284 := by have z1 := hB276.lt; omega
                      have hl292 : w.heap.size ≤ g284 := by have z2 := (hb270).size; omega
                      have hl293 : w50.heap.size ≤ g284 := by have z2 := (hb271).size; omega
                      have hl294 : w242.heap.size ≤ g284 := by have z2 := (hb272).size; omega
                      have hl295 : w260.heap.size ≤ g284 := by have z2 := (hb273).size; omega
                      have hl296 : w261.heap.size ≤ g284 := by omega
                      refine WL.step (post := fun _ w' => Upd g284 w283 w' ∧ Blk w' g284 24 #[.int .i64 ((-1 - (List.getD V i 0))), .slice none 0 0]) rfl rfl rfl (fun za zC zh zk => st_24 rfl (zh.ev rfl) (zh.ev rfl) rfl rfl hB286 (by first | decide | simp) (fun v => zk v _ ⟨(Upd.at_ _ _ _ _).trans (Upd.at_ _ _ _ _), (hB286.set_ 0 _).set_ 1 _⟩)) ?_
                      rintro v300 w297 ⟨hu298, hB299⟩
                      have hb301 : Below w.heap.size w w283 := (bstep hb270 hb287)
                      have hb302 : Below w50.heap.size w50 w283 := (bstep hb271 hb287)
                      have hb303 : Below w242.heap.size w242 w283 := (bstep hb272 hb287)
                      have hb304 : Below w260.heap.size w260 w283 := (bstep hb273 hb287)
                      have hb305 := upd_below hb301 hu298 (by omega)
                      have hb306 := upd_below hb302 hu298 (by omega)
                      have hb307 := upd_below hb303 hu298 (by omega)
                      have hb308 := upd_below hb304 hu298 (by omega)
                      have hb309 := upd_below hb287 hu298 (by omega)
                      have hB310 := hB274.below hb287
                      have hB311 := upd_blk hB310 hu298 (by omega)
                      have hB312 := hB275.below hb287
                      have hB313 := upd_blk hB312 hu298 (by omega)
                      have hB314 := hB276.below hb287
                      have hB315 := upd_blk hB314 hu298 (by omega)
                      refine WL.nil (WE.sub (K' := [(0, .agg #[.int .i64 p.f, .slice pa0 p.args.length pc0]), (1, .agg #[.int .i64 t.f, .slice ta0 t.args.length tc0]), (2, .slice sa ss.length sc), (3, .pointer (some ⟨g2, 0, none⟩)), (4, .pointer (some ⟨g9, 0, none⟩)), (8, .slice none 0 0), (9, .bool false), (10, .pointer (some ⟨g214, 0, none⟩)), (11, .slice p2 R2.length k2), (12, .bool true), (13, .slice va V.length vc), (14, .int .i64 (((i : Nat) : Int))), (15, .pointer (some ⟨g284, 0, none⟩)), (33, .bool (((((!(p.small 48)) || (!(t.small 48))) || (((subCheck ss) : Int) != (0 : Int))) || (decide ((100 : Int) < (((ss.length : Nat) : Int) : Int)))))), (36, .int .i64 (((ss.length : Nat) : Int))), (37, .int .i64 (((k : Nat) : Int))), (38, .bool ((decide ((((k : Nat) : Int) : Int) < (((ss.length : Nat) : Int) : Int))))), (63, .bool false), (75, .bool ((!((p.app ss).small 48)))), (80, .int .i64 (((V.length : Nat) : Int))), (81, .int .i64 (((i : Nat) : Int))), (82, .bool ((decide ((((i : Nat) : Int) : Int) < (((V.length : Nat) : Int) : Int)))))]) ⟨rfl, rfl, rfl, rfl, rfl, rfl, rfl, rfl, rfl, rfl, rfl, rfl, rfl, rfl, rfl, rfl, rfl, rfl, rfl, rfl, rfl, rfl, trivial⟩ ?_)
                      refine WE.next ?_
                      refine WC.seq ?_
                      refine WC.opt [(true, .val (.bool true)), (true, .val (.bool false)), (true, .val (.bool false)), ((true && !false), .val (.slice p2 R2.length k2)), ((true && !false), .val (.agg #[.int .i64 ((-1 - (List.getD V i 0))), .slice none 0 0])), ((true && !false), .mem (fun v w' => IsT w' (((T.mk (-1 - (List.getD V i 0)) [])).app R2) v) (fun v w w' hb h => IsT.below hb h)), ((true && !false), .val (.slice sa ss.length sc)), ((true && !false), .val (.agg #[.int .i64 ((-1 - (List.getD V i 0))), .slice none 0 0])), ((true && !false), .mem (fun v w' => IsT w' (((T.mk (-1 - (List.getD V i 0)) [])).app ss) v) (fun v w w' hb h => IsT.below hb h)), ((true && !false), .val (.bool ((T.same ((T.mk (-1 - (List.getD V i 0)) []).app R2) ((T.mk (-1 - (List.getD V i 0)) []).app ss))))), ((true && !false), .val (.bool ((!(T.same ((T.mk (-1 - (List.getD V i 0)) []).app R2) ((T.mk (-1 - (List.getD V i 0)) []).app ss)))))), (true, .val (.bool ((!(T.same ((T.mk (-1 - (List.getD V i 0)) []).app R2) ((T.mk (-1 - (List.getD V i 0)) []).app ss))))))] [(0, .agg #[.int .i64 p.f, .slice pa0 p.args.length pc0]), (1, .agg #[.int .i64 t.f, .slice ta0 t.args.length tc0]), (2, .slice sa ss.length sc), (3, .pointer (some ⟨g2, 0, none⟩)), (4, .pointer (some ⟨g9, 0, none⟩)), (8, .slice none 0 0), (9, .bool false), (10, .pointer (some ⟨g214, 0, none⟩)), (11, .slice p2 R2.length k2), (12, .bool true), (13, .slice va V.length vc), (14, .int .i64 (((i : Nat) : Int))), (15, .pointer (some ⟨g284, 0, none⟩)), (33, .bool (((((!(p.small 48)) || (!(t.small 48))) || (((subCheck ss) : Int) != (0 : Int))) || (decide ((100 : Int) < (((ss.length : Nat) : Int) : Int)))))), (36, .int .i64 (((ss.length : Nat) : Int))), (37, .int .i64 (((k : Nat) : Int))), (38, .bool ((decide ((((k : Nat) : Int) : Int) < (((ss.length : Nat) : Int) : Int))))), (63, .bool false), (75, .bool ((!((p.app ss).small 48)))), (80, .int .i64 (((V.length : Nat) : Int))), (81, .int .i64 (((i : Nat) : Int))), (82, .bool ((decide ((((i : Nat) : Int) : Int) < (((V.length : Nat) : Int) : Int)))))] ⟨rfl, rfl, rfl, rfl, rfl, rfl, rfl, rfl, rfl, rfl, rfl, rfl, rfl, rfl, rfl, rfl, rfl, rfl, rfl, rfl, rfl, rfl, trivial⟩ (by kernel_rfl) (by kernel_rfl) (by kernel_rfl) ?_ ?_
                      · refine ⟨⟨true, .none rfl, fun h w => optUndef h, fun zβ za zw zc => ?_⟩, ?_⟩
                        · exact wp_move rfl (zc.kn.ev rfl) ⟨_, rfl, Below.refl _ _, optDef zβ rfl⟩
                        refine ⟨⟨true, .none rfl, fun h w => optUndef h, fun zβ za zw zc => ?_⟩, ?_⟩
                        · exact wp_not rfl ((show za.eval (.tmp 90) = za.tmps.getD 90 undef from rfl).trans (optVal (zc.dep 0 90 (by kernel_rfl)) rfl rfl)) ⟨_, rfl, Below.refl _ _, optDef zβ rfl⟩
                        refine ⟨⟨true, .none rfl, fun h w => optUndef h, fun zβ za zw zc => ?_⟩, ?_⟩
                        · exact wp_move rfl ((show za.eval (.tmp 91) = za.tmps.getD 91 undef from rfl).trans (optVal (zc.dep 1 91 (by kernel_rfl)) rfl rfl)) ⟨_, rfl, Below.refl _ _, optDef zβ rfl⟩
                        refine ⟨⟨(true && !false), .no (c := false) (d := true) rfl (fun v w h => h), fun h w => optUndef h, fun zβ za zw zc => ?_⟩, ?_⟩
                        · exact wp_move rfl (zc.kn.ev rfl) ⟨_, rfl, Below.refl _ _, optDef zβ rfl⟩
                        refine ⟨⟨(true && !false), .no (c := false) (d := true) rfl (fun v w h => h), fun h w => optUndef h, fun zβ za zw zc => ?_⟩, ?_⟩
                        · exact ld_24 rfl (zc.kn.ev rfl) (bkeeps zc.below _ _ ((hB299.cell 0).trans rfl)) (bkeeps zc.below _ _ ((hB299.cell 1).trans rfl)) ⟨_, rfl, Below.refl _ _, optDef zβ rfl⟩
                        refine ⟨⟨(true && !false), .no (c := false) (d := true) rfl (fun v w h => h), fun h w => optUndef h, fun zβ za zw zc => ?_⟩, ?_⟩
                        · exact wp_call (by kernel_rfl) rfl (hv2 ((show za.eval (.tmp 93) = za.tmps.getD 93 undef from rfl).trans (optVal (zc.dep 3 93 (by kernel_rfl)) rfl rfl)) ((show za.eval (.tmp 94) = za.tmps.getD 94 undef from rfl).trans (optVal (zc.dep 4 94 (by kernel_rfl)) rfl rfl))) (apply_any R2 ((T.mk (-1 - (List.getD V i 0)) [])) _ _ _ _ hvz9 (IsT.below zc.below (InT.isT (S := fun _ => True) (inT_leaf (w := w297) (i64_lit (by omega))))) (hS2.below (bstep hb307 zc.below))) (fun v w' h => ⟨v, rfl, h.2, optDef zβ (InT.isT h.1)⟩)
                        refine ⟨⟨(true && !false), .no (c := false) (d := true) rfl (fun v w h => h), fun h w => optUndef h, fun zβ za zw zc => ?_⟩, ?_⟩
                        · exact wp_move rfl (zc.kn.ev rfl) ⟨_, rfl, Below.refl _ _, optDef zβ rfl⟩
                        refine ⟨⟨(true && !false), .no (c := false) (d := true) rfl (fun v w h => h), fun h w => optUndef h, fun zβ za zw zc => ?_⟩, ?_⟩
                        · exact ld_24 rfl (zc.kn.ev rfl) (bkeeps zc.below _ _ ((hB299.cell 0).trans rfl)) (bkeeps zc.below _ _ ((hB299.cell 1).trans rfl)) ⟨_, rfl, Below.refl _ _, optDef zβ rfl⟩
                        refine ⟨⟨(true && !false), .no (c := false) (d := true) rfl (fun v w h => h), fun h w => optUndef h, fun zβ za zw zc => ?_⟩, ?_⟩
                        · exact wp_call (by kernel_rfl) rfl (hv2 ((show za.eval (.tmp 96) = za.tmps.getD 96 undef from rfl).trans (optVal (zc.dep 6 96 (by kernel_rfl)) rfl rfl)) ((show za.eval (.tmp 97) = za.tmps.getD 97 undef from rfl).trans (optVal (zc.dep 7 97 (by kernel_rfl)) rfl rfl))) (rapply_any ss _ _ ((T.mk (-1 - (List.getD V i 0)) [])) _ _ hvz9 (IsT.below zc.below (InT.isT (S := fun _ => True) (inT_leaf (w := w297) (i64_lit (by omega))))) (hz.below (bstep hb305 zc.below))) (fun v w' h => ⟨v, rfl, h.2, optDef zβ (InT.isT h.1)⟩)
                        refine ⟨⟨(true && !false), .no (c := false) (d := true) rfl (fun v w h => h), fun h w => optUndef h, fun zβ za zw zc => ?_⟩, ?_⟩
                        · exact wp_call (by kernel_rfl) rfl (hv2 (show za.eval (.tmp 95) = za.tmps.getD 95 undef from rfl) (show za.eval (.tmp 98) = za.tmps.getD 98 undef from rfl)) (ret_of (rsame_any ((T.mk (-1 - (List.getD V i 0)) []).app R2) ((T.mk (-1 - (List.getD V i 0)) []).app ss) _ _ _ (optMem (zc.dep 5 95 (by kernel_rfl)) rfl rfl) (optMem (zc.dep 8 98 (by kernel_rfl)) rfl rfl))) (fun v w' h => ⟨v, rfl, h.2, optDef zβ h.1⟩)
                        refine ⟨⟨(true && !false), .no (c := false) (d := true) rfl (fun v w h => h), fun h w => optUndef h, fun zβ za zw zc => ?_⟩, ?_⟩
                        · exact wp_not rfl ((show za.eval (.tmp 99) = za.tmps.getD 99 undef from rfl).trans (optVal (zc.dep 9 99 (by kernel_rfl)) rfl rfl)) ⟨_, rfl, Below.refl _ _, optDef zβ rfl⟩
                        refine ⟨⟨true, .none rfl, fun h w => optUndef h, fun zβ za zw zc => ?_⟩, ?_⟩
                        · exact wp_pickF rfl ((show za.eval (.tmp 92) = za.tmps.getD 92 undef from rfl).trans (optVal (zc.dep 2 92 (by kernel_rfl)) rfl rfl)) ((show za.eval (.tmp 100) = za.tmps.getD 100 undef from rfl).trans (optVal (zc.dep 10 100 (by kernel_rfl)) rfl rfl)) ⟨_, rfl, Below.refl _ _, optDef zβ rfl⟩
                        exact trivial
                      · intro za w316 zh hb317 zu
                        have zh := zh.cons (d := 101) (v := .bool ((!(T.same ((T.mk (-1 - (List.getD V i 0)) []).app R2) ((T.mk (-1 - (List.getD V i 0)) []).app ss))))) (optVal (zu 11 101 (by kernel_rfl)) rfl rfl)
                        clear zu
                        refine (show WE _ [(0, .agg #[.int .i64 p.f, .slice pa0 p.args.length pc0]), (1, .agg #[.int .i64 t.f, .slice ta0 t.args.length tc0]), (2, .slice sa ss.length sc), (3, .pointer (some ⟨g2, 0, none⟩)), (4, .pointer (some ⟨g9, 0, none⟩)), (8, .slice none 0 0), (9, .bool false), (10, .pointer (some ⟨g214, 0, none⟩)), (11, .slice p2 R2.length k2), (12, .bool true), (13, .slice va V.length vc), (14, .int .i64 (((i : Nat) : Int))), (15, .pointer (some ⟨g284, 0, none⟩)), (33, .bool (((((!(p.small 48)) || (!(t.small 48))) || (((subCheck ss) : Int) != (0 : Int))) || (decide ((100 : Int) < (((ss.length : Nat) : Int) : Int)))))), (36, .int .i64 (((ss.length : Nat) : Int))), (37, .int .i64 (((k : Nat) : Int))), (38, .bool ((decide ((((k : Nat) : Int) : Int) < (((ss.length : Nat) : Int) : Int))))), (63, .bool false), (75, .bool ((!((p.app ss).small 48)))), (80, .int .i64 (((V.length : Nat) : Int))), (81, .int .i64 (((i : Nat) : Int))), (82, .bool ((decide ((((i : Nat) : Int) : Int) < (((V.length : Nat) : Int) : Int))))), (101, .bool ((!(T.same ((T.mk (-1 - (List.getD V i 0)) []).app R2) ((T.mk (-1 - (List.getD V i 0)) []).app ss)))))] w316 _ .normal from ?_) za (zh.sub ⟨rfl, rfl, rfl, rfl, rfl, rfl, rfl, rfl, rfl, rfl, rfl, rfl, rfl, rfl, rfl, rfl, rfl, rfl, rfl, rfl, rfl, rfl, rfl, trivial⟩)
                        refine WE.next ?_
                        refine WC.cond rfl (fun h318 => ?_) (fun h318 => ?_)
                        · have h318 : ¬ ((T.same ((T.mk (-1 - (List.getD V i 0)) []).app R2) ((T.mk (-1 - (List.getD V i 0)) []).app ss)) = true) := by simpa using h318
                          exfalso
                          have e9 := makes_two (small_plain hps) (small_plain hxs) hR2 hvi hv0
                          rw [e9, T.same_refl] at h318
                          simp at h318
                        · have h318 : ¬ (¬ ((T.same ((T.mk (-1 - (List.getD V i 0)) []).app R2) ((T.mk (-1 - (List.getD V i 0)) []).app ss)) = true)) := by simpa using h318
                          refine WC.skip ?_
                          refine WE.blockNormal ?_
                          refine WE.next ?_
                          refine WC.region ?_
                          refine WL.val (.int .i64 ((((i + 1) : Nat) : Int))) rfl rfl rfl (fun za zC zh zk => addb_3 rfl (zh.ev rfl) (zh.ev rfl) (wrap_eq (by omega) (by omega) (by omega)) zk) ?_
                          refine WL.val (.int .i64 ((((i + 1) : Nat) : Int))) rfl rfl rfl (fun za zC zh zk => wp_move rfl (zh.ev rfl) zk) ?_
                          refine WL.nil (WE.sub (K' := [(0, .agg #[.int .i64 p.f, .slice pa0 p.args.length pc0]), (1, .agg #[.int .i64 t.f, .slice ta0 t.args.length tc0]), (2, .slice sa ss.length sc), (3, .pointer (some ⟨g2, 0, none⟩)), (4, .pointer (some ⟨g9, 0, none⟩)), (8, .slice none 0 0), (9, .bool false), (10, .pointer (some ⟨g214, 0, none⟩)), (11, .slice p2 R2.length k2), (12, .bool true), (13, .slice va V.length vc), (14, .int .i64 (((i : Nat) : Int))), (15, .pointer (some ⟨g284, 0, none⟩)), (33, .bool (((((!(p.small 48)) || (!(t.small 48))) || (((subCheck ss) : Int) != (0 : Int))) || (decide ((100 : Int) < (((ss.length : Nat) : Int) : Int)))))), (36, .int .i64 (((ss.length : Nat) : Int))), (37, .int .i64 (((k : Nat) : Int))), (38, .bool ((decide ((((k : Nat) : Int) : Int) < (((ss.length : Nat) : Int) : Int))))), (63, .bool false), (75, .bool ((!((p.app ss).small 48)))), (80, .int .i64 (((V.length : Nat) : Int))), (81, .int .i64 ((((i + 1) : Nat) : Int))), (82, .bool ((decide ((((i : Nat) : Int) : Int) < (((V.length : Nat) : Int) : Int))))), (101, .bool ((!(T.same ((T.mk (-1 - (List.getD V i 0)) []).app R2) ((T.mk (-1 - (List.getD V i 0)) []).app ss)))))]) ⟨rfl, rfl, rfl, rfl, rfl, rfl, rfl, rfl, rfl, rfl, rfl, rfl, rfl, rfl, rfl, rfl, rfl, rfl, rfl, rfl, rfl, rfl, rfl, trivial⟩ ?_)
                          refine WE.round (i + 1) ⟨rfl, rfl, rfl, rfl, rfl, rfl, rfl, rfl, rfl, rfl, rfl, rfl, rfl, rfl, rfl, rfl, rfl, rfl, rfl, trivial⟩ ?_ ?_
                          · have hb319 : Below w.heap.size w w316 := (bstep hb305 hb317)
                            have hb320 : Below w50.heap.size w50 w316 := (bstep hb306 hb317)
                            have hb321 : Below w242.heap.size w242 w316 := (bstep hb307 hb317)
                            have hb322 : Below w260.heap.size w260 w316 := (bstep hb308 hb317)
                            have hB323 := hB311.below hb317
                            have hB324 := hB313.below hb317
                            have hB325 := hB315.below hb317
                            have hb327 : Below w261.heap.size w261 w316 := (bstep hb309 hb317)
                            have ho326 := ho277.below hb327
                            exact ⟨by omega, hb319, hb320, hb321, hb322, hB323, hB324, hB325, ho326⟩
                          · omega
                    · have h278 : ¬ ((((i : Nat) : Int) : Int) < (((V.length : Nat) : Int) : Int)) := by simpa using h278
                      refine WC.exit ?_
                      refine WE.thenExit ?_
                      refine WE.thenExit ?_
                      refine WE.blockIs rfl ?_
                      refine WE.next ?_
                      refine WC.seq ?_
                      refine WC.opt [(true, .val (.bool true)), (true, .val (.bool true)), ((true && true), .val (.bool true)), (true, .val (.bool true)), (true, .val (.bool true))] [(0, .agg #[.int .i64 p.f, .slice pa0 p.args.length pc0]), (1, .agg #[.int .i64 t.f, .slice ta0 t.args.length tc0]), (2, .slice sa ss.length sc), (3, .pointer (some ⟨g2, 0, none⟩)), (4, .pointer (some ⟨g9, 0, none⟩)), (8, .slice none 0 0), (9, .bool false), (10, .pointer (some ⟨g214, 0, none⟩)), (11, .slice p2 R2.length k2), (12, .bool true), (13, .slice va V.length vc), (33, .bool (((((!(p.small 48)) || (!(t.small 48))) || (((subCheck ss) : Int) != (0 : Int))) || (decide ((100 : Int) < (((ss.length : Nat) : Int) : Int)))))), (36, .int .i64 (((ss.length : Nat) : Int))), (37, .int .i64 (((k : Nat) : Int))), (38, .bool ((decide ((((k : Nat) : Int) : Int) < (((ss.length : Nat) : Int) : Int))))), (63, .bool false), (75, .bool ((!((p.app ss).small 48)))), (80, .int .i64 (((V.length : Nat) : Int))), (81, .int .i64 (((i : Nat) : Int))), (82, .bool ((decide ((((i : Nat) : Int) : Int) < (((V.length : Nat) : Int) : Int)))))] ⟨rfl, rfl, rfl, rfl, rfl, rfl, rfl, rfl, rfl, rfl, rfl, rfl, rfl, rfl, rfl, rfl, rfl, rfl, rfl, rfl, trivial⟩ (by kernel_rfl) (by kernel_rfl) (by kernel_rfl) ?_ ?_
                      · refine ⟨⟨true, .none rfl, fun h w => optUndef h, fun zβ za zw zc => ?_⟩, ?_⟩
                        · exact wp_move rfl (zc.kn.ev rfl) ⟨_, rfl, Below.refl _ _, optDef zβ rfl⟩
                        refine ⟨⟨true, .none rfl, fun h w => optUndef h, fun zβ za zw zc => ?_⟩, ?_⟩
                        · exact wp_move rfl ((show za.eval (.tmp 103) = za.tmps.getD 103 undef from rfl).trans (optVal (zc.dep 0 103 (by kernel_rfl)) rfl rfl)) ⟨_, rfl, Below.refl _ _, optDef zβ rfl⟩
                        refine ⟨⟨(true && true), .yes (c := true) (d := true) rfl (fun v w h => h), fun h w => optUndef h, fun zβ za zw zc => ?_⟩, ?_⟩
                        · exact wp_call (by kernel_rfl) rfl (hv0) (wakes_any _) (fun v w' h => ⟨v, rfl, h.2, optDef zβ h.1⟩)
                        refine ⟨⟨true, .none rfl, fun h w => optUndef h, fun zβ za zw zc => ?_⟩, ?_⟩
                        · exact wp_pickT rfl ((show za.eval (.tmp 104) = za.tmps.getD 104 undef from rfl).trans (optVal (zc.dep 1 104 (by kernel_rfl)) rfl rfl)) ((show za.eval (.tmp 105) = za.tmps.getD 105 undef from rfl).trans (optVal (zc.dep 2 105 (by kernel_rfl)) rfl rfl)) ⟨_, rfl, Below.refl _ _, optDef zβ rfl⟩
                        refine ⟨⟨true, .none rfl, fun h w => optUndef h, fun zβ za zw zc => ?_⟩, ?_⟩
                        · exact wp_assign rfl ((show za.eval (.tmp 106) = za.tmps.getD 106 undef from rfl).trans (optVal (zc.dep 3 106 (by kernel_rfl)) rfl rfl)) ⟨_, rfl, Below.refl _ _, optDef zβ rfl⟩
                        exact trivial
                      · intro za w329 zh hb330 zu
                        have zh := zh.cons (d := 6) (v := .bool true) (optVal (zu 4 6 (by kernel_rfl)) rfl rfl)
                        clear zu
                        refine (show WE _ [(0, .agg #[.int .i64 p.f, .slice pa0 p.args.length pc0]), (1, .agg #[.int .i64 t.f, .slice ta0 t.args.length tc0]), (2, .slice sa ss.length sc), (3, .pointer (some ⟨g2, 0, none⟩)), (4, .pointer (some ⟨g9, 0, none⟩)), (6, .bool true), (8, .slice none 0 0), (9, .bool false), (10, .pointer (some ⟨g214, 0, none⟩)), (11, .slice p2 R2.length k2), (12, .bool true), (13, .slice va V.length vc), (33, .bool (((((!(p.small 48)) || (!(t.small 48))) || (((subCheck ss) : Int) != (0 : Int))) || (decide ((100 : Int) < (((ss.length : Nat) : Int) : Int)))))), (36, .int .i64 (((ss.length : Nat) : Int))), (37, .int .i64 (((k : Nat) : Int))), (38, .bool ((decide ((((k : Nat) : Int) : Int) < (((ss.length : Nat) : Int) : Int))))), (63, .bool false), (75, .bool ((!((p.app ss).small 48)))), (80, .int .i64 (((V.length : Nat) : Int))), (81, .int .i64 (((i : Nat) : Int))), (82, .bool ((decide ((((i : Nat) : Int) : Int) < (((V.length : Nat) : Int) : Int)))))] w329 _ .normal from ?_) za (zh.sub ⟨rfl, rfl, rfl, rfl, rfl, rfl, rfl, rfl, rfl, rfl, rfl, rfl, rfl, rfl, rfl, rfl, rfl, rfl, rfl, rfl, rfl, trivial⟩)
                        refine WE.next ?_
                        refine WC.ret ?_
                        refine WE.ret1 rfl rfl ?_
                        have hb331 : Below w.heap.size w w329 := (bstep hb270 hb330)
                        exact ⟨_, rfl, rfl, hb331⟩
              · rw [if_neg hok246] at hm243
                subst hm243
                refine WL.val (.tuple #[.slice none 0 0, .bool false]) rfl rfl rfl (fun za zC zh zk => wp_move rfl (zh.ev rfl) zk) ?_
                refine WL.val (.slice none 0 0) rfl rfl rfl (fun za zC zh zk => ext2_0 rfl (zh.ev rfl) zk) ?_
                refine WL.val (.bool false) rfl rfl rfl (fun za zC zh zk => ext2_1 rfl (zh.ev rfl) zk) ?_
                refine WL.val (.slice none 0 0) rfl rfl rfl (fun za zC zh zk => wp_assign rfl (zh.ev rfl) zk) ?_
                refine WL.val (.bool false) rfl rfl rfl (fun za zC zh zk => wp_assign rfl (zh.ev rfl) zk) ?_
                refine WL.nil (WE.sub (K' := [(0, .agg #[.int .i64 p.f, .slice pa0 p.args.length pc0]), (1, .agg #[.int .i64 t.f, .slice ta0 t.args.length tc0]), (2, .slice sa ss.length sc), (3, .pointer (some ⟨g2, 0, none⟩)), (4, .pointer (some ⟨g9, 0, none⟩)), (8, .slice none 0 0), (9, .bool false), (10, .pointer (some ⟨g214, 0, none⟩)), (11, .slice none 0 0), (12, .bool false), (33, .bool (((((!(p.small 48)) || (!(t.small 48))) || (((subCheck ss) : Int) != (0 : Int))) || (decide ((100 : Int) < (((ss.length : Nat) : Int) : Int)))))), (36, .int .i64 (((ss.length : Nat) : Int))), (37, .int .i64 (((k : Nat) : Int))), (38, .bool ((decide ((((k : Nat) : Int) : Int) < (((ss.length : Nat) : Int) : Int))))), (63, .bool false)]) ⟨rfl, rfl, rfl, rfl, rfl, rfl, rfl, rfl, rfl, rfl, rfl, rfl, rfl, rfl, rfl, trivial⟩ ?_)
                refine WE.next ?_
                refine WC.seq ?_
                refine WC.seq ?_
                refine WC.region ?_
                have hB332 := hB229.below hb244
                refine WL.val (.agg #[.int .i64 ((p.app ss).f), .slice a211 ((p.app ss).args.length) c212]) rfl rfl rfl (fun za zC zh zk => ld_24 rfl (zh.ev rfl) ((hB332.cell 0).trans rfl) ((hB332.cell 1).trans rfl) zk) ?_
                have ho333 := ho247.below hb244
                refine WL.call rfl rfl rfl (fun za zh zC => wp_call (by kernel_rfl) rfl (hv2 (zh.ev rfl) (zh.ev rfl))) (rsmall_any (p.app ss) 48 _ _ (by omega) hxz9 (IsT.below (Below.refl _ _) (InT.isT ho333))) ?_
                rintro _ w335 ⟨rfl, hq334⟩
                refine WL.val (.bool ((!((p.app ss).small 48)))) rfl rfl rfl (fun za zC zh zk => wp_not rfl (zh.ev rfl) zk) ?_
                refine WL.nil (WE.sub (K' := [(0, .agg #[.int .i64 p.f, .slice pa0 p.args.length pc0]), (1, .agg #[.int .i64 t.f, .slice ta0 t.args.length tc0]), (2, .slice sa ss.length sc), (3, .pointer (some ⟨g2, 0, none⟩)), (4, .pointer (some ⟨g9, 0, none⟩)), (8, .slice none 0 0), (9, .bool false), (10, .pointer (some ⟨g214, 0, none⟩)), (11, .slice none 0 0), (12, .bool false), (33, .bool (((((!(p.small 48)) || (!(t.small 48))) || (((subCheck ss) : Int) != (0 : Int))) || (decide ((100 : Int) < (((ss.length : Nat) : Int) : Int)))))), (36, .int .i64 (((ss.length : Nat) : Int))), (37, .int .i64 (((k : Nat) : Int))), (38, .bool ((decide ((((k : Nat) : Int) : Int) < (((ss.length : Nat) : Int) : Int))))), (63, .bool false), (75, .bool ((!((p.app ss).small 48))))]) ⟨rfl, rfl, rfl, rfl, rfl, rfl, rfl, rfl, rfl, rfl, rfl, rfl, rfl, rfl, rfl, rfl, trivial⟩ ?_)
                refine WE.next ?_
                refine WC.cond rfl (fun h336 => ?_) (fun h336 => ?_)
                · have h336 : ¬ (((p.app ss).small 48) = true) := by simpa using h336
                  refine WC.seq ?_
                  refine WC.region ?_
                  refine WL.call rfl rfl rfl (fun za zh zC => wp_call (by kernel_rfl) rfl (hv0)) (wakes_any _) ?_
                  rintro _ w338 ⟨rfl, hq337⟩
                  refine WL.val (.bool true) rfl rfl rfl (fun za zC zh zk => wp_assign rfl (zh.ev rfl) zk) ?_
                  refine WL.nil (WE.sub (K' := [(0, .agg #[.int .i64 p.f, .slice pa0 p.args.length pc0]), (1, .agg #[.int .i64 t.f, .slice ta0 t.args.length tc0]), (2, .slice sa ss.length sc), (3, .pointer (some ⟨g2, 0, none⟩)), (4, .pointer (some ⟨g9, 0, none⟩)), (6, .bool true), (8, .slice none 0 0), (9, .bool false), (10, .pointer (some ⟨g214, 0, none⟩)), (11, .slice none 0 0), (12, .bool false), (33, .bool (((((!(p.small 48)) || (!(t.small 48))) || (((subCheck ss) : Int) != (0 : Int))) || (decide ((100 : Int) < (((ss.length : Nat) : Int) : Int)))))), (36, .int .i64 (((ss.length : Nat) : Int))), (37, .int .i64 (((k : Nat) : Int))), (38, .bool ((decide ((((k : Nat) : Int) : Int) < (((ss.length : Nat) : Int) : Int))))), (63, .bool false), (75, .bool ((!((p.app ss).small 48))))]) ⟨rfl, rfl, rfl, rfl, rfl, rfl, rfl, rfl, rfl, rfl, rfl, rfl, rfl, rfl, rfl, rfl, rfl, trivial⟩ ?_)
                  refine WE.next ?_
                  refine WC.ret ?_
                  refine WE.thenRet ?_
                  refine WE.ret1 rfl rfl ?_
                  have hb339 : Below w.heap.size w w338 := (bstep (bstep (bstep hb233 hb244) hq334) hq337)
                  exact ⟨_, rfl, rfl, hb339⟩
                · have h336 : ¬ (¬ (((p.app ss).small 48) = true)) := by simpa using h336
                  have hxs : (p.app ss).small 48 = true := by simpa using h336
                  exact absurd (makes_is (small_plain hps) (small_plain hxs)) hok246

end Go.Proofs.Ytcmfjnadjddboaa

/- Rows of things of several cells, how they lie in memory. -/
namespace Go.Proofs.Ytcmfjnadjddboaa
open Go.RowKit

/-- The row at 'a' holds the things 'l', 'k' cells each. -/
def IsRow {α : Type} (w : World) (k : Nat) (R : World → α → List Value → Prop) (l : List α) (a : Option Addr) : Prop :=
  ∀ i (hi : i < l.length), ∃ (b o : Nat) (cs : List Value), a = some ⟨b, o, none⟩ ∧ cs.length = k ∧ (∀ j, j < k → w.cell? ⟨b, o + i * k + j, none⟩ = cs[j]?) ∧ R w l[i] cs

theorem IsRow.keep {α : Type} {w w' : World} {k : Nat} {R : World → α → List Value → Prop} {l : List α} {a : Option Addr} (h : IsRow w k R l a) (hb : Below w.heap.size w w') (hR : ∀ x cs, R w x cs → R w' x cs) : IsRow w' k R l a := by
  intro i hi
  obtain ⟨b, o, cs, h1, h2, h3, h4⟩ := h i hi
  refine ⟨b, o, cs, h1, h2, fun j hj => ?_, hR _ _ h4⟩
  have := h3 j hj
  rw [List.getElem?_eq_getElem (by omega)] at this ⊢
  exact bkeeps hb _ _ this

section
variable {H : Type} {enc : TypeId × Value → H} {P : Program} {w : World} {base : Nat} {spare : Nat → Bool} {held : Bool}

/-- A slice opened: its things, one by one. -/
theorem open_row {α : Type} [Inhabited α] {t e : TypeId} {k : Nat} {fuel : Nat} {cs : List Value} {x : DataW H × List MemPlace} (ht : P.underlying t = some (.slice e)) (hC : P.cellsOf e = k) (hk : 0 < k)
    (h : DataW.trod enc P w base spare held fuel t cs = some x) {R : World → α → List Value → Prop} {S : α → DataW H → Prop}
    (hel : ∀ n cs x, DataW.trod enc P w base spare held n e cs = some x → ∃ a : α, R w a cs ∧ S a x.1) :
    ∃ (l : List α) (a : Option Addr) (cap : Nat) (ds sp : List (DataW H)), cs = [.slice a l.length cap] ∧ l.length ≤ cap ∧ cap ≤ maxLen ∧ IsRow w k R l a ∧ ds.length = l.length ∧ (x.1 = .nil ∧ l = [] ∧ ds = [] ∨ x.1 = .slice ds sp) ∧
      ∀ i (hi : i < l.length) (hd : i < ds.length), S l[i] ds[i] := by
  rcases DataW.trod_slice ht h with ⟨rfl, rfl⟩ | ⟨a, len, cap, elems, rest, m, rfl, rfl, rfl, hb, hlc, hcm, hlen, hat, _, _⟩
  · exact ⟨[], none, 0, [], [], rfl, Nat.le_refl _, Nat.zero_le _, fun i hi => absurd hi (by simp), rfl, .inl ⟨rfl, rfl, rfl⟩, fun i hi => absurd hi (by simp)⟩
  · have hspot : 0 < len → ∃ b o, a = ⟨b, o, none⟩ := by
      intro h0
      have hk := hat 0 h0
      rw [hC, List.getElem?_eq_getElem (by omega)] at hk
      obtain ⟨cs', h1, _⟩ := Option.bind_eq_some_iff.1 hk
      obtain ⟨_, hl', hcell⟩ := World.cells?_some h1
      have c0 := hcell 0 (by omega)
      rw [List.getElem?_eq_getElem (by omega)] at c0
      have := World.cell?_spot c0
      obtain ⟨b, o, spot⟩ := a
      exact ⟨b, o, by simpa [Addr.add] using this⟩
    have key : ∀ i, i < len → ∃ t : α, (∃ (b o : Nat) (cs : List Value), some a = some ⟨b, o, none⟩ ∧ cs.length = k ∧ (∀ j, j < k → w.cell? ⟨b, o + i * k + j, none⟩ = cs[j]?) ∧ R w t cs) ∧
        ∀ (hd : i < elems.length), S t elems[i].1 := by
      intro i hi
      have hk := hat i hi
      rw [hC, List.getElem?_eq_getElem (by omega)] at hk
      obtain ⟨cs', h1, h2⟩ := Option.bind_eq_some_iff.1 hk
      obtain ⟨t, hR, hS⟩ := hel _ _ _ h2
      obtain ⟨_, hl', hcell⟩ := World.cells?_some h1
      obtain ⟨b, o, rfl⟩ := hspot (by omega)
      refine ⟨t, ⟨b, o, cs', rfl, hl', fun j hj => ?_, hR⟩, fun _ => hS⟩
      have := hcell j hj
      rwa [add_plain2, add_plain2] at this
    obtain ⟨F, hF⟩ := Go.Deep.choose_lt key
    have hLL : ((List.range len).map F).length = len := by simp
    refine ⟨(List.range len).map F, some a, cap, elems.map (·.1), rest.map (·.1), by rw [hLL], by rw [hLL]; exact hlc, hcm, fun i hi => ?_, by rw [hLL]; simpa using hlen, .inr rfl, fun i hi hd => ?_⟩
    · have := (hF i (by simpa using hi)).1
      simpa using this
    · have := (hF i (by simpa using hi)).2 (by simpa using hd)
      simpa using this
end


end Go.Proofs.Ytcmfjnadjddboaa

/- What a law's statement asks behind its call, where the call answers true and leaves all that was there as it was. -/
namespace Go.Proofs.Ytcmfjnadjddboaa
open Go.ChangeShapes Go.WideShapes Go.ChangeAt Go.RowKit

section
variable {H : Type} {enc : TypeId × Value → H} {P : Program}

theorem trodAll_below (hl : laidOutB P = true) {W W' : World} (hb : Below W.heap.size W W') : ∀ {ts : List TypeId} {vs : List Value} {ds : List (DataW H)} {ps : List MemPlace},
    (∀ t ∈ ts, P.readableRec t = true ∧ t < P.types.size) → (∀ x ∈ ps, x.block < W.heap.size) → DataW.TrodAll enc P W 0 (fun _ => true) true ts vs ds ps →
    DataW.TrodAll enc P W' 0 (fun b => decide (b < W.heap.size)) true ts vs ds ps
  | [], [], [], _, _, _, h => h
  | t :: ts, v :: vs, d :: ds, ps, hr, hlt, ⟨p, q, h1, h2, e⟩ => by
    subst e
    exact ⟨p, q, Below.trod hl (hr t (by simp)).1 (hr t (by simp)).2 h1 hb (fun x hx => hlt x (by simp [hx])), trodAll_below hl hb (fun t ht => hr t (by simp [ht])) (fun x hx => hlt x (by simp [hx])) h2, rfl⟩
  | [], _ :: _, _, _, _, _, h => h.elim
  | [], [], _ :: _, _, _, _, h => h.elim
  | _ :: _, [], _, _, _, _, h => h.elim
  | _ :: _, _ :: _, [], _, _, _, h => h.elim

theorem law_post {f : Func} {s : ChangeSpec} {W W' : World} {args : Array Value} {ds gs : List (DataW H)} {before : List MemPlace} {tb : TypeId} (hl : laidOutB P = true) (hr : ∀ t ∈ f.params.toList, P.readableRec t = true ∧ t < P.types.size)
    (htb : P.underlying tb = some .bool) (hrt : f.resultTypes = #[tb]) (hv : s.vars = []) (hs : s.fn H ds = { results := [.lit (.bool true)], args := ds })
    (hW : DataW.Whole enc P f.params.toList s.vars false W args.toList ds gs before) (hb : Below W.heap.size W W') : s.post enc P f false true false false W args (.bool true) W' := by
  have hlt : ∀ p ∈ before, p.block < W.heap.size := fun p hp => hW.lt p hp
  have hW0 := hW
  obtain ⟨p, q, hA, hV, hpq, _, _⟩ := hW
  rw [hv] at hV
  obtain ⟨rfl, rfl⟩ := trodVars_none hV
  refine ⟨ds, [], before, [], p, [], hW0, ?_, ?_, ?_, hb.frame _, fun h => by cases h⟩
  · rw [List.append_nil, hs, hrt]
    exact trodAll_cons_mk (shut_bool htb _) trodAll_mk0
  · rw [List.append_nil, hs]
    refine trodAll_below hl hb hr (fun x hx => hlt x ?_) hA
    rw [hpq]; simp [hx]
  · rw [List.append_nil, hv]
    have : (s.fn H ds).vars = [] := by rw [hs]
    rw [this]
    rfl
end

end Go.Proofs.Ytcmfjnadjddboaa

/- Arguments of a law, opened: terms, integers, truth values; rows in general. -/
namespace Go.Proofs.Ytcmfjnadjddboaa
open Go.ChangeShapes Go.WideShapes Go.ChangeAt Go.RowKit

theorem own : ownKnob Try.prog.godebug = none := by kernel_rfl

theorem one_le_bulk {H : Type} (d : DataW H) : 1 ≤ Rows.uptoBulk d := by
  cases d with
  | lit l => cases l <;> simp [Rows.uptoBulk]
  | _ => simp [Rows.uptoBulk]
theorem len_le_bulk {H : Type} (ds : List (DataW H)) : ds.length ≤ Rows.uptoBulkAll ds := by
  induction ds with
  | nil => simp
  | cons d r ih => have := one_le_bulk d; simp only [List.length_cons, Rows.uptoBulkAll]; omega
theorem readable_all {P : Program} {ts : List TypeId} (h : (ts.all fun t => P.readableRec t && Nat.blt t P.types.size) = true) : ∀ t ∈ ts, P.readableRec t = true ∧ t < P.types.size := by
  intro t ht
  have := List.all_eq_true.1 h t ht
  simp only [Bool.and_eq_true, Nat.blt_eq] at this
  exact this
theorem bulk_mem {H : Type} {l : List (DataW H)} (hk : Rows.uptoSmall H l = true) {d : DataW H} (h : d ∈ l) : Rows.uptoBulk d ≤ 1048576 :=
  Nat.le_trans (bulkAll_le h) (of_decide_eq_true hk)

section
variable {H : Type} {enc : TypeId × Value → H} {w : World} {base : Nat} {spare : Nat → Bool} {held : Bool}
set_option maxRecDepth 100000 in
theorem arg_T {r : Reach} {b : Nat} {v : Value} {d : DataW H} {p : List MemPlace} (h : Value.okWide Try.prog w r b 24 v) (ht : DataW.Trod enc Try.prog w base spare held 24 v d p) :
    ∃ t : T, IsT w t v ∧ t.size ≤ Rows.uptoBulk d := by
  obtain ⟨cs, rfl, _⟩ := okWide_struct Try.underlying24 h
  obtain ⟨fuel, hf⟩ := ht
  obtain ⟨t, u, v, e, h1, h2⟩ := open_T _ _ _ hf
  have e' : cs = #[u, v] := by
    apply Array.toList_inj.1
    exact e
  subst e'
  exact ⟨t, h1, h2⟩
set_option maxRecDepth 100000 in
theorem arg_int {r : Reach} {b : Nat} {v : Value} {d : DataW H} {p : List MemPlace} (h : Value.okWide Try.prog w r b 3 v) (ht : DataW.Trod enc Try.prog w base spare held 3 v d p) :
    ∃ n : Int, v = .int .i64 n ∧ I64 n := by
  obtain ⟨n, rfl⟩ := okWide_int Try.underlying3 h
  obtain ⟨fuel, hf⟩ := ht
  obtain ⟨m, e, _, wf⟩ := DataW.trod_int Try.underlying3 hf
  have e' : (.int .i64 n : Value) = .int .i64 m := by simpa [Value.cells] using e
  simp only [Value.int.injEq, true_and] at e'
  exact ⟨n, rfl, by rw [e']; exact i64_wf wf⟩

theorem bulk_at {H : Type} : ∀ {ds : List (DataW H)} {d : DataW H}, d ∈ ds → Rows.uptoBulk d ≤ Rows.uptoBulkAll ds
  | [], _, h => nomatch h
  | x :: r, d, h => by
    rw [Rows.uptoBulkAll]
    rcases List.mem_cons.1 h with rfl | h
    · omega
    · have := bulk_at h; omega
/-- A row that was opened, as the rows of elements have it. -/
theorem inRow_of {α : Type} {E : Elt α} {R : World → α → List Value → Prop} {l : List α} {a : Option Addr} (hR : ∀ x cs, R w x cs → E.In (fun _ => True) w x cs) (h : IsRow w E.k R l a) : InRow E (fun _ => True) w l a := fun i hi => by
  obtain ⟨b, o, cs, h1, _, h3, h4⟩ := h i hi
  exact ⟨b, o, cs, h1, trivial, hR _ _ h4, h3⟩
theorem IsT.inTrue {t : T} {v : Value} (h : IsT w t v) : InT (fun _ => True) w t v := InT.mono (fun _ _ _ => trivial) (IsT.inT h)
end

end Go.Proofs.Ytcmfjnadjddboaa

namespace Go.Proofs.Ytcmfjnadjddboaa
open Go.ChangeShapes Go.WideShapes Go.ChangeAt Go.RowKit

section
variable {H : Type} {enc : TypeId × Value → H} {w : World} {base : Nat} {spare : Nat → Bool} {held : Bool}
def IsBdC (w : World) (x : Bd) (cs : List Value) : Prop := eltB.In (fun _ => True) w x cs
set_option maxRecDepth 100000 in
theorem open_Bd (fuel : Nat) (cs : List Value) (x : DataW H × List MemPlace) (h : DataW.trod enc Try.prog w base spare held fuel 57 cs = some x) : ∃ y : Bd, IsBdC w y cs ∧ y.t.size ≤ Rows.uptoBulk x.1 := by
  have hC : Try.prog.cellsOf 57 = 3 := by kernel_rfl
  have hC3 : Try.prog.cellsOf 3 = 1 := by kernel_rfl
  have hC2 : Try.prog.cellsOf 24 = 2 := by kernel_rfl
  obtain ⟨xs, n, rfl, rfl, hl, hlen, hf⟩ := DataW.trod_struct Try.underlying57 h
  rw [hC] at hl
  match xs, hlen, cs, hl with
  | [y0, y1], _, [c0, c1, c2], _ =>
    have g0 : DataW.trod enc Try.prog w base spare held n 3 [c0] = some y0 := by simpa [hC3] using hf 0 _ rfl
    have g1 : DataW.trod enc Try.prog w base spare held n 24 [c1, c2] = some y1 := by simpa [hC3, hC2] using hf 1 _ rfl
    obtain ⟨f, e0, rfl, wf⟩ := DataW.trod_int Try.underlying3 g0
    simp only [List.cons.injEq, and_true] at e0
    subst e0
    obtain ⟨t, u, v, e, h1, h2⟩ := open_T _ _ _ g1
    simp only [List.cons.injEq, and_true] at e
    obtain ⟨rfl, rfl⟩ := e
    refine ⟨⟨f, t⟩, ⟨c1, c2, rfl, i64_wf wf, h1.inTrue⟩, ?_⟩
    show t.size ≤ _
    simp only [Rows.uptoBulk, List.map_cons, List.map_nil, Rows.uptoBulkAll]; omega
set_option maxRecDepth 100000 in
theorem arg_Sub {r : Reach} {b : Nat} {v : Value} {d : DataW H} {p : List MemPlace} (h : Value.okWide Try.prog w r b 26 v) (ht : DataW.Trod enc Try.prog w base spare held 26 v d p) (hk : Rows.uptoBulk d ≤ 1048576) :
    ∃ (l : List Bd) (a : Option Addr) (c : Nat), v = .slice a l.length c ∧ IsSub w l a c ∧ l.length ≤ 1048576 ∧ ∀ x ∈ l, x.t.size ≤ 1048576 := by
  obtain ⟨a, n, c, rfl⟩ := okWide_slice Try.underlying26 h
  obtain ⟨fuel, hf⟩ := ht
  have : Inhabited Bd := ⟨default⟩
  obtain ⟨l, a', c', ds, sp, e, h1, h2, h3, h4, h5, h6⟩ := open_row Try.underlying26 (k := 3) (by kernel_rfl) (by omega) hf (R := IsBdC) (S := fun y d => y.t.size ≤ Rows.uptoBulk d) (fun n cs x hx => open_Bd n cs x hx)
  have e' : Value.slice a n c = .slice a' l.length c' := by simpa [Value.cells] using e
  have hlen : l.length ≤ 1048576 := by
    rcases h5 with ⟨_, rfl, _⟩ | e
    · simp
    · have := len_le_bulk ds
      have e2 : d = .slice ds sp := e
      rw [e2] at hk; simp only [Rows.uptoBulk] at hk; omega
  have hsz : ∀ x ∈ l, x.t.size ≤ 1048576 := fun x hx => by
    obtain ⟨i, hi, rfl⟩ := List.getElem_of_mem hx
    have hs := h6 i hi (by omega)
    rcases h5 with ⟨_, rfl, _⟩ | e
    · simp at hi
    · have := bulk_at (List.getElem_mem (show i < ds.length by omega))
      have e2 : d = .slice ds sp := e
      rw [e2] at hk; simp only [Rows.uptoBulk] at hk; omega
  exact ⟨l, a', c', e', ⟨inRow_of (E := eltB) (fun _ _ h => h) h3, h1, h2, by omega, fun x hx => by have := hsz x hx; omega⟩, hlen, hsz⟩
end

end Go.Proofs.Ytcmfjnadjddboaa
