/- The walk through the law SubstMoves. -/
import Derived.Test.YtgechlgdnnpoeaaSubWakes
import Derived.Test.YtgechlgdnnpoeaaSubMove
import Derived.Test.YtgechlgdnnpoeaaSame
namespace Go.Proofs.Ytgechlgdnnpoeaa
open Go.RowKit Go

mutual
theorem T.size_mv (m : Int) : ∀ t : T, (t.mv m).size = t.size
  | .mk f l => by rw [T.mv, T.size, T.size, T.sizeL_mv m l]
theorem T.sizeL_mv (m : Int) : ∀ l : List T, T.sizeL (T.mvL m l) = T.sizeL l
  | [] => rfl
  | t :: r => by rw [T.mvL, T.sizeL, T.sizeL, T.size_mv m t, T.sizeL_mv m r]
end
set_option maxRecDepth 100000 in
theorem moves_any (t : T) (m : Int) (w : World) (v : Value) (hz : t.size ≤ 4294967296) (hv : IsT w t v) (hm : I64 m) : Calls Try.prog 5 #[v, .int .i64 m] w (Ret fun v' w' => v' = .bool true ∧ Below w.heap.size w w') := by
  have hvt := hv
  obtain ⟨hf, a, c, rfl, hc, hmx, hl⟩ := hv.form
  refine Calls.walk (l := [.agg #[.int .i64 t.f, .slice a t.args.length c], .int .i64 m]) Try.func5 rfl (by kernel_rfl) ?_
  refine WC.sub (K' := [(0, .agg #[.int .i64 t.f, .slice a t.args.length c]), (1, .int .i64 m)]) ⟨rfl, rfl, trivial⟩ ?_
  refine WC.seq ?_
  refine WC.region ?_
  refine WL.step (post := NewBlk w 32 #[.int .i64 t.f, .slice a t.args.length c]) rfl rfl rfl (fun za zC zh zk => box_32 rfl (zh.ev rfl) (zk _ _ (newBlk _ _ _))) ?_
  rintro _ w1 ⟨g2, rfl, hg3, hB4, hb5, hz6⟩
  have hl7 : w.heap.size ≤ g2 := by omega
  refine WL.val (.bool false) rfl rfl rfl (fun za zC zh zk => wp_assign rfl (zh.ev rfl) zk) ?_
  refine WL.nil (WE.sub (K' := [(0, .agg #[.int .i64 t.f, .slice a t.args.length c]), (1, .int .i64 m), (2, .pointer (some ⟨g2, 0, none⟩)), (4, .bool false)]) ⟨rfl, rfl, rfl, rfl, trivial⟩ ?_)
  refine WE.next ?_
  refine WC.seq ?_
  refine WC.opt [(true, .val (.agg #[.int .i64 t.f, .slice a t.args.length c])), (true, .val (.int .i64 m)), (true, .mem (fun v w' => IsT w' (t.mv m) v) (fun v w w' hb h => IsT.below hb h)), (true, .val (.agg #[.int .i64 t.f, .slice a t.args.length c])), (true, .val (.int .i64 m)), (true, .mem (fun v w' => IsT w' (t.mv m) v) (fun v w w' hb h => IsT.below hb h)), (true, .val (.bool ((T.same (t.mv m) (t.mv m))))), (true, .val (.bool ((T.same (t.mv m) (t.mv m))))), ((true && (T.same (t.mv m) (t.mv m))), .val (.bool true)), (true, .val (.bool (((T.same (t.mv m) (t.mv m)) && true)))), (true, .val (.bool (((T.same (t.mv m) (t.mv m)) && true))))] [(0, .agg #[.int .i64 t.f, .slice a t.args.length c]), (1, .int .i64 m), (2, .pointer (some ⟨g2, 0, none⟩))] ⟨rfl, rfl, rfl, trivial⟩ (by kernel_rfl) (by kernel_rfl) (by kernel_rfl) ?_ ?_
  · refine ⟨⟨true, .none rfl, fun h w => optUndef h, fun zβ za zw zc => ?_⟩, ?_⟩
    · exact ld_32 rfl (zc.kn.ev rfl) (bkeeps zc.below _ _ ((hB4.cell 0).trans rfl)) (bkeeps zc.below _ _ ((hB4.cell 1).trans rfl)) ⟨_, rfl, Below.refl _ _, optDef zβ rfl⟩
    refine ⟨⟨true, .none rfl, fun h w => optUndef h, fun zβ za zw zc => ?_⟩, ?_⟩
    · exact wp_move rfl (zc.kn.ev rfl) ⟨_, rfl, Below.refl _ _, optDef zβ rfl⟩
    refine ⟨⟨true, .none rfl, fun h w => optUndef h, fun zβ za zw zc => ?_⟩, ?_⟩
    · exact wp_call (by kernel_rfl) rfl (hv2 ((show za.eval (.tmp 5) = za.tmps.getD 5 undef from rfl).trans (optVal (zc.dep 0 5 (by kernel_rfl)) rfl rfl)) ((show za.eval (.tmp 6) = za.tmps.getD 6 undef from rfl).trans (optVal (zc.dep 1 6 (by kernel_rfl)) rfl rfl))) (move_any t m _ _ hz (IsT.below (bstep hb5 zc.below) hvt) hm) (fun v w' h => ⟨v, rfl, h.2, optDef zβ (InT.isT h.1)⟩)
    refine ⟨⟨true, .none rfl, fun h w => optUndef h, fun zβ za zw zc => ?_⟩, ?_⟩
    · exact ld_32 rfl (zc.kn.ev rfl) (bkeeps zc.below _ _ ((hB4.cell 0).trans rfl)) (bkeeps zc.below _ _ ((hB4.cell 1).trans rfl)) ⟨_, rfl, Below.refl _ _, optDef zβ rfl⟩
    refine ⟨⟨true, .none rfl, fun h w => optUndef h, fun zβ za zw zc => ?_⟩, ?_⟩
    · exact wp_move rfl (zc.kn.ev rfl) ⟨_, rfl, Below.refl _ _, optDef zβ rfl⟩
    refine ⟨⟨true, .none rfl, fun h w => optUndef h, fun zβ za zw zc => ?_⟩, ?_⟩
    · exact wp_call (by kernel_rfl) rfl (hv2 ((show za.eval (.tmp 8) = za.tmps.getD 8 undef from rfl).trans (optVal (zc.dep 3 8 (by kernel_rfl)) rfl rfl)) ((show za.eval (.tmp 9) = za.tmps.getD 9 undef from rfl).trans (optVal (zc.dep 4 9 (by kernel_rfl)) rfl rfl))) (rmove_any m hm t _ _ hz (IsT.below (bstep hb5 zc.below) hvt)) (fun v w' h => ⟨v, rfl, h.2, optDef zβ (InT.isT h.1)⟩)
    refine ⟨⟨true, .none rfl, fun h w => optUndef h, fun zβ za zw zc => ?_⟩, ?_⟩
    · exact wp_call (by kernel_rfl) rfl (hv2 (show za.eval (.tmp 7) = za.tmps.getD 7 undef from rfl) (show za.eval (.tmp 10) = za.tmps.getD 10 undef from rfl)) (ret_of (rsame_any (t.mv m) (t.mv m) _ _ _ (optMem (zc.dep 2 7 (by kernel_rfl)) rfl rfl) (optMem (zc.dep 5 10 (by kernel_rfl)) rfl rfl))) (fun v w' h => ⟨v, rfl, h.2, optDef zβ h.1⟩)
    refine ⟨⟨true, .none rfl, fun h w => optUndef h, fun zβ za zw zc => ?_⟩, ?_⟩
    · exact wp_move rfl ((show za.eval (.tmp 11) = za.tmps.getD 11 undef from rfl).trans (optVal (zc.dep 6 11 (by kernel_rfl)) rfl rfl)) ⟨_, rfl, Below.refl _ _, optDef zβ rfl⟩
    refine ⟨⟨(true && (T.same (t.mv m) (t.mv m))), .yes (c := (T.same (t.mv m) (t.mv m))) (d := true) rfl (fun v w h => h), fun h w => optUndef h, fun zβ za zw zc => ?_⟩, ?_⟩
    · exact wp_call (by kernel_rfl) rfl (hv0) (wakes_any _) (fun v w' h => ⟨v, rfl, h.2, optDef zβ h.1⟩)
    refine ⟨⟨true, .none rfl, fun h w => optUndef h, fun zβ za zw zc => ?_⟩, ?_⟩
    · exact wp_and rfl ((show za.eval (.tmp 12) = za.tmps.getD 12 undef from rfl).trans (optVal (zc.dep 7 12 (by kernel_rfl)) rfl rfl)) (fun hp => ((show za.eval (.tmp 13) = za.tmps.getD 13 undef from rfl).trans (optVal (zc.dep 8 13 (by kernel_rfl)) rfl (bMk zβ hp)))) ⟨_, rfl, Below.refl _ _, optDef zβ rfl⟩
    refine ⟨⟨true, .none rfl, fun h w => optUndef h, fun zβ za zw zc => ?_⟩, ?_⟩
    · exact wp_assign rfl ((show za.eval (.tmp 14) = za.tmps.getD 14 undef from rfl).trans (optVal (zc.dep 9 14 (by kernel_rfl)) rfl rfl)) ⟨_, rfl, Below.refl _ _, optDef zβ rfl⟩
    exact trivial
  · intro za w8 zh hb9 zu
    have zh := zh.cons (d := 4) (v := .bool (((T.same (t.mv m) (t.mv m)) && true))) (optVal (zu 10 4 (by kernel_rfl)) rfl rfl)
    clear zu
    refine (show WE _ [(0, .agg #[.int .i64 t.f, .slice a t.args.length c]), (1, .int .i64 m), (2, .pointer (some ⟨g2, 0, none⟩)), (4, .bool (((T.same (t.mv m) (t.mv m)) && true)))] w8 _ .normal from ?_) za (zh.sub ⟨rfl, rfl, rfl, rfl, trivial⟩)
    refine WE.next ?_
    refine WC.ret ?_
    refine WE.ret1 rfl rfl ?_
    have hb10 : Below w.heap.size w w8 := (bstep hb5 hb9)
    exact ⟨_, rfl, congrArg Value.bool (by simp [T.same_refl]), hb10⟩

end Go.Proofs.Ytgechlgdnnpoeaa
