/- Unifiers, plain: what a told unifier makes of terms; pairs that stand otherwise; every unifier comes of it. -/
import Derived.Test.YthhgidliopohcaaUNOd
import Derived.Test.YthhgidliopohcaaUNOa
import Derived.Test.YthhgidliopohcaaUNOg

/- What a variable is bound to. -/
namespace Go.Proofs.Ythhgidliopohcaa
open Go.RowKit Go
set_option linter.unusedVariables false
set_option linter.unusedSimpArgs false
/-- The value is the binding. -/
def IsBd (w : World) (x : Bd) (v : Value) : Prop := ∃ a c, v = .agg #[.int .i64 x.var, .int .i64 x.t.f, .slice a x.t.args.length c] ∧ I64 x.var ∧ IsT w x.t (.agg #[.int .i64 x.t.f, .slice a x.t.args.length c])
theorem IsBd.below {w w' : World} {x : Bd} {v : Value} (hb : Below w.heap.size w w') (h : IsBd w x v) : IsBd w' x v := by
 obtain ⟨a, c, e, h1, h2⟩ := h; exact ⟨a, c, e, h1, IsT.below hb h2⟩
set_option maxRecDepth 100000 in
theorem itself_any (x : Bd) (w : World) (v : Value) (hv : IsBd w x v) : Calls Try.prog 41 #[v] w (Ret fun v' w' => v' = .bool x.itself ∧ Below w.heap.size w w') := by
 obtain ⟨a, c, rfl, hi, ht⟩ := hv
 unfold I64 at hi
 refine Calls.walk (l := [.agg #[.int .i64 x.var, .int .i64 x.t.f, .slice a x.t.args.length c]]) Try.func41 rfl (by kernel_rfl) ?_
 refine WC.sub (K' := [(0, .agg #[.int .i64 x.var, .int .i64 x.t.f, .slice a x.t.args.length c])]) ⟨rfl, trivial⟩ ?_
 refine WC.seq (WC.region ?_)
 refine WL.step (post := NewBlk w 41 #[.int .i64 x.var, .int .i64 x.t.f, .slice a x.t.args.length c]) rfl rfl rfl (fun za zC zh zk => box_41 rfl (zh.ev rfl) (zk _ _ (newBlk _ _ _))) ?_
 rintro _ w1 ⟨g2, rfl, hg3, hB4, hb5, hz6⟩
 have hl7 : w.heap.size ≤ g2 := by omega
 refine WL.asg rfl rfl rfl rfl rfl (WL.nil (WE.next (WC.seq ?_)))
 refine WC.opt [(true, .val (.pointer (some ⟨g2, 1, none⟩))), (true, .val (.pointer (some ⟨g2, 1, none⟩))), (true, .val (.int .i64 x.t.f)), (true, .val (.pointer (some ⟨g2, 0, none⟩))), (true, .val (.int .i64 x.var)), (true, .val (.int .i64 ((-1 - x.var)))), (true, .val (.bool (((x.t.f : Int) == ((-1 - x.var) : Int))))), (true, .val (.bool (((x.t.f : Int) == ((-1 - x.var) : Int))))), ((true && ((x.t.f : Int) == ((-1 - x.var) : Int))), .val (.pointer (some ⟨g2, 1, none⟩))), ((true && ((x.t.f : Int) == ((-1 - x.var) : Int))), .val (.pointer (some ⟨g2, 2, none⟩))), ((true && ((x.t.f : Int) == ((-1 - x.var) : Int))), .val (.slice a x.t.args.length c)), ((true && ((x.t.f : Int) == ((-1 - x.var) : Int))), .val (.int .i64 (((x.t.args.length : Nat) : Int)))), ((true && ((x.t.f : Int) == ((-1 - x.var) : Int))), .val (.bool (((((x.t.args.length : Nat) : Int) : Int) == (0 : Int))))), (true, .val (.bool ((((x.t.f : Int) == ((-1 - x.var) : Int)) && ((((x.t.args.length : Nat) : Int) : Int) == (0 : Int)))))), (true, .val (.bool ((((x.t.f : Int) == ((-1 - x.var) : Int)) && ((((x.t.args.length : Nat) : Int) : Int) == (0 : Int))))))] [(0, .agg #[.int .i64 x.var, .int .i64 x.t.f, .slice a x.t.args.length c]), (1, .pointer (some ⟨g2, 0, none⟩))] ⟨rfl, rfl, trivial⟩ (by kernel_rfl) (by kernel_rfl) (by kernel_rfl) ?_ ?_
 ·refine ⟨⟨true, .none rfl, fun h w => optUndef h, fun zβ za zw zc => ?_⟩, ?_⟩
  ·exact fld_41_1 rfl (zc.kn.ev rfl) ⟨_, rfl, Below.refl _ _, optDef zβ rfl⟩
  refine ⟨⟨true, .none rfl, fun h w => optUndef h, fun zβ za zw zc => ?_⟩, ?_⟩
  ·exact fld_32_0 rfl ((evt za 3).trans (optVal (zc.dep 0 3 (by kernel_rfl)) rfl rfl)) ⟨_, rfl, Below.refl _ _, optDef zβ rfl⟩
  refine ⟨⟨true, .none rfl, fun h w => optUndef h, fun zβ za zw zc => ?_⟩, ?_⟩
  ·exact ld_3 rfl ((evt za 4).trans (optVal (zc.dep 1 4 (by kernel_rfl)) rfl rfl)) (bkeeps zc.below _ _ ((hB4.cell 1).trans rfl)) ⟨_, rfl, Below.refl _ _, optDef zβ rfl⟩
  refine ⟨⟨true, .none rfl, fun h w => optUndef h, fun zβ za zw zc => ?_⟩, ?_⟩
  ·exact fld_41_0 rfl (zc.kn.ev rfl) ⟨_, rfl, Below.refl _ _, optDef zβ rfl⟩
  refine ⟨⟨true, .none rfl, fun h w => optUndef h, fun zβ za zw zc => ?_⟩, ?_⟩
  ·exact ld_3 rfl ((evt za 6).trans (optVal (zc.dep 3 6 (by kernel_rfl)) rfl rfl)) (bkeeps zc.below _ _ ((hB4.cell 0).trans rfl)) ⟨_, rfl, Below.refl _ _, optDef zβ rfl⟩
  refine ⟨⟨true, .none rfl, fun h w => optUndef h, fun zβ za zw zc => ?_⟩, ?_⟩
  ·exact subb_3 rfl (zc.kn.ev rfl) ((evt za 7).trans (optVal (zc.dep 4 7 (by kernel_rfl)) rfl rfl)) (wrap_eq rfl (by omega) (by omega)) ⟨_, rfl, Below.refl _ _, optDef zβ rfl⟩
  refine ⟨⟨true, .none rfl, fun h w => optUndef h, fun zβ za zw zc => ?_⟩, ?_⟩
  ·exact eql_3 rfl ((evt za 5).trans (optVal (zc.dep 2 5 (by kernel_rfl)) rfl rfl)) ((evt za 8).trans (optVal (zc.dep 5 8 (by kernel_rfl)) rfl rfl)) ⟨_, rfl, Below.refl _ _, optDef zβ rfl⟩
  refine ⟨⟨true, .none rfl, fun h w => optUndef h, fun zβ za zw zc => ?_⟩, ?_⟩
  ·exact wp_move rfl ((evt za 9).trans (optVal (zc.dep 6 9 (by kernel_rfl)) rfl rfl)) ⟨_, rfl, Below.refl _ _, optDef zβ rfl⟩
  refine ⟨⟨_, .yes (c := ((x.t.f : Int) == ((-1 - x.var) : Int))) (d := true) rfl (fun v w h => h), fun h w => optUndef h, fun zβ za zw zc => ?_⟩, ?_⟩
  ·exact fld_41_1 rfl (zc.kn.ev rfl) ⟨_, rfl, Below.refl _ _, optDef zβ rfl⟩
  refine ⟨⟨_, .yes (c := ((x.t.f : Int) == ((-1 - x.var) : Int))) (d := true) rfl (fun v w h => h), fun h w => optUndef h, fun zβ za zw zc => ?_⟩, ?_⟩
  ·exact fld_32_1 rfl ((evt za 11).trans (optVal (zc.dep 8 11 (by kernel_rfl)) rfl zβ)) ⟨_, rfl, Below.refl _ _, optDef zβ rfl⟩
  refine ⟨⟨_, .yes (c := ((x.t.f : Int) == ((-1 - x.var) : Int))) (d := true) rfl (fun v w h => h), fun h w => optUndef h, fun zβ za zw zc => ?_⟩, ?_⟩
  ·exact ld_30 rfl ((evt za 12).trans (optVal (zc.dep 9 12 (by kernel_rfl)) rfl zβ)) (bkeeps zc.below _ _ ((hB4.cell 2).trans rfl)) ⟨_, rfl, Below.refl _ _, optDef zβ rfl⟩
  refine ⟨⟨_, .yes (c := ((x.t.f : Int) == ((-1 - x.var) : Int))) (d := true) rfl (fun v w h => h), fun h w => optUndef h, fun zβ za zw zc => ?_⟩, ?_⟩
  ·exact len_30 rfl ((evt za 13).trans (optVal (zc.dep 10 13 (by kernel_rfl)) rfl zβ)) ⟨_, rfl, Below.refl _ _, optDef zβ rfl⟩
  refine ⟨⟨_, .yes (c := ((x.t.f : Int) == ((-1 - x.var) : Int))) (d := true) rfl (fun v w h => h), fun h w => optUndef h, fun zβ za zw zc => ?_⟩, ?_⟩
  ·exact eql_3 rfl ((evt za 14).trans (optVal (zc.dep 11 14 (by kernel_rfl)) rfl zβ)) (zc.kn.ev rfl) ⟨_, rfl, Below.refl _ _, optDef zβ rfl⟩
  refine ⟨⟨true, .none rfl, fun h w => optUndef h, fun zβ za zw zc => ?_⟩, ?_⟩
  ·exact wp_and rfl ((evt za 10).trans (optVal (zc.dep 7 10 (by kernel_rfl)) rfl rfl)) (fun hp => ((evt za 15).trans (optVal (zc.dep 12 15 (by kernel_rfl)) rfl (bMk zβ hp)))) ⟨_, rfl, Below.refl _ _, optDef zβ rfl⟩
  refine ⟨⟨true, .none rfl, fun h w => optUndef h, fun zβ za zw zc => ?_⟩, ?_⟩
  ·exact wp_assign rfl ((evt za 16).trans (optVal (zc.dep 13 16 (by kernel_rfl)) rfl rfl)) ⟨_, rfl, Below.refl _ _, optDef zβ rfl⟩
  exact trivial
 ·intro za w8 zh hb9 zu
  have zh := zh.cons (d := 2) (v := .bool ((((x.t.f : Int) == ((-1 - x.var) : Int)) && ((((x.t.args.length : Nat) : Int) : Int) == (0 : Int))))) (optVal (zu 14 2 (by kernel_rfl)) rfl rfl)
  clear zu
  refine WE.go zh ?_
  refine WE.next (WC.ret (WE.ret1 rfl rfl ?_))
  have hb10 : Below w.heap.size w w8 := (bstep hb5 hb9)
  exact ⟨_, rfl, congrArg Value.bool (by unfold Bd.itself; rw [Bool.eq_iff_iff]; simp), hb10⟩
set_option maxRecDepth 100000 in
theorem ritself_any (x : Bd) (w : World) (v : Value) (hi : I64 x.var) (hv : IsT w x.t v) : Calls Try.prog 30 #[v, .int .i64 x.var] w (Ret fun v' w' => v' = .bool x.itself ∧ Below w.heap.size w w') := by
 obtain ⟨hf, a, c, rfl, hc, hm, hl⟩ := hv.form
 unfold I64 at hi
 refine Calls.walk (l := [.agg #[.int .i64 x.t.f, .slice a x.t.args.length c], .int .i64 x.var]) Try.func30 rfl (by kernel_rfl) ?_
 refine WC.sub (K' := [(0, .agg #[.int .i64 x.t.f, .slice a x.t.args.length c]), (1, .int .i64 x.var)]) ⟨rfl, rfl, trivial⟩ ?_
 refine WC.seq (WC.region ?_)
 refine WL.step (post := NewBlk w 32 #[.int .i64 x.t.f, .slice a x.t.args.length c]) rfl rfl rfl (fun za zC zh zk => box_32 rfl (zh.ev rfl) (zk _ _ (newBlk _ _ _))) ?_
 rintro _ w1 ⟨g2, rfl, hg3, hB4, hb5, hz6⟩
 have hl7 : w.heap.size ≤ g2 := by omega
 refine WL.asg rfl rfl rfl rfl rfl (WL.nil (WE.next (WC.seq ?_)))
 refine WC.opt [(true, .val (.pointer (some ⟨g2, 0, none⟩))), (true, .val (.int .i64 x.t.f)), (true, .val (.int .i64 x.var)), (true, .val (.int .i64 ((-1 - x.var)))), (true, .val (.bool (((x.t.f : Int) == ((-1 - x.var) : Int))))), (true, .val (.bool (((x.t.f : Int) == ((-1 - x.var) : Int))))), ((true && ((x.t.f : Int) == ((-1 - x.var) : Int))), .val (.pointer (some ⟨g2, 1, none⟩))), ((true && ((x.t.f : Int) == ((-1 - x.var) : Int))), .val (.slice a x.t.args.length c)), ((true && ((x.t.f : Int) == ((-1 - x.var) : Int))), .val (.int .i64 (((x.t.args.length : Nat) : Int)))), ((true && ((x.t.f : Int) == ((-1 - x.var) : Int))), .val (.bool (((((x.t.args.length : Nat) : Int) : Int) == (0 : Int))))), (true, .val (.bool ((((x.t.f : Int) == ((-1 - x.var) : Int)) && ((((x.t.args.length : Nat) : Int) : Int) == (0 : Int)))))), (true, .val (.bool ((((x.t.f : Int) == ((-1 - x.var) : Int)) && ((((x.t.args.length : Nat) : Int) : Int) == (0 : Int))))))] [(0, .agg #[.int .i64 x.t.f, .slice a x.t.args.length c]), (1, .int .i64 x.var), (2, .pointer (some ⟨g2, 0, none⟩))] ⟨rfl, rfl, rfl, trivial⟩ (by kernel_rfl) (by kernel_rfl) (by kernel_rfl) ?_ ?_
 ·refine ⟨⟨true, .none rfl, fun h w => optUndef h, fun zβ za zw zc => ?_⟩, ?_⟩
  ·exact fld_32_0 rfl (zc.kn.ev rfl) ⟨_, rfl, Below.refl _ _, optDef zβ rfl⟩
  refine ⟨⟨true, .none rfl, fun h w => optUndef h, fun zβ za zw zc => ?_⟩, ?_⟩
  ·exact ld_3 rfl ((evt za 5).trans (optVal (zc.dep 0 5 (by kernel_rfl)) rfl rfl)) (bkeeps zc.below _ _ ((hB4.cell 0).trans rfl)) ⟨_, rfl, Below.refl _ _, optDef zβ rfl⟩
  refine ⟨⟨true, .none rfl, fun h w => optUndef h, fun zβ za zw zc => ?_⟩, ?_⟩
  ·exact wp_move rfl (zc.kn.ev rfl) ⟨_, rfl, Below.refl _ _, optDef zβ rfl⟩
  refine ⟨⟨true, .none rfl, fun h w => optUndef h, fun zβ za zw zc => ?_⟩, ?_⟩
  ·exact subb_3 rfl (zc.kn.ev rfl) ((evt za 7).trans (optVal (zc.dep 2 7 (by kernel_rfl)) rfl rfl)) (wrap_eq rfl (by omega) (by omega)) ⟨_, rfl, Below.refl _ _, optDef zβ rfl⟩
  refine ⟨⟨true, .none rfl, fun h w => optUndef h, fun zβ za zw zc => ?_⟩, ?_⟩
  ·exact eql_3 rfl ((evt za 6).trans (optVal (zc.dep 1 6 (by kernel_rfl)) rfl rfl)) ((evt za 8).trans (optVal (zc.dep 3 8 (by kernel_rfl)) rfl rfl)) ⟨_, rfl, Below.refl _ _, optDef zβ rfl⟩
  refine ⟨⟨true, .none rfl, fun h w => optUndef h, fun zβ za zw zc => ?_⟩, ?_⟩
  ·exact wp_move rfl ((evt za 9).trans (optVal (zc.dep 4 9 (by kernel_rfl)) rfl rfl)) ⟨_, rfl, Below.refl _ _, optDef zβ rfl⟩
  refine ⟨⟨_, .yes (c := ((x.t.f : Int) == ((-1 - x.var) : Int))) (d := true) rfl (fun v w h => h), fun h w => optUndef h, fun zβ za zw zc => ?_⟩, ?_⟩
  ·exact fld_32_1 rfl (zc.kn.ev rfl) ⟨_, rfl, Below.refl _ _, optDef zβ rfl⟩
  refine ⟨⟨_, .yes (c := ((x.t.f : Int) == ((-1 - x.var) : Int))) (d := true) rfl (fun v w h => h), fun h w => optUndef h, fun zβ za zw zc => ?_⟩, ?_⟩
  ·exact ld_30 rfl ((evt za 11).trans (optVal (zc.dep 6 11 (by kernel_rfl)) rfl zβ)) (bkeeps zc.below _ _ ((hB4.cell 1).trans rfl)) ⟨_, rfl, Below.refl _ _, optDef zβ rfl⟩
  refine ⟨⟨_, .yes (c := ((x.t.f : Int) == ((-1 - x.var) : Int))) (d := true) rfl (fun v w h => h), fun h w => optUndef h, fun zβ za zw zc => ?_⟩, ?_⟩
  ·exact len_30 rfl ((evt za 12).trans (optVal (zc.dep 7 12 (by kernel_rfl)) rfl zβ)) ⟨_, rfl, Below.refl _ _, optDef zβ rfl⟩
  refine ⟨⟨_, .yes (c := ((x.t.f : Int) == ((-1 - x.var) : Int))) (d := true) rfl (fun v w h => h), fun h w => optUndef h, fun zβ za zw zc => ?_⟩, ?_⟩
  ·exact eql_3 rfl ((evt za 13).trans (optVal (zc.dep 8 13 (by kernel_rfl)) rfl zβ)) (zc.kn.ev rfl) ⟨_, rfl, Below.refl _ _, optDef zβ rfl⟩
  refine ⟨⟨true, .none rfl, fun h w => optUndef h, fun zβ za zw zc => ?_⟩, ?_⟩
  ·exact wp_and rfl ((evt za 10).trans (optVal (zc.dep 5 10 (by kernel_rfl)) rfl rfl)) (fun hp => ((evt za 14).trans (optVal (zc.dep 9 14 (by kernel_rfl)) rfl (bMk zβ hp)))) ⟨_, rfl, Below.refl _ _, optDef zβ rfl⟩
  refine ⟨⟨true, .none rfl, fun h w => optUndef h, fun zβ za zw zc => ?_⟩, ?_⟩
  ·exact wp_assign rfl ((evt za 15).trans (optVal (zc.dep 10 15 (by kernel_rfl)) rfl rfl)) ⟨_, rfl, Below.refl _ _, optDef zβ rfl⟩
  exact trivial
 ·intro za w8 zh hb9 zu
  have zh := zh.cons (d := 4) (v := .bool ((((x.t.f : Int) == ((-1 - x.var) : Int)) && ((((x.t.args.length : Nat) : Int) : Int) == (0 : Int))))) (optVal (zu 11 4 (by kernel_rfl)) rfl rfl)
  clear zu
  refine WE.go zh ?_
  refine WE.next (WC.ret (WE.ret1 rfl rfl ?_))
  have hb10 : Below w.heap.size w w8 := (bstep hb5 hb9)
  exact ⟨_, rfl, congrArg Value.bool (by unfold Bd.itself; rw [Bool.eq_iff_iff]; simp), hb10⟩
theorem subOk_step {l : List Bd} {k : Nat} {last : Int} (h : k < l.length) : subOk last (l.drop k) = if (dget l k).var ≤ last ∨ (dget l k).itself = true then false else subOk (dget l k).var (l.drop (k + 1)) := by
 rw [List.drop_eq_getElem_cons h, subOk, dget_lt h]
theorem subCheck_of {l : List Bd} {b : Bool} (h : subOk (-1) l = b) : subCheck l = if b then 0 else 2 := by unfold subCheck; rw [h]
set_option maxRecDepth 100000 in
theorem check_any (l : List Bd) (w : World) (a : Option Addr) (c : Nat) (hc : l.length ≤ c) (hm : c ≤ maxLen) (hl : IsBs w l a) : Calls Try.prog 22 #[.slice a l.length c] w (Ret fun v' w' => v' = .int .i64 (subCheck l) ∧ Below w.heap.size w w') := by
 unfold maxLen at hm
 refine Calls.walk (l := [.slice a l.length c]) Try.func22 rfl (by kernel_rfl) ?_
 refine WC.sub (K' := [(0, .slice a l.length c)]) ⟨rfl, trivial⟩ ?_
 refine WC.seq (WC.region (WL.asg rfl rfl rfl rfl rfl (WL.nil (WE.next (WC.seq (WC.region (WL.asg rfl rfl rfl rfl rfl (WL.nil (WE.next (WC.seq (WC.seq (WC.region (WL.mv rfl rfl rfl rfl rfl ?_)))))))))))))
 refine WL.val (.int .i64 (((l.length : Nat) : Int))) rfl rfl rfl (fun za zC zh zk => len_24 rfl (zh.ev rfl) zk) ?_
 refine WL.mv rfl rfl rfl rfl rfl (WL.nil (WE.next (WC.block ?_)))
 refine WC.loop (X := Int × Nat) (fun x => l.length - x.2) (fun x => [(0, .slice a l.length c), (3, .int .i64 x.1), (6, .slice a l.length c), (7, .int .i64 (((l.length : Nat) : Int))), (8, .int .i64 (((x.2 : Nat) : Int)))]) (fun x w1 => x.2 ≤ l.length ∧ subOk (-1) l = subOk x.1 (l.drop x.2) ∧ Below w.heap.size w w1) ((-1, 0)) ⟨rfl, rfl, rfl, rfl, rfl, trivial⟩ ?_ ?_
 ·exact ⟨Nat.zero_le _, rfl, (Below.refl _ _)⟩
 ·rintro x w1 ⟨hk, hE, hb2⟩
  refine WC.seq (WC.region ?_)
  refine WL.val (.bool ((decide ((((x.2 : Nat) : Int) : Int) < (((l.length : Nat) : Int) : Int))))) rfl rfl rfl (fun za zC zh zk => lss_3 rfl (zh.ev rfl) (zh.ev rfl) zk) ?_
  refine WL.nil (WE.next (WC.seq ?_))
  refine WC.cond rfl (fun h3 => ?_) (fun h3 => ?_)
  ·have h3 : (((x.2 : Nat) : Int) : Int) < (((l.length : Nat) : Int) : Int) := by simpa using h3
   refine WC.skip (WE.next (WC.seq (WC.block (WC.seq (WC.region ?_)))))
   obtain ⟨b4, o5, A6, C7, ha8, hc9⟩ := InRow.openB hl
   refine WL.val _ rfl rfl rfl (fun za zC zh zk => ix_24 (k := x.2) rfl (zh.ev rfl) (ha8 x.2 (by first | omega | (simp; omega))) (zh.ev rfl) (by first | omega | (simp; omega)) zk) ?_
   refine WL.val _ rfl rfl rfl (fun za zC zh zk => ld_41 rfl (zh.ev rfl) (bkeeps hb2 _ _ (hc9 x.2 (by first | omega | (simp; omega))).1) (bkeeps hb2 _ _ (hc9 x.2 (by first | omega | (simp; omega))).2.1) (bkeeps hb2 _ _ (hc9 x.2 (by first | omega | (simp; omega))).2.2.1) zk) ?_
   refine WL.step (post := NewBlk w1 41 #[.int .i64 0, .int .i64 0, .slice none 0 0]) rfl rfl rfl (fun za zC zh zk => alloc_41 rfl (zk _ _ (newBlk _ _ _))) ?_
   rintro _ w10 ⟨g11, rfl, hg12, hB13, hb14, hz15⟩
   have hl16 : w.heap.size ≤ g11 := by have z2 := (hb2).size; omega
   refine WL.step (post := fun _ w' => Upd g11 w10 w' ∧ Blk w' g11 41 #[.int .i64 ((dget l x.2).var), .int .i64 ((dget l x.2).t.f), .slice ((A6 x.2)) ((dget l x.2).t.args.length) ((C7 x.2))]) rfl rfl rfl (fun za zC zh zk => st_41 rfl (zh.ev rfl) (zh.ev rfl) rfl rfl rfl hB13 (by first | decide | simp) (fun v => zk v _ ⟨((Upd.at_ _ _ _ _).trans (Upd.at_ _ _ _ _)).trans (Upd.at_ _ _ _ _), ((hB13.set_ 0 _).set_ 1 _).set_ 2 _⟩)) ?_
   rintro v20 w17 ⟨hu18, hB19⟩
   have hb21 : Below w.heap.size w w10 := (bstep hb2 hb14)
   have hb22 := upd_below hb21 hu18 (by omega)
   refine WL.nil (WE.next (WC.seq (WC.seq ?_)))
   refine WC.opt [(true, .val (.pointer (some ⟨g11, 0, none⟩))), (true, .val (.int .i64 ((dget l x.2).var))), (true, .val (.int .i64 x.1)), (true, .val (.bool ((decide (((dget l x.2).var : Int) ≤ (x.1 : Int)))))), (true, .val (.bool ((decide (((dget l x.2).var : Int) ≤ (x.1 : Int)))))), ((true && !(decide (((dget l x.2).var : Int) ≤ (x.1 : Int)))), .val (.agg #[.int .i64 ((dget l x.2).var), .int .i64 ((dget l x.2).t.f), .slice ((A6 x.2)) ((dget l x.2).t.args.length) ((C7 x.2))])), ((true && !(decide (((dget l x.2).var : Int) ≤ (x.1 : Int)))), .val (.bool ((dget l x.2).itself))), (true, .val (.bool (((decide (((dget l x.2).var : Int) ≤ (x.1 : Int))) || (dget l x.2).itself))))] [(0, .slice a l.length c), (3, .int .i64 x.1), (5, .pointer (some ⟨g11, 0, none⟩)), (6, .slice a l.length c), (7, .int .i64 (((l.length : Nat) : Int))), (8, .int .i64 (((x.2 : Nat) : Int))), (9, .bool ((decide ((((x.2 : Nat) : Int) : Int) < (((l.length : Nat) : Int) : Int)))))] ⟨rfl, rfl, rfl, rfl, rfl, rfl, rfl, trivial⟩ (by kernel_rfl) (by kernel_rfl) (by kernel_rfl) ?_ ?_
   ·refine ⟨⟨true, .none rfl, fun h w => optUndef h, fun zβ za zw zc => ?_⟩, ?_⟩
    ·exact fld_41_0 rfl (zc.kn.ev rfl) ⟨_, rfl, Below.refl _ _, optDef zβ rfl⟩
    refine ⟨⟨true, .none rfl, fun h w => optUndef h, fun zβ za zw zc => ?_⟩, ?_⟩
    ·exact ld_3 rfl ((evt za 12).trans (optVal (zc.dep 0 12 (by kernel_rfl)) rfl rfl)) (bkeeps zc.below _ _ ((hB19.cell 0).trans rfl)) ⟨_, rfl, Below.refl _ _, optDef zβ rfl⟩
    refine ⟨⟨true, .none rfl, fun h w => optUndef h, fun zβ za zw zc => ?_⟩, ?_⟩
    ·exact wp_move rfl (zc.kn.ev rfl) ⟨_, rfl, Below.refl _ _, optDef zβ rfl⟩
    refine ⟨⟨true, .none rfl, fun h w => optUndef h, fun zβ za zw zc => ?_⟩, ?_⟩
    ·exact leq_3 rfl ((evt za 13).trans (optVal (zc.dep 1 13 (by kernel_rfl)) rfl rfl)) ((evt za 14).trans (optVal (zc.dep 2 14 (by kernel_rfl)) rfl rfl)) ⟨_, rfl, Below.refl _ _, optDef zβ rfl⟩
    refine ⟨⟨true, .none rfl, fun h w => optUndef h, fun zβ za zw zc => ?_⟩, ?_⟩
    ·exact wp_move rfl ((evt za 15).trans (optVal (zc.dep 3 15 (by kernel_rfl)) rfl rfl)) ⟨_, rfl, Below.refl _ _, optDef zβ rfl⟩
    refine ⟨⟨_, .no (c := (decide (((dget l x.2).var : Int) ≤ (x.1 : Int)))) (d := true) rfl (fun v w h => h), fun h w => optUndef h, fun zβ za zw zc => ?_⟩, ?_⟩
    ·exact ld_41 rfl (zc.kn.ev rfl) (bkeeps zc.below _ _ ((hB19.cell 0).trans rfl)) (bkeeps zc.below _ _ ((hB19.cell 1).trans rfl)) (bkeeps zc.below _ _ ((hB19.cell 2).trans rfl)) ⟨_, rfl, Below.refl _ _, optDef zβ rfl⟩
    refine ⟨⟨_, .no (c := (decide (((dget l x.2).var : Int) ≤ (x.1 : Int)))) (d := true) rfl (fun v w h => h), fun h w => optUndef h, fun zβ za zw zc => ?_⟩, ?_⟩
    ·exact wp_call (by kernel_rfl) rfl (hv1 ((evt za 17).trans (optVal (zc.dep 5 17 (by kernel_rfl)) rfl zβ))) (itself_any (dget l x.2) _ _ (IsBd.below (bstep hb22 zc.below) ⟨_, _, rfl, (hc9 x.2 (by first | omega | (have zz := zβ; simp only [Bool.and_eq_true, Bool.or_eq_true, Bool.true_and, Bool.not_eq_true', Bool.or_eq_false_iff, Bool.and_eq_false_iff, beq_eq_false_iff_ne, ne_eq, beq_iff_eq, decide_eq_true_eq, decide_eq_false_iff_not, bne_iff_ne, bne_eq_false_iff_eq] at zz; omega))).2.2.2.2, (InT.isT (hc9 x.2 (by first | omega | (have zz := zβ; simp only [Bool.and_eq_true, Bool.or_eq_true, Bool.true_and, Bool.not_eq_true', Bool.or_eq_false_iff, Bool.and_eq_false_iff, beq_eq_false_iff_ne, ne_eq, beq_iff_eq, decide_eq_true_eq, decide_eq_false_iff_not, bne_iff_ne, bne_eq_false_iff_eq] at zz; omega))).2.2.2.1)⟩)) (fun v w' h => ⟨v, rfl, h.2, optDef zβ h.1⟩)
    refine ⟨⟨true, .none rfl, fun h w => optUndef h, fun zβ za zw zc => ?_⟩, ?_⟩
    ·exact wp_or rfl ((evt za 16).trans (optVal (zc.dep 4 16 (by kernel_rfl)) rfl rfl)) (fun hp => ((evt za 18).trans (optVal (zc.dep 6 18 (by kernel_rfl)) rfl (bMkN zβ hp)))) ⟨_, rfl, Below.refl _ _, optDef zβ rfl⟩
    exact trivial
   ·intro za w23 zh hb24 zu
    have zh := zh.cons (d := 19) (v := .bool (((decide (((dget l x.2).var : Int) ≤ (x.1 : Int))) || (dget l x.2).itself))) (optVal (zu 7 19 (by kernel_rfl)) rfl rfl)
    clear zu
    refine WE.go zh ?_
    refine WE.next ?_
    refine WC.cond rfl (fun h25 => ?_) (fun h25 => ?_)
    ·have h25 : (((dget l x.2).var : Int) ≤ (x.1 : Int)) ∨ ((dget l x.2).itself = true) := by simpa using h25
     refine WC.seq (WC.region (WL.asg rfl rfl rfl rfl rfl (WL.nil (WE.next (WC.ret (WE.thenRet (WE.blockRet (WE.thenRet (WE.thenRet (WE.blockRet (WE.thenRet (WE.ret1 rfl rfl ?_))))))))))))
     have hb26 : Below w.heap.size w w23 := (bstep hb22 hb24)
     exact ⟨_, rfl, congrArg (Value.int .i64) (by
      first
       | (rw [subOk_step (by omega), if_pos ‹_›] at hE; rw [subCheck_of hE]; rfl)
       | (rw [List.drop_of_length_le (by omega)] at hE; rw [subCheck_of hE]; rfl)), hb26⟩
    ·have h25 : ¬ ((((dget l x.2).var : Int) ≤ (x.1 : Int)) ∨ ((dget l x.2).itself = true)) := by simpa using h25
     refine WC.skip (WE.next (WC.region ?_))
     refine WL.val _ rfl rfl rfl (fun za zC zh zk => fld_41_0 rfl (zh.ev rfl) zk) ?_
     have hB27 := hB19.below hb24
     refine WL.val _ rfl rfl rfl (fun za zC zh zk => ld_3 rfl (zh.ev rfl) ((hB27.cell 0).trans rfl) zk) ?_
     refine WL.asg rfl rfl rfl rfl rfl (WL.nil (WE.blockNormal (WE.next (WC.region ?_))))
     refine WL.val (.int .i64 ((((x.2 + 1) : Nat) : Int))) rfl rfl rfl (fun za zC zh zk => addb_3 rfl (zh.ev rfl) (zh.ev rfl) (wrap_eq (by omega) (by omega) (by omega)) zk) ?_
     refine WL.mv rfl rfl rfl rfl rfl (WL.nil ?_)
     refine WE.round (((dget l x.2).var, x.2 + 1)) ⟨rfl, rfl, rfl, rfl, rfl, trivial⟩ ?_ ?_
     ·have hb28 : Below w.heap.size w w23 := (bstep hb22 hb24)
      exact ⟨by (try dsimp only at *); omega, hE.trans (by rw [subOk_step (by omega), if_neg h25]), hb28⟩
     ·dsimp only; omega
  ·have h3 : ¬ ((((x.2 : Nat) : Int) : Int) < (((l.length : Nat) : Int) : Int)) := by simpa using h3
   refine WC.exit (WE.thenExit (WE.thenExit (WE.blockIs rfl (WE.next (WC.seq (WC.region (WL.asg rfl rfl rfl rfl rfl (WL.nil (WE.next (WC.ret (WE.ret1 rfl rfl ?_)))))))))))
   exact ⟨_, rfl, congrArg (Value.int .i64) (by
    first
     | (rw [subOk_step (by omega), if_pos ‹_›] at hE; rw [subCheck_of hE]; rfl)
     | (rw [List.drop_of_length_le (by omega)] at hE; rw [subCheck_of hE]; rfl)), hb2⟩
def cmpI (m n : Int) : Int := if m < n then -1 else if n < m then 1 else 0
set_option maxRecDepth 100000 in
theorem isNaN_any (m : Int) (w : World) : Calls Try.prog 57 #[.int .i64 m] w (Ret fun v' w' => v' = .bool false ∧ Below w.heap.size w w') := by
 refine Calls.walk (l := [.int .i64 m]) Try.func57 rfl (by kernel_rfl) ?_
 refine WC.sub (K' := [(0, .int .i64 m)]) ⟨rfl, trivial⟩ ?_
 refine WC.seq (WC.region (WL.asg rfl rfl rfl rfl rfl (WL.nil (WE.next (WC.seq (WC.region (WL.mv rfl rfl rfl rfl rfl (WL.mv rfl rfl rfl rfl rfl ?_))))))))
 refine WL.val (.bool (((m : Int) != (m : Int)))) rfl rfl rfl (fun za zC zh zk => neq_3 rfl (zh.ev rfl) (zh.ev rfl) zk) ?_
 refine WL.asg rfl rfl rfl rfl rfl (WL.nil (WE.next (WC.ret (WE.ret1 rfl rfl ?_))))
 exact ⟨_, rfl, congrArg Value.bool (by simp), (Below.refl _ _)⟩
set_option maxRecDepth 100000 in
theorem cmpI_any (m n : Int) (w : World) : Calls Try.prog 53 #[.int .i64 m, .int .i64 n] w (Ret fun v' w' => v' = .int .i64 (cmpI m n) ∧ Below w.heap.size w w') := by
 refine Calls.walk (l := [.int .i64 m, .int .i64 n]) Try.func53 rfl (by kernel_rfl) ?_
 refine WC.sub (K' := [(0, .int .i64 m), (1, .int .i64 n)]) ⟨rfl, rfl, trivial⟩ ?_
 refine WC.seq (WC.region (WL.asg rfl rfl rfl rfl rfl (WL.nil (WE.next (WC.seq (WC.region (WL.mv rfl rfl rfl rfl rfl ?_)))))))
 refine WL.call rfl rfl rfl (fun za zh zC => wp_call (by kernel_rfl) rfl (hv1 (zh.ev rfl))) (isNaN_any _ _) ?_
 rintro _ w2 ⟨rfl, hq1⟩
 refine WL.asg rfl rfl rfl rfl rfl (WL.nil (WE.next (WC.seq (WC.region (WL.mv rfl rfl rfl rfl rfl ?_)))))
 refine WL.call rfl rfl rfl (fun za zh zC => wp_call (by kernel_rfl) rfl (hv1 (zh.ev rfl))) (isNaN_any _ _) ?_
 rintro _ w4 ⟨rfl, hq3⟩
 refine WL.asg rfl rfl rfl rfl rfl (WL.nil (WE.next (WC.seq (WC.seq (WC.region (WL.mv rfl rfl rfl rfl rfl (WL.nil (WE.next ?_))))))))
 refine WC.condF rfl rfl ?_
 refine WC.skip (WE.next (WC.seq (WC.seq (WC.region (WL.mv rfl rfl rfl rfl rfl (WL.nil (WE.next ?_)))))))
 refine WC.condF rfl rfl ?_
 refine WC.skip (WE.next (WC.seq (WC.seq (WC.region (WL.mv rfl rfl rfl rfl rfl (WL.mv rfl rfl rfl rfl rfl ?_))))))
 refine WL.val (.bool ((decide ((m : Int) < (n : Int))))) rfl rfl rfl (fun za zC zh zk => lss_3 rfl (zh.ev rfl) (zh.ev rfl) zk) ?_
 refine WL.nil (WE.next ?_)
 refine WC.cond rfl (fun h5 => ?_) (fun h5 => ?_)
 ·have h5 : (m : Int) < (n : Int) := by simpa using h5
  refine WC.seq (WC.region (WL.asg rfl rfl rfl rfl rfl (WL.nil (WE.next (WC.ret (WE.thenRet (WE.ret1 rfl rfl ?_)))))))
  have hb6 : Below w.heap.size w w4 := (bstep hq1 hq3)
  exact ⟨_, rfl, congrArg (Value.int .i64) (by unfold cmpI; (repeat split) <;> first | rfl | omega), hb6⟩
 ·have h5 : ¬ ((m : Int) < (n : Int)) := by simpa using h5
  refine WC.skip (WE.next (WC.seq (WC.seq (WC.region (WL.mv rfl rfl rfl rfl rfl (WL.mv rfl rfl rfl rfl rfl ?_))))))
  refine WL.val (.bool ((decide ((n : Int) < (m : Int))))) rfl rfl rfl (fun za zC zh zk => gtr_3 rfl (zh.ev rfl) (zh.ev rfl) zk) ?_
  refine WL.nil (WE.next ?_)
  refine WC.cond rfl (fun h7 => ?_) (fun h7 => ?_)
  ·have h7 : (n : Int) < (m : Int) := by simpa using h7
   refine WC.seq (WC.region (WL.asg rfl rfl rfl rfl rfl (WL.nil (WE.next (WC.ret (WE.thenRet (WE.ret1 rfl rfl ?_)))))))
   have hb8 : Below w.heap.size w w4 := (bstep hq1 hq3)
   exact ⟨_, rfl, congrArg (Value.int .i64) (by unfold cmpI; (repeat split) <;> first | rfl | omega), hb8⟩
  ·have h7 : ¬ ((n : Int) < (m : Int)) := by simpa using h7
   refine WC.skip (WE.next (WC.seq (WC.region (WL.asg rfl rfl rfl rfl rfl (WL.nil (WE.next (WC.ret (WE.ret1 rfl rfl ?_))))))))
   have hb9 : Below w.heap.size w w4 := (bstep hq1 hq3)
   exact ⟨_, rfl, congrArg (Value.int .i64) (by unfold cmpI; (repeat split) <;> first | rfl | omega), hb9⟩
set_option maxRecDepth 100000 in
theorem find1_any (x : Bd) (m : Int) (w : World) (v : Value) (g : Nat) (hv : IsBd w x v) (hg : Blk w g 3 #[.int .i64 m]) : Calls Try.prog 52 #[v, .pointer (some ⟨g, 0, none⟩)] w (Ret fun v' w' => v' = .int .i64 (cmpI x.var m) ∧ Below w.heap.size w w') := by
 obtain ⟨a, c, rfl, hi, ht⟩ := hv
 have hgl := hg.lt
 refine Calls.walk (l := [.agg #[.int .i64 x.var, .int .i64 x.t.f, .slice a x.t.args.length c], .pointer (some ⟨g, 0, none⟩)]) Try.func52 rfl (by kernel_rfl) ?_
 refine WC.sub (K' := [(0, .agg #[.int .i64 x.var, .int .i64 x.t.f, .slice a x.t.args.length c]), (1, .pointer (some ⟨g, 0, none⟩))]) ⟨rfl, rfl, trivial⟩ ?_
 refine WC.seq (WC.region ?_)
 refine WL.step (post := NewBlk w 41 #[.int .i64 x.var, .int .i64 x.t.f, .slice a x.t.args.length c]) rfl rfl rfl (fun za zC zh zk => box_41 rfl (zh.ev rfl) (zk _ _ (newBlk _ _ _))) ?_
 rintro _ w1 ⟨g2, rfl, hg3, hB4, hb5, hz6⟩
 have hl7 : g < g2 := by have z1 := hg.lt; omega
 have hl8 : w.heap.size ≤ g2 := by omega
 refine WL.asg rfl rfl rfl rfl rfl (WL.nil (WE.next (WC.seq (WC.region ?_))))
 refine WL.val _ rfl rfl rfl (fun za zC zh zk => fld_41_0 rfl (zh.ev rfl) zk) ?_
 refine WL.val _ rfl rfl rfl (fun za zC zh zk => ld_3 rfl (zh.ev rfl) ((hB4.cell 0).trans rfl) zk) ?_
 have hB9 := hg.below hb5
 refine WL.val _ rfl rfl rfl (fun za zC zh zk => ld_3 rfl (zh.ev rfl) ((hB9.cell 0).trans rfl) zk) ?_
 refine WL.call rfl rfl rfl (fun za zh zC => wp_call (by kernel_rfl) rfl (hv2 (zh.ev rfl) (zh.ev rfl))) (cmpI_any _ _ _) ?_
 rintro _ w11 ⟨rfl, hq10⟩
 refine WL.asg rfl rfl rfl rfl rfl (WL.nil (WE.next (WC.ret (WE.ret1 rfl rfl ?_))))
 have hb12 : Below w.heap.size w w11 := (bstep hb5 hq10)
 exact ⟨_, rfl, rfl, hb12⟩
def Sorted (l : List Bd) : Prop := ∀ i j, i < j → j < l.length → (dget l i).var < (dget l j).var
theorem subOk_sorted : ∀ (l : List Bd) (last : Int), subOk last l = true → (∀ x ∈ l, last < x.var) ∧ l.Pairwise (fun x y => x.var < y.var)
 | [], _, _ => ⟨by simp, .nil⟩
 | b :: r, last, h => by
  rw [subOk] at h
  split at h
  ·cases h
  ·rename_i hn
   obtain ⟨h1, h2⟩ := subOk_sorted r _ h
   have hb : last < b.var := by
    have := not_or.1 hn; omega
   refine ⟨fun x hx => ?_, .cons h1 h2⟩
   rcases List.mem_cons.1 hx with rfl | hx
   ·exact hb
   ·have := h1 x hx; omega
theorem sorted_of {l : List Bd} (h : l.Pairwise (fun x y => x.var < y.var)) : Sorted l := by
 intro i j hij hj
 rw [dget_lt hj, dget_lt (by omega)]
 exact List.pairwise_iff_getElem.1 h i j (by omega) hj hij
theorem cmpI_eq {m n : Int} (h : cmpI m n = 0) : m = n := by unfold cmpI at h; (repeat split at h) <;> omega
theorem cmpI_lt {m n : Int} (h : cmpI m n < 0) : m < n := by unfold cmpI at h; (repeat split at h) <;> omega
theorem cmpI_gt {m n : Int} (h0 : ¬ cmpI m n = 0) (h : ¬ cmpI m n < 0) : n < m := by unfold cmpI at h h0; (repeat split at h) <;> (repeat split at h0) <;> omega
theorem halve_hi {l : List Bd} {m : Int} {i : Nat} (hs : Sorted l) (hi : i < l.length) (z : m < (dget l i).var) : ∀ k, i ≤ k → k < l.length → m < (dget l k).var := fun k h1 h2 => by
 rcases Nat.lt_or_ge i k with q | q
 ·exact Int.lt_trans z (hs _ _ q h2)
 ·obtain rfl : i = k := by omega
  exact z
theorem halve_lo {l : List Bd} {m : Int} {i : Nat} (hs : Sorted l) (hi : i < l.length) (z : (dget l i).var < m) : ∀ k, k < i + 1 → (dget l k).var < m := fun k h1 => by
 rcases Nat.lt_or_ge k i with q | q
 ·exact Int.lt_trans (hs _ _ q hi) z
 ·obtain rfl : i = k := by omega
  exact z
theorem halve_no {l : List Bd} {m : Int} {i j : Nat} (h1 : ∀ k, k < i → (dget l k).var < m) (h2 : ∀ k, j ≤ k → k < l.length → m < (dget l k).var) (hij : j ≤ i) : ∀ k, k < l.length → (dget l k).var ≠ m := fun k hk e => by
 rcases Nat.lt_or_ge k i with q | q
 ·have z := h1 k q; omega
 ·have z := h2 k (by omega) hk; omega
set_option maxRecDepth 100000 in
theorem halve_any (l : List Bd) (m : Int) (w : World) (a : Option Addr) (c g : Nat) (hc : l.length ≤ c) (hm : c ≤ maxLen) (hz : l.length ≤ 4294967296) (hl : IsBs w l a) (hs : Sorted l) (hg : Blk w g 3 #[.int .i64 m]) : Calls Try.prog 51 #[.slice a l.length c, .func (.func 52) #[] #[.pointer (some ⟨g, 0, none⟩)]] w
  (Ret fun v' w' => (∃ (i : Nat) (ok : Bool), v' = .tuple #[.int .i64 i, .bool ok] ∧ (ok = true → i < l.length ∧ (dget l i).var = m) ∧ (ok = false → ∀ k, k < l.length → (dget l k).var ≠ m)) ∧ Below w.heap.size w w') := by
 unfold maxLen at hm
 have hgl := hg.lt
 refine Calls.walk (l := [.slice a l.length c, .func (.func 52) #[] #[.pointer (some ⟨g, 0, none⟩)]]) Try.func51 rfl (by kernel_rfl) ?_
 refine WC.sub (K' := [(0, .slice a l.length c), (1, .func (.func 52) #[] #[.pointer (some ⟨g, 0, none⟩)])]) ⟨rfl, rfl, trivial⟩ ?_
 refine WC.seq (WC.region (WL.asg rfl rfl rfl rfl rfl (WL.asg rfl rfl rfl rfl rfl (WL.nil (WE.next (WC.seq (WC.region (WL.mv rfl rfl rfl rfl rfl ?_))))))))
 refine WL.val (.int .i64 (((l.length : Nat) : Int))) rfl rfl rfl (fun za zC zh zk => len_23 rfl (zh.ev rfl) zk) ?_
 refine WL.asg rfl rfl rfl rfl rfl (WL.asg rfl rfl rfl rfl rfl (WL.nil (WE.next (WC.seq (WC.block ?_)))))
 refine WC.loop (X := Nat × Nat) (fun x => x.2 - x.1) (fun x => [(0, .slice a l.length c), (1, .func (.func 52) #[] #[.pointer (some ⟨g, 0, none⟩)]), (6, .int .i64 (((x.1 : Nat) : Int))), (7, .int .i64 (((x.2 : Nat) : Int)))]) (fun x w1 => x.1 ≤ x.2 ∧ x.2 ≤ l.length ∧ (∀ k, k < x.1 → (dget l k).var < m) ∧ (∀ k, x.2 ≤ k → k < l.length → m < (dget l k).var) ∧ Below w.heap.size w w1 ∧ Blk w1 g 3 #[.int .i64 m]) ((0, l.length)) ⟨rfl, rfl, rfl, rfl, trivial⟩ ?_ ?_
 ·exact ⟨Nat.zero_le _, Nat.le_refl _, fun k h => absurd h (Nat.not_lt_zero k), fun k h1 h2 => by omega, (Below.refl _ _), hg⟩
 ·rintro x w1 ⟨hle, hxl, hlo, hhi, hb2, hB3⟩
  refine WC.seq (WC.seq (WC.region (WL.mv rfl rfl rfl rfl rfl (WL.mv rfl rfl rfl rfl rfl ?_))))
  refine WL.val (.bool ((decide ((((x.1 : Nat) : Int) : Int) < (((x.2 : Nat) : Int) : Int))))) rfl rfl rfl (fun za zC zh zk => lss_3 rfl (zh.ev rfl) (zh.ev rfl) zk) ?_
  refine WL.nil (WE.next ?_)
  refine WC.cond rfl (fun h4 => ?_) (fun h4 => ?_)
  ·have h4 : (((x.1 : Nat) : Int) : Int) < (((x.2 : Nat) : Int) : Int) := by simpa using h4
   refine WC.skip (WE.next (WC.block (WC.seq (WC.region (WL.mv rfl rfl rfl rfl rfl (WL.mv rfl rfl rfl rfl rfl ?_))))))
   refine WL.val (.int .i64 ((((x.1 + x.2) : Nat) : Int))) rfl rfl rfl (fun za zC zh zk => addb_3 rfl (zh.ev rfl) (zh.ev rfl) (wrap_eq (by omega) (by omega) (by omega)) zk) ?_
   refine WL.val (.int .i64 (((((x.1 + x.2) / 2) : Nat) : Int))) rfl rfl rfl (fun za zC zh zk => quob_3 rfl (zh.ev rfl) (zh.ev rfl) (by decide) (wrap_eq (tdiv2 _) (by omega) (by omega)) zk) ?_
   refine WL.asg rfl rfl rfl rfl rfl (WL.nil (WE.next (WC.seq (WC.region (WL.mv rfl rfl rfl rfl rfl (WL.mv rfl rfl rfl rfl rfl (WL.mv rfl rfl rfl rfl rfl ?_)))))))
   obtain ⟨b5, o6, A7, C8, ha9, hc10⟩ := InRow.openB hl
   refine WL.val _ rfl rfl rfl (fun za zC zh zk => ix_23 (k := ((x.1 + x.2) / 2)) rfl (zh.ev rfl) (ha9 (((x.1 + x.2) / 2)) (by first | omega | (simp; omega))) (zh.ev rfl) (by first | omega | (simp; omega)) zk) ?_
   refine WL.val _ rfl rfl rfl (fun za zC zh zk => ld_41 rfl (zh.ev rfl) (bkeeps hb2 _ _ (hc10 (((x.1 + x.2) / 2)) (by first | omega | (simp; omega))).1) (bkeeps hb2 _ _ (hc10 (((x.1 + x.2) / 2)) (by first | omega | (simp; omega))).2.1) (bkeeps hb2 _ _ (hc10 (((x.1 + x.2) / 2)) (by first | omega | (simp; omega))).2.2.1) zk) ?_
   refine WL.call rfl rfl rfl (fun za zh zC => wp_callv (by kernel_rfl) rfl (zh.ev rfl) (hv1 (zh.ev rfl))) (find1_any (dget l (((x.1 + x.2) / 2))) m _ _ g (IsBd.below hb2 ⟨_, _, rfl, (hc10 (((x.1 + x.2) / 2)) (by first | omega | (simp; omega))).2.2.2.2, (InT.isT (hc10 (((x.1 + x.2) / 2)) (by first | omega | (simp; omega))).2.2.2.1)⟩) hB3) ?_
   rintro _ w11 ⟨rfl, hbf⟩
   refine WL.asg rfl rfl rfl rfl rfl (WL.nil (WE.next (WC.block (WC.seq (WC.region (WL.mv rfl rfl rfl rfl rfl ?_))))))
   refine WL.val (.bool ((((cmpI (dget l (((x.1 + x.2) / 2))).var m) : Int) == (0 : Int)))) rfl rfl rfl (fun za zC zh zk => eql_3 rfl (zh.ev rfl) (zh.ev rfl) zk) ?_
   refine WL.asg rfl rfl rfl rfl rfl (WL.nil (WE.next ?_))
   refine WC.cond rfl (fun h12 => ?_) (fun h12 => ?_)
   ·have h12 : ((cmpI (dget l (((x.1 + x.2) / 2))).var m) : Int) = (0 : Int) := by simpa using h12
    refine WC.seq (WC.region (WL.mv rfl rfl rfl rfl rfl (WL.asg rfl rfl rfl rfl rfl (WL.asg rfl rfl rfl rfl rfl (WL.nil (WE.next (WC.ret (WE.blockRet (WE.blockRet (WE.thenRet (WE.blockRet (WE.thenRet (WE.ret2 rfl rfl rfl ?_)))))))))))))
    have hb13 : Below w.heap.size w w11 := (bstep hb2 hbf)
    exact ⟨_, rfl, ⟨((x.1 + x.2) / 2), true, rfl, fun _ => ⟨by omega, cmpI_eq h12⟩, (fun e => nomatch e)⟩, hb13⟩
   ·have h12 : ¬ (((cmpI (dget l (((x.1 + x.2) / 2))).var m) : Int) = (0 : Int)) := by simpa using h12
    refine WC.seq (WC.region (WL.mv rfl rfl rfl rfl rfl ?_))
    refine WL.val (.bool ((decide (((cmpI (dget l (((x.1 + x.2) / 2))).var m) : Int) < (0 : Int))))) rfl rfl rfl (fun za zC zh zk => lss_3 rfl (zh.ev rfl) (zh.ev rfl) zk) ?_
    refine WL.asg rfl rfl rfl rfl rfl (WL.nil (WE.next ?_))
    refine WC.cond rfl (fun h14 => ?_) (fun h14 => ?_)
    ·have h14 : ((cmpI (dget l (((x.1 + x.2) / 2))).var m) : Int) < (0 : Int) := by simpa using h14
     refine WC.region (WL.mv rfl rfl rfl rfl rfl ?_)
     refine WL.val (.int .i64 ((((((x.1 + x.2) / 2) + 1) : Nat) : Int))) rfl rfl rfl (fun za zC zh zk => addb_3 rfl (zh.ev rfl) (zh.ev rfl) (wrap_eq (by omega) (by omega) (by omega)) zk) ?_
     refine WL.asg rfl rfl rfl rfl rfl (WL.nil (WE.blockNormal (WE.blockNormal ?_)))
     refine WE.round (((((x.1 + x.2) / 2) + 1), x.2)) ⟨rfl, rfl, rfl, rfl, trivial⟩ ?_ ?_
     ·have hb15 : Below w.heap.size w w11 := (bstep hb2 hbf)
      have hB16 := hB3.below hbf
      exact ⟨by (try dsimp only at *); omega, by (try dsimp only at *); omega, halve_lo hs (by omega) (cmpI_lt h14), hhi, hb15, hB16⟩
     ·dsimp only; omega
    ·have h14 : ¬ (((cmpI (dget l (((x.1 + x.2) / 2))).var m) : Int) < (0 : Int)) := by simpa using h14
     refine WC.region (WL.mv rfl rfl rfl rfl rfl (WL.asg rfl rfl rfl rfl rfl (WL.nil (WE.blockNormal (WE.blockNormal ?_)))))
     refine WE.round ((x.1, ((x.1 + x.2) / 2))) ⟨rfl, rfl, rfl, rfl, trivial⟩ ?_ ?_
     ·have hb17 : Below w.heap.size w w11 := (bstep hb2 hbf)
      have hB18 := hB3.below hbf
      exact ⟨by (try dsimp only at *); omega, by (try dsimp only at *); omega, hlo, halve_hi hs (by omega) (cmpI_gt h12 h14), hb17, hB18⟩
     ·dsimp only; omega
  ·have h4 : ¬ ((((x.1 : Nat) : Int) : Int) < (((x.2 : Nat) : Int) : Int)) := by simpa using h4
   refine WC.exit (WE.thenExit (WE.thenExit (WE.blockIs rfl (WE.next (WC.seq (WC.region (WL.mv rfl rfl rfl rfl rfl (WL.asg rfl rfl rfl rfl rfl (WL.asg rfl rfl rfl rfl rfl (WL.nil (WE.next (WC.ret (WE.ret2 rfl rfl rfl ?_)))))))))))))
   exact ⟨_, rfl, ⟨x.1, false, rfl, (fun e => nomatch e), fun _ => halve_no hlo hhi (by omega)⟩, hb2⟩
theorem subFind_none {l : List Bd} {m : Int} (h : ∀ k, k < l.length → (dget l k).var ≠ m) : subFind l m = none := by
 unfold subFind
 rw [List.find?_eq_none.2 (fun x hx => ?_)]; rfl
 obtain ⟨k, hk, rfl⟩ := List.getElem_of_mem hx
 have := h k hk
 rw [dget_lt hk] at this
 simpa using this
theorem subFind_at : ∀ {l : List Bd} {m : Int} {i : Nat}, i < l.length → (dget l i).var = m → (∀ k, k < i → (dget l k).var ≠ m) → subFind l m = some (dget l i).t
 | [], _, i, h, _, _ => by simp at h
 | b :: r, m, 0, _, h1, _ => by
  have e : b.var = m := h1
  unfold subFind
  rw [List.find?_cons_of_pos (by simpa using e)]; rfl
 | b :: r, m, i + 1, h, h1, h2 => by
  have e : b.var ≠ m := h2 0 (by omega)
  have := subFind_at (l := r) (m := m) (i := i) (by simpa using h) h1 (fun k hk => h2 (k + 1) (by omega))
  unfold subFind at this ⊢
  rw [List.find?_cons_of_neg (by simpa using e)]; exact this
theorem ne_step {l : List Bd} {m : Int} {k : Nat} (h : ∀ i, i < k → (dget l i).var ≠ m) (hk : ¬ (dget l k).var = m) : ∀ i, i < k + 1 → (dget l i).var ≠ m := fun i hi => by
 rcases Nat.lt_or_ge i k with q | q
 ·exact h i q
 ·obtain rfl : i = k := by omega
  exact hk
theorem isTo_none {w : World} {l : List Bd} {m : Int} (h : subFind l m = none) : IsTo w (subFind l m) (.pointer none) := by rw [h]; exact rfl
theorem isTo_at {w : World} {l : List Bd} {m : Int} {i b o : Nat} {A : Nat → Option Addr} {C : Nat → Nat} (h : subFind l m = some (dget l i).t) (h1 : w.cell? ⟨b, o + i * 3 + 1, none⟩ = some (.int .i64 (dget l i).t.f)) (h2 : w.cell? ⟨b, o + i * 3 + 2, none⟩ = some (.slice (A i) (dget l i).t.args.length (C i)))
  (h3 : IsT w (dget l i).t (.agg #[.int .i64 (dget l i).t.f, .slice (A i) (dget l i).t.args.length (C i)])) : IsTo w (subFind l m) (.pointer (some ⟨b, o + i * 3 + 1, none⟩)) := by
 rw [h]; exact ⟨b, _, _, _, rfl, h1, h2, h3⟩
set_option maxRecDepth 100000 in
theorem find_any (l : List Bd) (m : Int) (w : World) (a : Option Addr) (c : Nat) (hc : l.length ≤ c) (hm : c ≤ maxLen) (hz : l.length ≤ 4294967296) (hl : IsBs w l a) : Calls Try.prog 37 #[.slice a l.length c, .int .i64 m] w (Ret fun v' w' => IsTo w' (subFind l m) v' ∧ Below w.heap.size w w') := by
 have hm' := hm
 unfold maxLen at hm
 refine Calls.walk (l := [.slice a l.length c, .int .i64 m]) Try.func37 rfl (by kernel_rfl) ?_
 refine WC.sub (K' := [(0, .slice a l.length c), (1, .int .i64 m)]) ⟨rfl, rfl, trivial⟩ ?_
 refine WC.seq (WC.region ?_)
 refine WL.step (post := NewBlk w 3 #[.int .i64 m]) rfl rfl rfl (fun za zC zh zk => box_3 rfl (zh.ev rfl) (zk _ _ (newBlk _ _ _))) ?_
 rintro _ w1 ⟨g2, rfl, hg3, hB4, hb5, hz6⟩
 have hl7 : w.heap.size ≤ g2 := by omega
 refine WL.asg rfl rfl rfl rfl rfl (WL.nil (WE.next (WC.seq (WC.seq (WC.region (WL.mv rfl rfl rfl rfl rfl ?_))))))
 refine WL.call rfl rfl rfl (fun za zh zC => wp_call (by kernel_rfl) rfl (hv1 (zh.ev rfl))) (check_any l _ _ _ hc hm' (hl.below hb5)) ?_
 rintro _ w9 ⟨rfl, hq8⟩
 refine WL.val (.bool ((((subCheck l) : Int) == (0 : Int)))) rfl rfl rfl (fun za zC zh zk => eql_25 rfl (zh.ev rfl) (zh.ev rfl) zk) ?_
 refine WL.nil (WE.next ?_)
 refine WC.cond rfl (fun h10 => ?_) (fun h10 => ?_)
 ·have h10 : ((subCheck l) : Int) = (0 : Int) := by simpa using h10
  have hok1 : subOk (-1) l = true := by unfold subCheck at h10; split at h10; assumption; omega
  have hS := sorted_of (subOk_sorted l _ hok1).2
  refine WC.seq (WC.seq (WC.region (WL.mv rfl rfl rfl rfl rfl ?_)))
  refine WL.val (.func (Fn.func 52) #[] #[.pointer (some ⟨g2, 0, none⟩)]) rfl rfl rfl (fun za zC zh zk => mkfn rfl (hv0) (hv1 (zh.ev rfl)) zk) ?_
  have hB11 := hB4.below hq8
  have hb12 : Below w.heap.size w w9 := (bstep hb5 hq8)
  refine WL.call rfl rfl rfl (fun za zh zC => wp_call (by kernel_rfl) rfl (hv2 (zh.ev rfl) (zh.ev rfl))) (halve_any l m _ _ _ g2 hc hm' hz (hl.below hb12) hS hB11) ?_
  rintro _ w13 ⟨⟨hi, hok, rfl, hyes, hno⟩, hbh⟩
  refine WL.mv rfl rfl rfl rfl rfl ?_
  refine WL.val (.int .i64 (((hi : Nat) : Int))) rfl rfl rfl (fun za zC zh zk => ext2_0 rfl (zh.ev rfl) zk) ?_
  refine WL.val (.bool hok) rfl rfl rfl (fun za zC zh zk => ext2_1 rfl (zh.ev rfl) zk) ?_
  refine WL.asg rfl rfl rfl rfl rfl (WL.asg rfl rfl rfl rfl rfl (WL.nil (WE.next (WC.seq (WC.region (WL.mv rfl rfl rfl rfl rfl (WL.nil (WE.next ?_))))))))
  refine WC.cond rfl (fun h14 => ?_) (fun h14 => ?_)
  ·skip
   obtain ⟨hi1, hi2⟩ := hyes h14
   refine WC.seq (WC.region (WL.mv rfl rfl rfl rfl rfl (WL.mv rfl rfl rfl rfl rfl ?_)))
   obtain ⟨b15, o16, A17, C18, ha19, hc20⟩ := InRow.openB hl
   refine WL.val _ rfl rfl rfl (fun za zC zh zk => ix_24 (k := hi) rfl (zh.ev rfl) (ha19 hi (by first | omega | (simp; omega))) (zh.ev rfl) (by first | omega | (simp; omega)) zk) ?_
   refine WL.val _ rfl rfl rfl (fun za zC zh zk => fld_41_1 rfl (zh.ev rfl) zk) ?_
   refine WL.asg rfl rfl rfl rfl rfl (WL.nil (WE.next (WC.ret (WE.thenRet (WE.thenRet (WE.ret1 rfl rfl ?_))))))
   have hb21 : Below w.heap.size w w13 := (bstep hb12 hbh)
   exact ⟨_, rfl, isTo_at (subFind_at (by omega) hi2 (fun k hk e => by have z := hS k hi hk hi1; omega)) (bkeeps hb21 _ _ (hc20 hi (by first | omega | (simp; omega))).2.1) (bkeeps hb21 _ _ (hc20 hi (by first | omega | (simp; omega))).2.2.1) (IsT.below hb21 (InT.isT (hc20 hi (by first | omega | (simp; omega))).2.2.2.1)), hb21⟩
  ·skip
   refine WC.skip (WE.next (WC.seq (WC.region (WL.asg rfl rfl rfl rfl rfl (WL.nil (WE.next (WC.ret (WE.thenRet (WE.ret1 rfl rfl ?_)))))))))
   have hb22 : Below w.heap.size w w13 := (bstep hb12 hbh)
   exact ⟨_, rfl, isTo_none (subFind_none (by first | exact hno (by assumption) | exact fun i h => hne i (by omega))), hb22⟩
 ·have h10 : ¬ (((subCheck l) : Int) = (0 : Int)) := by simpa using h10
  refine WC.skip (WE.next (WC.seq (WC.seq (WC.region (WL.mv rfl rfl rfl rfl rfl ?_)))))
  refine WL.val (.int .i64 (((l.length : Nat) : Int))) rfl rfl rfl (fun za zC zh zk => len_24 rfl (zh.ev rfl) zk) ?_
  refine WL.mv rfl rfl rfl rfl rfl (WL.nil (WE.next (WC.block ?_)))
  refine WC.loop (X := Nat) (fun k => l.length - k) (fun k => [(0, .slice a l.length c), (1, .int .i64 m), (3, .pointer (some ⟨g2, 0, none⟩)), (10, .bool ((((subCheck l) : Int) == (0 : Int)))), (23, .int .i64 (((l.length : Nat) : Int))), (24, .int .i64 (((k : Nat) : Int)))]) (fun k w23 => k ≤ l.length ∧ (∀ i, i < k → (dget l i).var ≠ m) ∧ Below w.heap.size w w23 ∧ Blk w23 g2 3 #[.int .i64 m]) 0 ⟨rfl, rfl, rfl, rfl, rfl, rfl, trivial⟩ ?_ ?_
  ·have hb24 : Below w.heap.size w w9 := (bstep hb5 hq8)
   have hB25 := hB4.below hq8
   exact ⟨Nat.zero_le _, fun i h => absurd h (Nat.not_lt_zero i), hb24, hB25⟩
  ·rintro k w23 ⟨hk, hne, hb26, hB27⟩
   refine WC.seq (WC.region ?_)
   refine WL.val (.bool ((decide ((((k : Nat) : Int) : Int) < (((l.length : Nat) : Int) : Int))))) rfl rfl rfl (fun za zC zh zk => lss_3 rfl (zh.ev rfl) (zh.ev rfl) zk) ?_
   refine WL.nil (WE.next (WC.seq ?_))
   refine WC.cond rfl (fun h28 => ?_) (fun h28 => ?_)
   ·have h28 : (((k : Nat) : Int) : Int) < (((l.length : Nat) : Int) : Int) := by simpa using h28
    refine WC.skip (WE.next (WC.seq (WC.block (WC.seq (WC.region (WL.mv rfl rfl rfl rfl rfl (WL.asg rfl rfl rfl rfl rfl (WL.nil (WE.next (WC.seq ?_))))))))))
    obtain ⟨b29, o30, A31, C32, ha33, hc34⟩ := InRow.openB hl
    refine WC.opt [(true, .val (.slice a l.length c)), (true, .val (.int .i64 (((k : Nat) : Int)))), (true, .val (.pointer (some ⟨b29, o30 + k * 3, none⟩))), (true, .val (.pointer (some ⟨b29, o30 + k * 3, none⟩))), (true, .val (.int .i64 ((dget l k).var))), (true, .val (.int .i64 m)), (true, .val (.bool ((((dget l k).var : Int) == (m : Int)))))] [(0, .slice a l.length c), (1, .int .i64 m), (3, .pointer (some ⟨g2, 0, none⟩)), (7, .int .i64 (((k : Nat) : Int))), (10, .bool ((((subCheck l) : Int) == (0 : Int)))), (23, .int .i64 (((l.length : Nat) : Int))), (24, .int .i64 (((k : Nat) : Int))), (25, .bool ((decide ((((k : Nat) : Int) : Int) < (((l.length : Nat) : Int) : Int)))))] ⟨rfl, rfl, rfl, rfl, rfl, rfl, rfl, rfl, trivial⟩ (by kernel_rfl) (by kernel_rfl) (by kernel_rfl) ?_ ?_
    ·refine ⟨⟨true, .none rfl, fun h w => optUndef h, fun zβ za zw zc => ?_⟩, ?_⟩
     ·exact wp_move rfl (zc.kn.ev rfl) ⟨_, rfl, Below.refl _ _, optDef zβ rfl⟩
     refine ⟨⟨true, .none rfl, fun h w => optUndef h, fun zβ za zw zc => ?_⟩, ?_⟩
     ·exact wp_move rfl (zc.kn.ev rfl) ⟨_, rfl, Below.refl _ _, optDef zβ rfl⟩
     refine ⟨⟨true, .none rfl, fun h w => optUndef h, fun zβ za zw zc => ?_⟩, ?_⟩
     ·exact ix_24 (k := k) rfl ((evt za 27).trans (optVal (zc.dep 0 27 (by kernel_rfl)) rfl rfl)) (ha33 k (by first | omega | (simp; omega))) ((evt za 28).trans (optVal (zc.dep 1 28 (by kernel_rfl)) rfl rfl)) (by first | omega | (simp; omega)) ⟨_, rfl, Below.refl _ _, optDef zβ rfl⟩
     refine ⟨⟨true, .none rfl, fun h w => optUndef h, fun zβ za zw zc => ?_⟩, ?_⟩
     ·exact fld_41_0 rfl ((evt za 29).trans (optVal (zc.dep 2 29 (by kernel_rfl)) rfl rfl)) ⟨_, rfl, Below.refl _ _, optDef zβ rfl⟩
     refine ⟨⟨true, .none rfl, fun h w => optUndef h, fun zβ za zw zc => ?_⟩, ?_⟩
     ·exact ld_3 rfl ((evt za 30).trans (optVal (zc.dep 3 30 (by kernel_rfl)) rfl rfl)) (bkeeps (bstep hb26 zc.below) _ _ (hc34 k (by first | omega | (simp; omega))).1) ⟨_, rfl, Below.refl _ _, optDef zβ rfl⟩
     refine ⟨⟨true, .none rfl, fun h w => optUndef h, fun zβ za zw zc => ?_⟩, ?_⟩
     ·exact ld_3 rfl (zc.kn.ev rfl) (bkeeps zc.below _ _ ((hB27.cell 0).trans rfl)) ⟨_, rfl, Below.refl _ _, optDef zβ rfl⟩
     refine ⟨⟨true, .none rfl, fun h w => optUndef h, fun zβ za zw zc => ?_⟩, ?_⟩
     ·exact eql_3 rfl ((evt za 31).trans (optVal (zc.dep 4 31 (by kernel_rfl)) rfl rfl)) ((evt za 32).trans (optVal (zc.dep 5 32 (by kernel_rfl)) rfl rfl)) ⟨_, rfl, Below.refl _ _, optDef zβ rfl⟩
     exact trivial
    ·intro za w35 zh hb36 zu
     have zh := zh.cons (d := 33) (v := .bool ((((dget l k).var : Int) == (m : Int)))) (optVal (zu 6 33 (by kernel_rfl)) rfl rfl)
     clear zu
     refine WE.go zh ?_
     refine WE.next ?_
     refine WC.cond rfl (fun h37 => ?_) (fun h37 => ?_)
     ·have h37 : ((dget l k).var : Int) = (m : Int) := by simpa using h37
      refine WC.seq (WC.region (WL.mv rfl rfl rfl rfl rfl (WL.mv rfl rfl rfl rfl rfl ?_)))
      refine WL.val _ rfl rfl rfl (fun za zC zh zk => ix_24 (k := k) rfl (zh.ev rfl) (ha33 k (by first | omega | (simp; omega))) (zh.ev rfl) (by first | omega | (simp; omega)) zk) ?_
      refine WL.val _ rfl rfl rfl (fun za zC zh zk => fld_41_1 rfl (zh.ev rfl) zk) ?_
      refine WL.asg rfl rfl rfl rfl rfl (WL.nil (WE.next (WC.ret (WE.blockRet (WE.thenRet (WE.thenRet (WE.blockRet (WE.thenRet (WE.ret1 rfl rfl ?_)))))))))
      have hb38 : Below w.heap.size w w35 := (bstep hb26 hb36)
      exact ⟨_, rfl, isTo_at (subFind_at (by omega) h37 (hne)) (bkeeps hb38 _ _ (hc34 k (by first | omega | (simp; omega))).2.1) (bkeeps hb38 _ _ (hc34 k (by first | omega | (simp; omega))).2.2.1) (IsT.below hb38 (InT.isT (hc34 k (by first | omega | (simp; omega))).2.2.2.1)), hb38⟩
     ·have h37 : ¬ (((dget l k).var : Int) = (m : Int)) := by simpa using h37
      refine WC.skip (WE.blockNormal (WE.next (WC.region ?_)))
      refine WL.val (.int .i64 ((((k + 1) : Nat) : Int))) rfl rfl rfl (fun za zC zh zk => addb_3 rfl (zh.ev rfl) (zh.ev rfl) (wrap_eq (by omega) (by omega) (by omega)) zk) ?_
      refine WL.mv rfl rfl rfl rfl rfl (WL.nil ?_)
      refine WE.round (k + 1) ⟨rfl, rfl, rfl, rfl, rfl, rfl, trivial⟩ ?_ ?_
      ·have hb39 : Below w.heap.size w w35 := (bstep hb26 hb36)
       have hB40 := hB27.below hb36
       exact ⟨by omega, ne_step hne h37, hb39, hB40⟩
      ·omega
   ·have h28 : ¬ ((((k : Nat) : Int) : Int) < (((l.length : Nat) : Int) : Int)) := by simpa using h28
    refine WC.exit (WE.thenExit (WE.thenExit (WE.blockIs rfl (WE.next (WC.seq (WC.region (WL.asg rfl rfl rfl rfl rfl (WL.nil (WE.next (WC.ret (WE.ret1 rfl rfl ?_)))))))))))
    exact ⟨_, rfl, isTo_none (subFind_none (by first | exact hno (by assumption) | exact fun i h => hne i (by omega))), hb26⟩
end Go.Proofs.Ythhgidliopohcaa

/- What becomes of terms, by a substitution. -/
namespace Go.Proofs.Ythhgidliopohcaa
open Go.RowKit Go
set_option linter.unusedVariables false
set_option linter.unusedSimpArgs false
mutual
def T.app (s : List Bd) : T → T
 | .mk f l => match (if f < 0 then subFind s (-1 - f) else none) with
  | some t => t
  | none => .mk f (T.appL s l)
def T.appL (s : List Bd) : List T → List T
 | [] => []
 | t :: r => t.app s :: T.appL s r
end
theorem T.appL_eq (s : List Bd) : ∀ l : List T, T.appL s l = l.map (T.app s)
 | [] => rfl
 | t :: r => by rw [T.appL, T.appL_eq s r]; rfl
theorem app_some {s : List Bd} {f : Int} {l : List T} {t : T} (hf : f < 0) (h : subFind s (-1 - f) = some t) : (T.mk f l).app s = t := by
 simp only [T.app, if_pos hf, h]
theorem app_none {s : List Bd} {f : Int} {l : List T} (h : f < 0 → subFind s (-1 - f) = none) : (T.mk f l).app s = .mk f (l.map (T.app s)) := by
 have : (if f < 0 then subFind s (-1 - f) else none) = none := by
  split
  ·exact h ‹_›
  ·rfl
 simp only [T.app, this, T.appL_eq]
theorem take_map {s : List Bd} {l : List T} {k : Nat} (h : k < l.length) : (l.take k).map (T.app s) ++ [(tget l k).app s] = (l.take (k + 1)).map (T.app s) := by
 rw [List.take_succ_eq_append_getElem h, List.map_append, tget_lt h]; rfl
theorem subFind_mem {s : List Bd} {m : Int} {t : T} (h : subFind s m = some t) : ∃ b ∈ s, b.t = t := by
 unfold subFind at h
 obtain ⟨b, hb, rfl⟩ := Option.map_eq_some_iff.1 h
 exact ⟨b, List.mem_of_find?_eq_some hb, rfl⟩
/-- A substitution that came in: it lies in memory, is no longer than that, its terms are no larger. -/
structure IsSub (w : World) (s : List Bd) (a : Option Addr) (c : Nat) : Prop where
 rows : IsBs w s a
 len : s.length ≤ c
 cap : c ≤ maxLen
 small : s.length ≤ 4294967296
 parts : ∀ b ∈ s, b.t.size ≤ 4294967296
theorem IsSub.below {w w' : World} {s : List Bd} {a : Option Addr} {c : Nat} (h : IsSub w s a c) (hb : Below w.heap.size w w') : IsSub w' s a c := ⟨h.rows.below hb, h.len, h.cap, h.small, h.parts⟩
theorem IsSub.found {w : World} {s : List Bd} {a : Option Addr} {c : Nat} (h : IsSub w s a c) {m : Int} {t : T} (hf : subFind s m = some t) : t.size ≤ 4294967296 := by
 obtain ⟨b, hb, rfl⟩ := subFind_mem hf; exact h.parts b hb
set_option maxRecDepth 100000 in
theorem apply1_any (s : List Bd) (m : Int) (w : World) (a : Option Addr) (c g : Nat) (hs : IsSub w s a c) (hg : Blk w g 24 #[.slice a s.length c]) : Calls Try.prog 36 #[.int .i64 m, .pointer (some ⟨g, 0, none⟩)] w (Ret fun v' w' => IsTo w' (subFind s m) v' ∧ Below w.heap.size w w') := by
 have hgl := hg.lt
 refine Calls.walk (l := [.int .i64 m, .pointer (some ⟨g, 0, none⟩)]) Try.func36 rfl (by kernel_rfl) ?_
 refine WC.sub (K' := [(0, .int .i64 m), (1, .pointer (some ⟨g, 0, none⟩))]) ⟨rfl, rfl, trivial⟩ ?_
 refine WC.seq (WC.region (WL.asg rfl rfl rfl rfl rfl (WL.nil (WE.next (WC.seq (WC.region ?_))))))
 refine WL.val _ rfl rfl rfl (fun za zC zh zk => ld_24 rfl (zh.ev rfl) ((hg.cell 0).trans rfl) zk) ?_
 refine WL.mv rfl rfl rfl rfl rfl ?_
 refine WL.call rfl rfl rfl (fun za zh zC => wp_call (by kernel_rfl) rfl (hv2 (zh.ev rfl) (zh.ev rfl))) ((find_any s m _ _ _ hs.len hs.cap hs.small (hs.below (Below.refl _ _)).rows)) ?_
 rintro u w1 ⟨hu, hbu⟩
 refine WL.asg rfl rfl rfl rfl rfl (WL.nil (WE.next (WC.ret (WE.ret1 rfl rfl ?_))))
 exact ⟨_, rfl, hu, hbu⟩
set_option maxRecDepth 100000 in
theorem each_any (s : List Bd) (sa : Option Addr) (sc gs : Nat) : ∀ (t : T) (w : World) (v : Value), t.size ≤ 4294967296 → IsT w t v → IsSub w s sa sc → Blk w gs 24 #[.slice sa s.length sc] → Calls Try.prog 35 #[v, .func (.func 36) #[] #[.pointer (some ⟨gs, 0, none⟩)]] w (Ret fun v' w' => NewT w w' (t.app s) v' ∧ Below w.heap.size w w') := by
 refine T.ind (fun f l ih => ?_)
 intro w v hz hv hs hgs
 have hlen := len_le_sizeL l
 have hz' := hz
 simp only [T.size] at hz'
 obtain ⟨hf, a, c, rfl, hc, hm, hl⟩ := hv
 have hf' := hf
 unfold I64 at hf'
 have hgl := hgs.lt
 refine Calls.walk (l := [.agg #[.int .i64 f, .slice a l.length c], .func (.func 36) #[] #[.pointer (some ⟨gs, 0, none⟩)]]) Try.func35 rfl (by kernel_rfl) ?_
 refine WC.sub (K' := [(0, .agg #[.int .i64 f, .slice a l.length c]), (1, .func (.func 36) #[] #[.pointer (some ⟨gs, 0, none⟩)])]) ⟨rfl, rfl, trivial⟩ ?_
 refine WC.seq (WC.region ?_)
 refine WL.step (post := NewBlk w 32 #[.int .i64 f, .slice a l.length c]) rfl rfl rfl (fun za zC zh zk => box_32 rfl (zh.ev rfl) (zk _ _ (newBlk _ _ _))) ?_
 rintro _ w1 ⟨g2, rfl, hg3, hB4, hb5, hz6⟩
 have hl7 : gs < g2 := by have z1 := hgs.lt; omega
 have hl8 : w.heap.size ≤ g2 := by omega
 refine WL.step (post := NewBlk w1 32 #[.int .i64 0, .slice none 0 0]) rfl rfl rfl (fun za zC zh zk => alloc_32 rfl (zk _ _ (newBlk _ _ _))) ?_
 rintro _ w9 ⟨g10, rfl, hg11, hB12, hb13, hz14⟩
 have hl15 : gs < g10 := by have z1 := hgs.lt; have z2 := (hb5).size; omega
 have hl16 : g2 < g10 := by have z1 := hB4.lt; omega
 have hl17 : w.heap.size ≤ g10 := by have z2 := (hb5).size; omega
 refine WL.nil (WE.next (WC.seq (WC.seq (WC.region ?_))))
 refine WL.val _ rfl rfl rfl (fun za zC zh zk => fld_32_0 rfl (zh.ev rfl) zk) ?_
 have hB18 := hB4.below hb13
 refine WL.val _ rfl rfl rfl (fun za zC zh zk => ld_3 rfl (zh.ev rfl) ((hB18.cell 0).trans rfl) zk) ?_
 refine WL.val (.bool ((decide ((f : Int) < (0 : Int))))) rfl rfl rfl (fun za zC zh zk => lss_3 rfl (zh.ev rfl) (zh.ev rfl) zk) ?_
 refine WL.nil (WE.next ?_)
 refine WC.cond rfl (fun h19 => ?_) (fun h19 => ?_)
 ·have h19 : (f : Int) < (0 : Int) := by simpa using h19
  refine WC.seq (WC.region (WL.mv rfl rfl rfl rfl rfl ?_))
  refine WL.val _ rfl rfl rfl (fun za zC zh zk => fld_32_0 rfl (zh.ev rfl) zk) ?_
  refine WL.val _ rfl rfl rfl (fun za zC zh zk => ld_3 rfl (zh.ev rfl) ((hB18.cell 0).trans rfl) zk) ?_
  refine WL.val (.int .i64 ((-1 - f))) rfl rfl rfl (fun za zC zh zk => subb_3 rfl (zh.ev rfl) (zh.ev rfl) (wrap_eq rfl (by omega) (by omega)) zk) ?_
  have hb25 : Below w.heap.size w w9 := (bstep hb5 hb13)
  have hB26 := hgs.below hb25
  refine WL.call rfl rfl rfl (fun za zh zC => wp_callv (by kernel_rfl) rfl (zh.ev rfl) (hv1 (zh.ev rfl))) (apply1_any s (-1 - f) _ _ _ gs (hs.below hb25) hB26) ?_
  rintro v27 w20 ⟨hto21, hb22⟩
  rcases hf24 : subFind s (-1 - f) with _ | t23
  ·rw [hf24] at hto21
   obtain rfl : v27 = .pointer none := hto21
   refine WL.asg rfl rfl rfl rfl rfl (WL.nil (WE.next (WC.seq (WC.region (WL.mv rfl rfl rfl rfl rfl ?_)))))
   refine WL.val (.bool false) rfl rfl rfl (fun za zC zh zk => neqn_76 rfl (zh.ev rfl) (zh.ev rfl) zk) ?_
   refine WL.nil (WE.next ?_)
   refine WC.condF rfl rfl ?_
   refine WC.skip (WE.next (WC.seq (WC.region ?_)))
   refine WL.val _ rfl rfl rfl (fun za zC zh zk => fld_32_0 rfl (zh.ev rfl) zk) ?_
   have hB28 := hB18.below hb22
   refine WL.val _ rfl rfl rfl (fun za zC zh zk => ld_3 rfl (zh.ev rfl) ((hB28.cell 0).trans rfl) zk) ?_
   refine WL.val (.agg #[.int .i64 f, .slice none 0 0]) rfl rfl rfl (fun za zC zh zk => build_32_0 rfl (zh.ev rfl) zk) ?_
   refine WL.step (post := NewBlk w20 32 #[.int .i64 0, .slice none 0 0]) rfl rfl rfl (fun za zC zh zk => alloc_32 rfl (zk _ _ (newBlk _ _ _))) ?_
   rintro _ w29 ⟨g30, rfl, hg31, hB32, hb33, hz34⟩
   have hl35 : gs < g30 := by have z1 := hB26.lt; have z2 := (hb22).size; omega
   have hl36 : g2 < g30 := by have z1 := hB28.lt; omega
   have hl37 : g10 < g30 := by have z1 := hB12.lt; have z2 := (hb22).size; omega
   have hb38 : Below w.heap.size w w20 := (bstep hb25 hb22)
   have hl39 : w.heap.size ≤ g30 := by have z2 := (hb38).size; omega
   have hl40 : w20.heap.size ≤ g30 := by omega
   refine WL.step (post := fun _ w' => Upd g30 w29 w' ∧ Blk w' g30 32 #[.int .i64 f, .slice none 0 0]) rfl rfl rfl (fun za zC zh zk => st_32 rfl (zh.ev rfl) (zh.ev rfl) rfl rfl hB32 (by first | decide | simp) (fun v => zk v _ ⟨(Upd.at_ _ _ _ _).trans (Upd.at_ _ _ _ _), (hB32.set_ 0 _).set_ 1 _⟩)) ?_
   rintro v44 w41 ⟨hu42, hB43⟩
   have hb45 : Below w.heap.size w w29 := (bstep hb38 hb33)
   have hb46 := upd_below hb45 hu42 (by omega)
   have hb47 := upd_below hb33 hu42 (by omega)
   have hb49 : Below w9.heap.size w9 w29 := (bstep hb22 hb33)
   have hB48 := hB26.below hb49
   have hB50 := upd_blk hB48 hu42 (by omega)
   have hB51 := hB28.below hb33
   have hB52 := upd_blk hB51 hu42 (by omega)
   have hB53 := hB12.below hb49
   have hB54 := upd_blk hB53 hu42 (by omega)
   refine WL.nil (WE.next (WC.seq (WC.seq (WC.region ?_))))
   refine WL.val _ rfl rfl rfl (fun za zC zh zk => fld_32_1 rfl (zh.ev rfl) zk) ?_
   refine WL.val _ rfl rfl rfl (fun za zC zh zk => ld_30 rfl (zh.ev rfl) ((hB52.cell 1).trans rfl) zk) ?_
   refine WL.val (.int .i64 (((l.length : Nat) : Int))) rfl rfl rfl (fun za zC zh zk => len_30 rfl (zh.ev rfl) zk) ?_
   refine WL.val (.bool ((decide ((0 : Int) < (((l.length : Nat) : Int) : Int))))) rfl rfl rfl (fun za zC zh zk => gtr_3 rfl (zh.ev rfl) (zh.ev rfl) zk) ?_
   refine WL.nil (WE.next ?_)
   refine WC.cond rfl (fun h55 => ?_) (fun h55 => ?_)
   ·have h55 : (0 : Int) < (((l.length : Nat) : Int) : Int) := by simpa using h55
    refine WC.region ?_
    refine WL.val _ rfl rfl rfl (fun za zC zh zk => fld_32_1 rfl (zh.ev rfl) zk) ?_
    refine WL.val _ rfl rfl rfl (fun za zC zh zk => ld_30 rfl (zh.ev rfl) ((hB52.cell 1).trans rfl) zk) ?_
    refine WL.val (.int .i64 (((l.length : Nat) : Int))) rfl rfl rfl (fun za zC zh zk => len_30 rfl (zh.ev rfl) zk) ?_
    refine WL.step (post := fun v w' => ∃ g, v = .slice (some ⟨g, 0, none⟩) l.length l.length ∧ w41.heap.size = g ∧ Blk w' g 32 (madeCells (Value.cells (.agg #[.int .i64 0, .slice none 0 0])) (l.length * 2)) ∧ Below w41.heap.size w41 w') rfl rfl rfl (fun za zC zh zk => wp_mkE (z := .agg #[.int .i64 0, .slice none 0 0]) (size := 2) (bytes := 32) Try.underlying30 (by kernel_rfl) (by decide) rfl (zh.ev rfl) (zh.ev rfl) (by omega) (zk _ _ ⟨_, rfl, rfl, Blk.new' rfl, balloc _ _⟩)) ?_
    rintro _ w56 ⟨g57, rfl, hg58, hB59, hb60⟩
    have hl62 : gs < g57 := by have z1 := hB50.lt; omega
    have hl63 : g2 < g57 := by have z1 := hB52.lt; omega
    have hl64 : g10 < g57 := by have z1 := hB54.lt; omega
    have hl65 : g30 < g57 := by have z1 := hB43.lt; omega
    have hl66 : w.heap.size ≤ g57 := by have z2 := (hb46).size; omega
    have hl67 : w20.heap.size ≤ g57 := by have z2 := (hb47).size; omega
    have hM61 : MRow eltT w56 g57 g57 32 l.length (madeCells (Value.cells (.agg #[.int .i64 0, .slice none 0 0])) (l.length * 2)).toList [] := MRow.startT hB59 (Nat.le_refl _)
    refine WL.val _ rfl rfl rfl (fun za zC zh zk => fld_32_1 rfl (zh.ev rfl) zk) ?_
    have hB68 := hB43.below hb60
    refine WL.step (post := fun _ w' => Upd g30 w56 w' ∧ Blk w' g30 32 #[.int .i64 f, .slice ((some ⟨g57, 0, none⟩)) l.length l.length]) rfl rfl rfl (fun za zC zh zk => st_30 rfl (zh.ev rfl) (zh.ev rfl) hB68 (by first | decide | simp) (fun v => zk v _ ⟨Upd.at_ _ _ _ _, hB68.set_ 1 _⟩)) ?_
    rintro v72 w69 ⟨hu70, hB71⟩
    have hb73 : Below w.heap.size w w56 := (bstep hb46 hb60)
    have hb74 : Below w20.heap.size w20 w56 := (bstep hb47 hb60)
    have hb75 := upd_below hb73 hu70 (by omega)
    have hb76 := upd_below hb74 hu70 (by omega)
    have hB77 := hB50.below hb60
    have hB78 := upd_blk hB77 hu70 (by omega)
    have hB79 := hB52.below hb60
    have hB80 := upd_blk hB79 hu70 (by omega)
    have hB81 := hB54.below hb60
    have hB82 := upd_blk hB81 hu70 (by omega)
    have ho83 := hM61.upd hu70 (by omega)
    refine WL.nil (WE.sub (K' := [(0, .agg #[.int .i64 f, .slice a l.length c]), (1, .func (.func 36) #[] #[.pointer (some ⟨gs, 0, none⟩)]), (2, .pointer (some ⟨g2, 0, none⟩)), (4, .pointer (some ⟨g10, 0, none⟩)), (5, .pointer none), (6, .pointer (some ⟨g30, 0, none⟩)), (11, .bool ((decide ((f : Int) < (0 : Int))))), (18, .bool false), (29, .bool ((decide ((0 : Int) < (((l.length : Nat) : Int) : Int)))))]) ⟨rfl, rfl, rfl, rfl, rfl, rfl, rfl, rfl, rfl, trivial⟩ ?_)
    refine WE.next (WC.seq (WC.seq (WC.region ?_)))
    refine WL.val _ rfl rfl rfl (fun za zC zh zk => fld_32_1 rfl (zh.ev rfl) zk) ?_
    refine WL.val _ rfl rfl rfl (fun za zC zh zk => ld_30 rfl (zh.ev rfl) ((hB80.cell 1).trans rfl) zk) ?_
    refine WL.val (.int .i64 (((l.length : Nat) : Int))) rfl rfl rfl (fun za zC zh zk => len_30 rfl (zh.ev rfl) zk) ?_
    refine WL.mv rfl rfl rfl rfl rfl (WL.nil (WE.next (WC.block ?_)))
    refine WC.loop (X := Nat) (fun k => l.length - k) (fun k => [(0, .agg #[.int .i64 f, .slice a l.length c]), (1, .func (.func 36) #[] #[.pointer (some ⟨gs, 0, none⟩)]), (2, .pointer (some ⟨g2, 0, none⟩)), (4, .pointer (some ⟨g10, 0, none⟩)), (5, .pointer none), (6, .pointer (some ⟨g30, 0, none⟩)), (11, .bool ((decide ((f : Int) < (0 : Int))))), (18, .bool false), (29, .bool ((decide ((0 : Int) < (((l.length : Nat) : Int) : Int))))), (36, .slice a l.length c), (37, .int .i64 (((l.length : Nat) : Int))), (38, .int .i64 (((k : Nat) : Int)))]) (fun k w84 => k ≤ l.length ∧ Below w.heap.size w w84 ∧ Blk w84 gs 24 #[.slice sa s.length sc] ∧ Blk w84 g2 32 #[.int .i64 f, .slice a l.length c] ∧ Blk w84 g10 32 #[.int .i64 0, .slice none 0 0] ∧ Blk w84 g30 32 #[.int .i64 f, .slice ((some ⟨g57, 0, none⟩)) l.length l.length] ∧ MRow eltT (w84) g57 g57 32 l.length (madeCells (Value.cells (.agg #[.int .i64 0, .slice none 0 0])) (l.length * 2)).toList ((l.take k).map (T.app s))) 0 ⟨rfl, rfl, rfl, rfl, rfl, rfl, rfl, rfl, rfl, rfl, rfl, rfl, trivial⟩ ?_ ?_
    ·exact ⟨Nat.zero_le _, hb75, hB78, hB80, hB82, hB71, ho83⟩
    ·rintro k w84 ⟨hk, hb85, hB86, hB87, hB88, hB89, ho90⟩
     have hgl := ho90.lt
     refine WC.seq (WC.region ?_)
     refine WL.val (.bool ((decide ((((k : Nat) : Int) : Int) < (((l.length : Nat) : Int) : Int))))) rfl rfl rfl (fun za zC zh zk => lss_3 rfl (zh.ev rfl) (zh.ev rfl) zk) ?_
     refine WL.nil (WE.next (WC.seq ?_))
     refine WC.cond rfl (fun h91 => ?_) (fun h91 => ?_)
     ·have h91 : (((k : Nat) : Int) : Int) < (((l.length : Nat) : Int) : Int) := by simpa using h91
      refine WC.skip (WE.next (WC.seq (WC.block (WC.seq (WC.region (WL.mv rfl rfl rfl rfl rfl ?_))))))
      obtain ⟨b92, o93, A94, C95, ha96, hc97⟩ := IsTs.open hl
      refine WL.val _ rfl rfl rfl (fun za zC zh zk => ix_30 (k := k) rfl (zh.ev rfl) (ha96 k (by first | omega | (simp; omega))) (zh.ev rfl) (by first | omega | (simp; omega)) zk) ?_
      refine WL.val _ rfl rfl rfl (fun za zC zh zk => ld_32 rfl (zh.ev rfl) (bkeeps hb85 _ _ (hc97 k (by first | omega | (simp; omega))).1) (bkeeps hb85 _ _ (hc97 k (by first | omega | (simp; omega))).2.1) zk) ?_
      refine WL.step (post := NewBlk w84 32 #[.int .i64 0, .slice none 0 0]) rfl rfl rfl (fun za zC zh zk => alloc_32 rfl (zk _ _ (newBlk _ _ _))) ?_
      rintro _ w98 ⟨g99, rfl, hg100, hB101, hb102, hz103⟩
      have hl104 : gs < g99 := by have z1 := hB86.lt; omega
      have hl105 : g2 < g99 := by have z1 := hB87.lt; omega
      have hl106 : g10 < g99 := by have z1 := hB88.lt; omega
      have hl107 : g30 < g99 := by have z1 := hB89.lt; omega
      have hl108 : w.heap.size ≤ g99 := by have z2 := (hb85).size; omega
      have hl109 : w84.heap.size ≤ g99 := by omega
      refine WL.asg rfl rfl rfl rfl rfl ?_
      refine WL.step (post := fun _ w' => Upd g99 w98 w' ∧ Blk w' g99 32 #[.int .i64 ((tget l k).f), .slice ((A94 k)) ((tget l k).args.length) ((C95 k))]) rfl rfl rfl (fun za zC zh zk => st_32 rfl (zh.ev rfl) (zh.ev rfl) rfl rfl hB101 (by first | decide | simp) (fun v => zk v _ ⟨(Upd.at_ _ _ _ _).trans (Upd.at_ _ _ _ _), (hB101.set_ 0 _).set_ 1 _⟩)) ?_
      rintro v113 w110 ⟨hu111, hB112⟩
      have hb114 : Below w.heap.size w w98 := (bstep hb85 hb102)
      have hb115 := upd_below hb114 hu111 (by omega)
      have hb116 := upd_below hb102 hu111 (by omega)
      have hB117 := hB86.below hb102
      have hB118 := upd_blk hB117 hu111 (by omega)
      have hB119 := hB87.below hb102
      have hB120 := upd_blk hB119 hu111 (by omega)
      have hB121 := hB88.below hb102
      have hB122 := upd_blk hB121 hu111 (by omega)
      have hB123 := hB89.below hb102
      have hB124 := upd_blk hB123 hu111 (by omega)
      refine WL.nil (WE.next ?_)
      have ho125 := ho90.below hb116
      have hSlt : ∀ b, (fun b => b = g57) b → b < w110.heap.size := fun b e => e ▸ ho125.lt
      have hgl : g57 < w110.heap.size := ho125.lt
      refine WC.tail1 (S := ((fun b => b = g57))) [(true, .val (.pointer (some ⟨g30, 1, none⟩))), (true, .val (.slice ((some ⟨g57, 0, none⟩)) l.length l.length)), (true, .val (.int .i64 (((k : Nat) : Int)))), (true, .val (.agg #[.int .i64 ((tget l k).f), .slice ((A94 k)) ((tget l k).args.length) ((C95 k))])), (true, .val (.func (.func 36) #[] #[.pointer (some ⟨gs, 0, none⟩)])), (true, .mem (fun v w' => NewT w110 w' (((tget l k).app s)) v) (fun v w w' hc h => InT.chg h hc (fun b hb hs => by have z := hSlt b hs; omega))), (true, .val (.pointer (some ⟨g57, 0 + k * 2, none⟩))), (true, .val undef)] [(0, .agg #[.int .i64 f, .slice a l.length c]), (1, .func (.func 36) #[] #[.pointer (some ⟨gs, 0, none⟩)]), (2, .pointer (some ⟨g2, 0, none⟩)), (4, .pointer (some ⟨g10, 0, none⟩)), (5, .pointer none), (6, .pointer (some ⟨g30, 0, none⟩)), (7, .int .i64 (((k : Nat) : Int))), (8, .pointer (some ⟨g99, 0, none⟩)), (11, .bool ((decide ((f : Int) < (0 : Int))))), (18, .bool false), (29, .bool ((decide ((0 : Int) < (((l.length : Nat) : Int) : Int))))), (36, .slice a l.length c), (37, .int .i64 (((l.length : Nat) : Int))), (38, .int .i64 (((k : Nat) : Int))), (39, .bool ((decide ((((k : Nat) : Int) : Int) < (((l.length : Nat) : Int) : Int)))))] 7 (fun wz => MRow eltT wz g57 g57 32 l.length (madeCells (Value.cells (.agg #[.int .i64 0, .slice none 0 0])) (l.length * 2)).toList (((l.take k).map (T.app s) ++ [(tget l k).app s]))) (fun w w' hb h => h.below hb) ⟨rfl, rfl, rfl, rfl, rfl, rfl, rfl, rfl, rfl, rfl, rfl, rfl, rfl, rfl, rfl, trivial⟩ (by kernel_rfl) (by kernel_rfl) (by kernel_rfl) (by kernel_rfl) ?_ ?_
      ·refine ⟨.inl ⟨rfl, true, .none rfl, (fun gg b h => by cases h), fun h w => optUndef h, fun zβ za zw zc => ?_⟩, ?_⟩
       ·exact fld_32_1 rfl (zc.kn.ev rfl) ⟨_, rfl, Below.refl _ _, optDef zβ rfl⟩
       refine ⟨.inl ⟨rfl, true, .none rfl, (fun gg b h => by cases h), fun h w => optUndef h, fun zβ za zw zc => ?_⟩, ?_⟩
       ·exact ld_30 rfl ((evt za 43).trans (optSVal (zc.dep 0 43 (by kernel_rfl) (by decide)) rfl rfl)) (bkeeps (zc.early (by kernel_rfl)) _ _ ((hB124.cell 1).trans rfl)) ⟨_, rfl, Below.refl _ _, optDef zβ rfl⟩
       refine ⟨.inl ⟨rfl, true, .none rfl, (fun gg b h => by cases h), fun h w => optUndef h, fun zβ za zw zc => ?_⟩, ?_⟩
       ·exact wp_move rfl (zc.kn.ev rfl) ⟨_, rfl, Below.refl _ _, optDef zβ rfl⟩
       refine ⟨.inl ⟨rfl, true, .none rfl, (fun gg b h => by cases h), fun h w => optUndef h, fun zβ za zw zc => ?_⟩, ?_⟩
       ·exact ld_32 rfl (zc.kn.ev rfl) (bkeeps (zc.early (by kernel_rfl)) _ _ ((hB112.cell 0).trans rfl)) (bkeeps (zc.early (by kernel_rfl)) _ _ ((hB112.cell 1).trans rfl)) ⟨_, rfl, Below.refl _ _, optDef zβ rfl⟩
       refine ⟨.inl ⟨rfl, true, .none rfl, (fun gg b h => by cases h), fun h w => optUndef h, fun zβ za zw zc => ?_⟩, ?_⟩
       ·exact wp_move rfl (zc.kn.ev rfl) ⟨_, rfl, Below.refl _ _, optDef zβ rfl⟩
       refine ⟨.inl ⟨rfl, true, .none rfl, (fun gg b h => by cases h), fun h w => optUndef h, fun zβ za zw zc => ?_⟩, ?_⟩
       ·exact wp_call (by kernel_rfl) rfl (hv2 ((evt za 46).trans (optSVal (zc.dep 3 46 (by kernel_rfl) (by decide)) rfl rfl)) ((evt za 47).trans (optSVal (zc.dep 4 47 (by kernel_rfl) (by decide)) rfl rfl))) (ih _ (tget_mem (by omega)) _ _ (size_at (by omega) hz) (IsT.below (bstep hb115 (zc.early (by kernel_rfl))) (hc97 k (by first | omega | (simp; omega))).2.2) (hs.below (bstep hb115 (zc.early (by kernel_rfl)))) (hB118.below (zc.early (by kernel_rfl)))) (fun v w' h => ⟨v, rfl, h.2, optDef zβ (InT.mono (fun b hb _ => Nat.le_trans (zc.early (by kernel_rfl)).size hb) h.1)⟩)
       refine ⟨.inl ⟨rfl, true, .none rfl, (fun gg b h => by cases h), fun h w => optUndef h, fun zβ za zw zc => ?_⟩, ?_⟩
       ·exact ix_30 (k := k) rfl ((evt za 44).trans (optSVal (zc.dep 1 44 (by kernel_rfl) (by decide)) rfl rfl)) rfl ((evt za 45).trans (optSVal (zc.dep 2 45 (by kernel_rfl) (by decide)) rfl rfl)) (by first | omega | (simp; omega)) ⟨_, rfl, Below.refl _ _, optDef zβ rfl⟩
       refine ⟨.inr ⟨rfl, rfl, fun za zw zc => ?_⟩, ?_⟩
       ·have zv := (optSMem (zc.dep 5 48 (by kernel_rfl) (by decide)) rfl rfl)
        obtain ⟨_, a1, c1, e1, _⟩ := zv.form
        rw [e1] at zv
        have zm := ho125.below zc.below
        obtain ⟨cs, hB, hsz⟩ := zm.blkT (k := k) (by simp; omega) (by omega)
        exact st_32 rfl ((evt za 49).trans (optSVal (zc.dep 6 49 (by kernel_rfl) (by decide)) rfl rfl)) ((evt za 48).trans e1) rfl rfl hB hsz (fun v => ⟨v, rfl, zm.storeT (k := k) (by simp; omega) (by omega) (zv.mono (fun b hb _ => by (try dsimp only at *); omega)), .ofUpd ((Upd.at_ _ _ _ _).trans (Upd.at_ _ _ _ _)) rfl⟩)
       exact trivial
      ·intro za w126 zh hG127 hc128 zu
       have hb129 := chg_below hb115 hc128 (fun b hb => (by (try dsimp only at *); omega))
       have hB130 := chg_blk hB118 hc128 (by (try dsimp only at *); omega)
       have hB131 := chg_blk hB120 hc128 (by (try dsimp only at *); omega)
       have hB132 := chg_blk hB122 hc128 (by (try dsimp only at *); omega)
       have hB133 := chg_blk hB124 hc128 (by (try dsimp only at *); omega)
       have hB134 := chg_blk hB112 hc128 (by (try dsimp only at *); omega)
       clear zu
       refine WE.go zh ?_
       refine WE.blockNormal (WE.next (WC.region ?_))
       refine WL.val (.int .i64 ((((k + 1) : Nat) : Int))) rfl rfl rfl (fun za zC zh zk => addb_3 rfl (zh.ev rfl) (zh.ev rfl) (wrap_eq (by omega) (by omega) (by omega)) zk) ?_
       refine WL.mv rfl rfl rfl rfl rfl (WL.nil ?_)
       refine WE.round (k + 1) ⟨rfl, rfl, rfl, rfl, rfl, rfl, rfl, rfl, rfl, rfl, rfl, rfl, trivial⟩ ?_ ?_
       ·exact ⟨by omega, hb129, hB130, hB131, hB132, hB133, (by rw [← take_map (by omega)]; exact hG127)⟩
       ·omega
     ·have h91 : ¬ ((((k : Nat) : Int) : Int) < (((l.length : Nat) : Int) : Int)) := by simpa using h91
      refine WC.exit (WE.thenExit (WE.thenExit (WE.blockIs rfl (WE.next (WC.seq (WC.region ?_))))))
      refine WL.val _ rfl rfl rfl (fun za zC zh zk => ld_32 rfl (zh.ev rfl) ((hB89.cell 0).trans rfl) ((hB89.cell 1).trans rfl) zk) ?_
      refine WL.step (post := fun _ w' => Upd g10 w84 w' ∧ Blk w' g10 32 #[.int .i64 f, .slice ((some ⟨g57, 0, none⟩)) l.length l.length]) rfl rfl rfl (fun za zC zh zk => st_32 rfl (zh.ev rfl) (zh.ev rfl) rfl rfl hB88 (by first | decide | simp) (fun v => zk v _ ⟨(Upd.at_ _ _ _ _).trans (Upd.at_ _ _ _ _), (hB88.set_ 0 _).set_ 1 _⟩)) ?_
      rintro v138 w135 ⟨hu136, hB137⟩
      have hb139 := upd_below hb85 hu136 (by omega)
      have hB140 := upd_blk hB86 hu136 (by omega)
      have hB141 := upd_blk hB87 hu136 (by omega)
      have hB142 := upd_blk hB89 hu136 (by omega)
      have ho143 := ho90.upd hu136 (by omega)
      refine WL.nil (WE.next (WC.ret ?_))
      refine WE.retAny (v := .agg #[.int .i64 f, .slice ((some ⟨g57, 0, none⟩)) l.length l.length]) (fun za zh => ?_) ?_
      ·have z0 : za.tmps[4]?.getD undef = .pointer (some ⟨g10, 0, none⟩) := by rw [← Array.getD_eq_getD_getElem?]; exact zh.knows 4 _ rfl
       have y0 : w135.cell? ⟨g10, 0, none⟩ = some (.int .i64 f) := ((hB137.cell 0).trans rfl)
       have y1 : w135.cell? ⟨g10, 1, none⟩ = some (.slice ((some ⟨g57, 0, none⟩)) l.length l.length) := ((hB137.cell 1).trans rfl)
       simp [results, Try.results35, z0, y0, y1, go_sem]
      ·have z := ho143
       rw [List.take_of_length_le (by omega)] at z
       have hgz := (hb139).size
       exact ⟨_, rfl, by rw [app_none (fun _ => hf24)]; exact newT_mk hf (by simp) (Nat.le_refl _) (by unfold maxLen; omega) (z.inRow.mono (by decide) (fun b hb _ => by omega)), hb139⟩
   ·have h55 : ¬ ((0 : Int) < (((l.length : Nat) : Int) : Int)) := by simpa using h55
    refine WC.skip (WE.next (WC.seq (WC.seq (WC.region ?_))))
    refine WL.val _ rfl rfl rfl (fun za zC zh zk => fld_32_1 rfl (zh.ev rfl) zk) ?_
    refine WL.val _ rfl rfl rfl (fun za zC zh zk => ld_30 rfl (zh.ev rfl) ((hB52.cell 1).trans rfl) zk) ?_
    refine WL.val (.int .i64 (((l.length : Nat) : Int))) rfl rfl rfl (fun za zC zh zk => len_30 rfl (zh.ev rfl) zk) ?_
    refine WL.mv rfl rfl rfl rfl rfl ?_
    refine WL.nil (WE.sub (K' := [(0, .agg #[.int .i64 f, .slice a l.length c]), (1, .func (.func 36) #[] #[.pointer (some ⟨gs, 0, none⟩)]), (2, .pointer (some ⟨g2, 0, none⟩)), (4, .pointer (some ⟨g10, 0, none⟩)), (5, .pointer none), (6, .pointer (some ⟨g30, 0, none⟩)), (11, .bool ((decide ((f : Int) < (0 : Int))))), (18, .bool false), (29, .bool ((decide ((0 : Int) < (((l.length : Nat) : Int) : Int))))), (36, .slice a l.length c), (37, .int .i64 (((l.length : Nat) : Int))), (38, .int .i64 0)]) ⟨rfl, rfl, rfl, rfl, rfl, rfl, rfl, rfl, rfl, rfl, rfl, rfl, trivial⟩ ?_)
    refine WE.next (WC.block ?_)
    refine WC.loop (X := Unit) (fun _ => 0) (fun _ => [(0, .agg #[.int .i64 f, .slice a l.length c]), (1, .func (.func 36) #[] #[.pointer (some ⟨gs, 0, none⟩)]), (2, .pointer (some ⟨g2, 0, none⟩)), (4, .pointer (some ⟨g10, 0, none⟩)), (5, .pointer none), (6, .pointer (some ⟨g30, 0, none⟩)), (11, .bool ((decide ((f : Int) < (0 : Int))))), (18, .bool false), (29, .bool ((decide ((0 : Int) < (((l.length : Nat) : Int) : Int))))), (36, .slice a l.length c), (37, .int .i64 (((l.length : Nat) : Int))), (38, .int .i64 0)]) (fun _ w144 => True ∧ Below w.heap.size w w144 ∧ Below w20.heap.size w20 w144 ∧ Blk w144 gs 24 #[.slice sa s.length sc] ∧ Blk w144 g2 32 #[.int .i64 f, .slice a l.length c] ∧ Blk w144 g10 32 #[.int .i64 0, .slice none 0 0] ∧ Blk w144 g30 32 #[.int .i64 f, .slice none 0 0]) (()) ⟨rfl, rfl, rfl, rfl, rfl, rfl, rfl, rfl, rfl, rfl, rfl, rfl, trivial⟩ ?_ ?_
    ·exact ⟨trivial, hb46, hb47, hB50, hB52, hB54, hB43⟩
    ·rintro _ w144 ⟨_, hb145, hb146, hB147, hB148, hB149, hB150⟩
     refine WC.seq (WC.region ?_)
     refine WL.val (.bool ((decide ((0 : Int) < (((l.length : Nat) : Int) : Int))))) rfl rfl rfl (fun za zC zh zk => lss_3 rfl (zh.ev rfl) (zh.ev rfl) zk) ?_
     refine WL.nil (WE.next (WC.seq ?_))
     refine WC.condF rfl (decide_eq_false (by omega)) ?_
     refine WC.exit (WE.thenExit (WE.thenExit (WE.blockIs rfl (WE.next (WC.seq (WC.region ?_))))))
     refine WL.val _ rfl rfl rfl (fun za zC zh zk => ld_32 rfl (zh.ev rfl) ((hB150.cell 0).trans rfl) ((hB150.cell 1).trans rfl) zk) ?_
     refine WL.step (post := fun _ w' => Upd g10 w144 w' ∧ Blk w' g10 32 #[.int .i64 f, .slice none 0 0]) rfl rfl rfl (fun za zC zh zk => st_32 rfl (zh.ev rfl) (zh.ev rfl) rfl rfl hB149 (by first | decide | simp) (fun v => zk v _ ⟨(Upd.at_ _ _ _ _).trans (Upd.at_ _ _ _ _), (hB149.set_ 0 _).set_ 1 _⟩)) ?_
     rintro v154 w151 ⟨hu152, hB153⟩
     have hb155 := upd_below hb145 hu152 (by omega)
     have hB156 := upd_blk hB147 hu152 (by omega)
     have hB157 := upd_blk hB148 hu152 (by omega)
     have hB158 := upd_blk hB150 hu152 (by omega)
     refine WL.nil (WE.next (WC.ret ?_))
     refine WE.retAny (v := .agg #[.int .i64 f, .slice none 0 0]) (fun za zh => ?_) ?_
     ·have z0 : za.tmps[4]?.getD undef = .pointer (some ⟨g10, 0, none⟩) := by rw [← Array.getD_eq_getD_getElem?]; exact zh.knows 4 _ rfl
      have y0 : w151.cell? ⟨g10, 0, none⟩ = some (.int .i64 f) := ((hB153.cell 0).trans rfl)
      have y1 : w151.cell? ⟨g10, 1, none⟩ = some (.slice none 0 0) := ((hB153.cell 1).trans rfl)
      simp [results, Try.results35, z0, y0, y1, go_sem]
     ·have e : l = [] := List.length_eq_zero_iff.1 (by omega)
      subst e
      exact ⟨_, rfl, by rw [app_none (fun _ => hf24)]; exact newT_leaf hf, hb155⟩
  ·rw [hf24] at hto21
   obtain ⟨b159, o160, a161, c162, rfl, h163, h164, h165⟩ := hto21
   refine WL.asg rfl rfl rfl rfl rfl (WL.nil (WE.next (WC.seq (WC.region (WL.mv rfl rfl rfl rfl rfl ?_)))))
   refine WL.val (.bool true) rfl rfl rfl (fun za zC zh zk => neqp_76 rfl (zh.ev rfl) (zh.ev rfl) zk) ?_
   refine WL.nil (WE.next ?_)
   refine WC.condT rfl rfl ?_
   refine WC.seq (WC.region (WL.mv rfl rfl rfl rfl rfl ?_))
   refine WL.val _ rfl rfl rfl (fun za zC zh zk => nilCheck_ rfl (zh.ev rfl) zk) ?_
   refine WL.val _ rfl rfl rfl (fun za zC zh zk => ld_32 rfl (zh.ev rfl) h163 h164 zk) ?_
   have hl169 : gs < w20.heap.size := by have z1 := hB26.lt; have z2 := (hb22).size; omega
   have hl170 : g2 < w20.heap.size := by have z1 := hB18.lt; have z2 := (hb22).size; omega
   have hl171 : g10 < w20.heap.size := by have z1 := hB12.lt; have z2 := (hb22).size; omega
   have hb173 : Below w.heap.size w w20 := (bstep hb25 hb22)
   have hl172 : w.heap.size ≤ w20.heap.size := (hb173).size
   refine WL.call rfl rfl rfl (fun za zh zC => wp_call (by kernel_rfl) rfl (hv1 (zh.ev rfl))) (copy_any t23 _ _ (hs.found hf24) (IsT.below (Below.refl _ _) h165)) ?_
   rintro v166 w174 ⟨hn167, hb168⟩
   obtain ⟨_, a175, c176, rfl, _, _, _⟩ := hn167.form
   have hb178 : Below w9.heap.size w9 w174 := (bstep hb22 hb168)
   have hB177 := hB12.below hb178
   refine WL.step (post := fun _ w' => Upd g10 w174 w' ∧ Blk w' g10 32 #[.int .i64 t23.f, .slice a175 t23.args.length c176]) rfl rfl rfl (fun za zC zh zk => st_32 rfl (zh.ev rfl) (zh.ev rfl) rfl rfl hB177 (by first | decide | simp) (fun v => zk v _ ⟨(Upd.at_ _ _ _ _).trans (Upd.at_ _ _ _ _), (hB177.set_ 0 _).set_ 1 _⟩)) ?_
   rintro v182 w179 ⟨hu180, hB181⟩
   have hb183 : Below w.heap.size w w174 := (bstep hb25 hb178)
   have hb184 := upd_below hb183 hu180 (by omega)
   have hB185 := hB26.below hb178
   have hB186 := upd_blk hB185 hu180 (by omega)
   have hB187 := hB18.below hb178
   have hB188 := upd_blk hB187 hu180 (by omega)
   have ho189 := hn167.upd hu180 (by omega)
   refine WL.nil (WE.next (WC.ret (WE.thenRet ?_)))
   refine WE.retAny (v := .agg #[.int .i64 t23.f, .slice a175 t23.args.length c176]) (fun za zh => ?_) ?_
   ·have z0 : za.tmps[4]?.getD undef = .pointer (some ⟨g10, 0, none⟩) := by rw [← Array.getD_eq_getD_getElem?]; exact zh.knows 4 _ rfl
    have y0 : w179.cell? ⟨g10, 0, none⟩ = some (.int .i64 t23.f) := ((hB181.cell 0).trans rfl)
    have y1 : w179.cell? ⟨g10, 1, none⟩ = some (.slice a175 t23.args.length c176) := ((hB181.cell 1).trans rfl)
    simp [results, Try.results35, z0, y0, y1, go_sem]
   ·have z := ho189
    have hgz := (hb173).size
    exact ⟨_, rfl, by rw [app_some ‹_› hf24]; exact z.mono (fun b hb _ => by omega), hb184⟩
 ·have h19 : ¬ ((f : Int) < (0 : Int)) := by simpa using h19
  refine WC.skip (WE.next (WC.seq (WC.region ?_)))
  refine WL.val _ rfl rfl rfl (fun za zC zh zk => fld_32_0 rfl (zh.ev rfl) zk) ?_
  refine WL.val _ rfl rfl rfl (fun za zC zh zk => ld_3 rfl (zh.ev rfl) ((hB18.cell 0).trans rfl) zk) ?_
  refine WL.val (.agg #[.int .i64 f, .slice none 0 0]) rfl rfl rfl (fun za zC zh zk => build_32_0 rfl (zh.ev rfl) zk) ?_
  refine WL.step (post := NewBlk w9 32 #[.int .i64 0, .slice none 0 0]) rfl rfl rfl (fun za zC zh zk => alloc_32 rfl (zk _ _ (newBlk _ _ _))) ?_
  rintro _ w190 ⟨g191, rfl, hg192, hB193, hb194, hz195⟩
  have hb196 : Below w.heap.size w w9 := (bstep hb5 hb13)
  have hl197 : gs < g191 := by have z1 := hgs.lt; have z2 := (hb196).size; omega
  have hl198 : g2 < g191 := by have z1 := hB18.lt; omega
  have hl199 : g10 < g191 := by have z1 := hB12.lt; omega
  have hl200 : w.heap.size ≤ g191 := by have z2 := (hb196).size; omega
  refine WL.step (post := fun _ w' => Upd g191 w190 w' ∧ Blk w' g191 32 #[.int .i64 f, .slice none 0 0]) rfl rfl rfl (fun za zC zh zk => st_32 rfl (zh.ev rfl) (zh.ev rfl) rfl rfl hB193 (by first | decide | simp) (fun v => zk v _ ⟨(Upd.at_ _ _ _ _).trans (Upd.at_ _ _ _ _), (hB193.set_ 0 _).set_ 1 _⟩)) ?_
  rintro v204 w201 ⟨hu202, hB203⟩
  have hb205 : Below w.heap.size w w190 := (bstep hb196 hb194)
  have hb206 := upd_below hb205 hu202 (by omega)
  have hB207 := hgs.below hb205
  have hB208 := upd_blk hB207 hu202 (by omega)
  have hB209 := hB18.below hb194
  have hB210 := upd_blk hB209 hu202 (by omega)
  have hB211 := hB12.below hb194
  have hB212 := upd_blk hB211 hu202 (by omega)
  refine WL.nil (WE.next (WC.seq (WC.seq (WC.region ?_))))
  refine WL.val _ rfl rfl rfl (fun za zC zh zk => fld_32_1 rfl (zh.ev rfl) zk) ?_
  refine WL.val _ rfl rfl rfl (fun za zC zh zk => ld_30 rfl (zh.ev rfl) ((hB210.cell 1).trans rfl) zk) ?_
  refine WL.val (.int .i64 (((l.length : Nat) : Int))) rfl rfl rfl (fun za zC zh zk => len_30 rfl (zh.ev rfl) zk) ?_
  refine WL.val (.bool ((decide ((0 : Int) < (((l.length : Nat) : Int) : Int))))) rfl rfl rfl (fun za zC zh zk => gtr_3 rfl (zh.ev rfl) (zh.ev rfl) zk) ?_
  refine WL.nil (WE.next ?_)
  refine WC.cond rfl (fun h213 => ?_) (fun h213 => ?_)
  ·have h213 : (0 : Int) < (((l.length : Nat) : Int) : Int) := by simpa using h213
   refine WC.region ?_
   refine WL.val _ rfl rfl rfl (fun za zC zh zk => fld_32_1 rfl (zh.ev rfl) zk) ?_
   refine WL.val _ rfl rfl rfl (fun za zC zh zk => ld_30 rfl (zh.ev rfl) ((hB210.cell 1).trans rfl) zk) ?_
   refine WL.val (.int .i64 (((l.length : Nat) : Int))) rfl rfl rfl (fun za zC zh zk => len_30 rfl (zh.ev rfl) zk) ?_
   refine WL.step (post := fun v w' => ∃ g, v = .slice (some ⟨g, 0, none⟩) l.length l.length ∧ w201.heap.size = g ∧ Blk w' g 32 (madeCells (Value.cells (.agg #[.int .i64 0, .slice none 0 0])) (l.length * 2)) ∧ Below w201.heap.size w201 w') rfl rfl rfl (fun za zC zh zk => wp_mkE (z := .agg #[.int .i64 0, .slice none 0 0]) (size := 2) (bytes := 32) Try.underlying30 (by kernel_rfl) (by decide) rfl (zh.ev rfl) (zh.ev rfl) (by omega) (zk _ _ ⟨_, rfl, rfl, Blk.new' rfl, balloc _ _⟩)) ?_
   rintro _ w214 ⟨g215, rfl, hg216, hB217, hb218⟩
   have hl220 : gs < g215 := by have z1 := hB208.lt; omega
   have hl221 : g2 < g215 := by have z1 := hB210.lt; omega
   have hl222 : g10 < g215 := by have z1 := hB212.lt; omega
   have hl223 : g191 < g215 := by have z1 := hB203.lt; omega
   have hl224 : w.heap.size ≤ g215 := by have z2 := (hb206).size; omega
   have hM219 : MRow eltT w214 g215 g215 32 l.length (madeCells (Value.cells (.agg #[.int .i64 0, .slice none 0 0])) (l.length * 2)).toList [] := MRow.startT hB217 (Nat.le_refl _)
   refine WL.val _ rfl rfl rfl (fun za zC zh zk => fld_32_1 rfl (zh.ev rfl) zk) ?_
   have hB225 := hB203.below hb218
   refine WL.step (post := fun _ w' => Upd g191 w214 w' ∧ Blk w' g191 32 #[.int .i64 f, .slice ((some ⟨g215, 0, none⟩)) l.length l.length]) rfl rfl rfl (fun za zC zh zk => st_30 rfl (zh.ev rfl) (zh.ev rfl) hB225 (by first | decide | simp) (fun v => zk v _ ⟨Upd.at_ _ _ _ _, hB225.set_ 1 _⟩)) ?_
   rintro v229 w226 ⟨hu227, hB228⟩
   have hb230 : Below w.heap.size w w214 := (bstep hb206 hb218)
   have hb231 := upd_below hb230 hu227 (by omega)
   have hB232 := hB208.below hb218
   have hB233 := upd_blk hB232 hu227 (by omega)
   have hB234 := hB210.below hb218
   have hB235 := upd_blk hB234 hu227 (by omega)
   have hB236 := hB212.below hb218
   have hB237 := upd_blk hB236 hu227 (by omega)
   have ho238 := hM219.upd hu227 (by omega)
   refine WL.nil (WE.next (WC.seq (WC.seq (WC.region ?_))))
   refine WL.val _ rfl rfl rfl (fun za zC zh zk => fld_32_1 rfl (zh.ev rfl) zk) ?_
   refine WL.val _ rfl rfl rfl (fun za zC zh zk => ld_30 rfl (zh.ev rfl) ((hB235.cell 1).trans rfl) zk) ?_
   refine WL.val (.int .i64 (((l.length : Nat) : Int))) rfl rfl rfl (fun za zC zh zk => len_30 rfl (zh.ev rfl) zk) ?_
   refine WL.mv rfl rfl rfl rfl rfl (WL.nil (WE.next (WC.block ?_)))
   refine WC.loop (X := Nat) (fun k => l.length - k) (fun k => [(0, .agg #[.int .i64 f, .slice a l.length c]), (1, .func (.func 36) #[] #[.pointer (some ⟨gs, 0, none⟩)]), (2, .pointer (some ⟨g2, 0, none⟩)), (4, .pointer (some ⟨g10, 0, none⟩)), (6, .pointer (some ⟨g191, 0, none⟩)), (11, .bool ((decide ((f : Int) < (0 : Int))))), (29, .bool ((decide ((0 : Int) < (((l.length : Nat) : Int) : Int))))), (36, .slice a l.length c), (37, .int .i64 (((l.length : Nat) : Int))), (38, .int .i64 (((k : Nat) : Int)))]) (fun k w239 => k ≤ l.length ∧ Below w.heap.size w w239 ∧ Blk w239 gs 24 #[.slice sa s.length sc] ∧ Blk w239 g2 32 #[.int .i64 f, .slice a l.length c] ∧ Blk w239 g10 32 #[.int .i64 0, .slice none 0 0] ∧ Blk w239 g191 32 #[.int .i64 f, .slice ((some ⟨g215, 0, none⟩)) l.length l.length] ∧ MRow eltT (w239) g215 g215 32 l.length (madeCells (Value.cells (.agg #[.int .i64 0, .slice none 0 0])) (l.length * 2)).toList ((l.take k).map (T.app s))) 0 ⟨rfl, rfl, rfl, rfl, rfl, rfl, rfl, rfl, rfl, rfl, trivial⟩ ?_ ?_
   ·exact ⟨Nat.zero_le _, hb231, hB233, hB235, hB237, hB228, ho238⟩
   ·rintro k w239 ⟨hk, hb240, hB241, hB242, hB243, hB244, ho245⟩
    have hgl := ho245.lt
    refine WC.seq (WC.region ?_)
    refine WL.val (.bool ((decide ((((k : Nat) : Int) : Int) < (((l.length : Nat) : Int) : Int))))) rfl rfl rfl (fun za zC zh zk => lss_3 rfl (zh.ev rfl) (zh.ev rfl) zk) ?_
    refine WL.nil (WE.next (WC.seq ?_))
    refine WC.cond rfl (fun h246 => ?_) (fun h246 => ?_)
    ·have h246 : (((k : Nat) : Int) : Int) < (((l.length : Nat) : Int) : Int) := by simpa using h246
     refine WC.skip (WE.next (WC.seq (WC.block (WC.seq (WC.region (WL.mv rfl rfl rfl rfl rfl ?_))))))
     obtain ⟨b247, o248, A249, C250, ha251, hc252⟩ := IsTs.open hl
     refine WL.val _ rfl rfl rfl (fun za zC zh zk => ix_30 (k := k) rfl (zh.ev rfl) (ha251 k (by first | omega | (simp; omega))) (zh.ev rfl) (by first | omega | (simp; omega)) zk) ?_
     refine WL.val _ rfl rfl rfl (fun za zC zh zk => ld_32 rfl (zh.ev rfl) (bkeeps hb240 _ _ (hc252 k (by first | omega | (simp; omega))).1) (bkeeps hb240 _ _ (hc252 k (by first | omega | (simp; omega))).2.1) zk) ?_
     refine WL.step (post := NewBlk w239 32 #[.int .i64 0, .slice none 0 0]) rfl rfl rfl (fun za zC zh zk => alloc_32 rfl (zk _ _ (newBlk _ _ _))) ?_
     rintro _ w253 ⟨g254, rfl, hg255, hB256, hb257, hz258⟩
     have hl259 : gs < g254 := by have z1 := hB241.lt; omega
     have hl260 : g2 < g254 := by have z1 := hB242.lt; omega
     have hl261 : g10 < g254 := by have z1 := hB243.lt; omega
     have hl262 : g191 < g254 := by have z1 := hB244.lt; omega
     have hl263 : w.heap.size ≤ g254 := by have z2 := (hb240).size; omega
     have hl264 : w239.heap.size ≤ g254 := by omega
     refine WL.asg rfl rfl rfl rfl rfl ?_
     refine WL.step (post := fun _ w' => Upd g254 w253 w' ∧ Blk w' g254 32 #[.int .i64 ((tget l k).f), .slice ((A249 k)) ((tget l k).args.length) ((C250 k))]) rfl rfl rfl (fun za zC zh zk => st_32 rfl (zh.ev rfl) (zh.ev rfl) rfl rfl hB256 (by first | decide | simp) (fun v => zk v _ ⟨(Upd.at_ _ _ _ _).trans (Upd.at_ _ _ _ _), (hB256.set_ 0 _).set_ 1 _⟩)) ?_
     rintro v268 w265 ⟨hu266, hB267⟩
     have hb269 : Below w.heap.size w w253 := (bstep hb240 hb257)
     have hb270 := upd_below hb269 hu266 (by omega)
     have hb271 := upd_below hb257 hu266 (by omega)
     have hB272 := hB241.below hb257
     have hB273 := upd_blk hB272 hu266 (by omega)
     have hB274 := hB242.below hb257
     have hB275 := upd_blk hB274 hu266 (by omega)
     have hB276 := hB243.below hb257
     have hB277 := upd_blk hB276 hu266 (by omega)
     have hB278 := hB244.below hb257
     have hB279 := upd_blk hB278 hu266 (by omega)
     refine WL.nil (WE.next ?_)
     have ho280 := ho245.below hb271
     have hSlt : ∀ b, (fun b => b = g215) b → b < w265.heap.size := fun b e => e ▸ ho280.lt
     have hgl : g215 < w265.heap.size := ho280.lt
     refine WC.tail1 (S := ((fun b => b = g215))) [(true, .val (.pointer (some ⟨g191, 1, none⟩))), (true, .val (.slice ((some ⟨g215, 0, none⟩)) l.length l.length)), (true, .val (.int .i64 (((k : Nat) : Int)))), (true, .val (.agg #[.int .i64 ((tget l k).f), .slice ((A249 k)) ((tget l k).args.length) ((C250 k))])), (true, .val (.func (.func 36) #[] #[.pointer (some ⟨gs, 0, none⟩)])), (true, .mem (fun v w' => NewT w265 w' (((tget l k).app s)) v) (fun v w w' hc h => InT.chg h hc (fun b hb hs => by have z := hSlt b hs; omega))), (true, .val (.pointer (some ⟨g215, 0 + k * 2, none⟩))), (true, .val undef)] [(0, .agg #[.int .i64 f, .slice a l.length c]), (1, .func (.func 36) #[] #[.pointer (some ⟨gs, 0, none⟩)]), (2, .pointer (some ⟨g2, 0, none⟩)), (4, .pointer (some ⟨g10, 0, none⟩)), (6, .pointer (some ⟨g191, 0, none⟩)), (7, .int .i64 (((k : Nat) : Int))), (8, .pointer (some ⟨g254, 0, none⟩)), (11, .bool ((decide ((f : Int) < (0 : Int))))), (29, .bool ((decide ((0 : Int) < (((l.length : Nat) : Int) : Int))))), (36, .slice a l.length c), (37, .int .i64 (((l.length : Nat) : Int))), (38, .int .i64 (((k : Nat) : Int))), (39, .bool ((decide ((((k : Nat) : Int) : Int) < (((l.length : Nat) : Int) : Int)))))] 7 (fun wz => MRow eltT wz g215 g215 32 l.length (madeCells (Value.cells (.agg #[.int .i64 0, .slice none 0 0])) (l.length * 2)).toList (((l.take k).map (T.app s) ++ [(tget l k).app s]))) (fun w w' hb h => h.below hb) ⟨rfl, rfl, rfl, rfl, rfl, rfl, rfl, rfl, rfl, rfl, rfl, rfl, rfl, trivial⟩ (by kernel_rfl) (by kernel_rfl) (by kernel_rfl) (by kernel_rfl) ?_ ?_
     ·refine ⟨.inl ⟨rfl, true, .none rfl, (fun gg b h => by cases h), fun h w => optUndef h, fun zβ za zw zc => ?_⟩, ?_⟩
      ·exact fld_32_1 rfl (zc.kn.ev rfl) ⟨_, rfl, Below.refl _ _, optDef zβ rfl⟩
      refine ⟨.inl ⟨rfl, true, .none rfl, (fun gg b h => by cases h), fun h w => optUndef h, fun zβ za zw zc => ?_⟩, ?_⟩
      ·exact ld_30 rfl ((evt za 43).trans (optSVal (zc.dep 0 43 (by kernel_rfl) (by decide)) rfl rfl)) (bkeeps (zc.early (by kernel_rfl)) _ _ ((hB279.cell 1).trans rfl)) ⟨_, rfl, Below.refl _ _, optDef zβ rfl⟩
      refine ⟨.inl ⟨rfl, true, .none rfl, (fun gg b h => by cases h), fun h w => optUndef h, fun zβ za zw zc => ?_⟩, ?_⟩
      ·exact wp_move rfl (zc.kn.ev rfl) ⟨_, rfl, Below.refl _ _, optDef zβ rfl⟩
      refine ⟨.inl ⟨rfl, true, .none rfl, (fun gg b h => by cases h), fun h w => optUndef h, fun zβ za zw zc => ?_⟩, ?_⟩
      ·exact ld_32 rfl (zc.kn.ev rfl) (bkeeps (zc.early (by kernel_rfl)) _ _ ((hB267.cell 0).trans rfl)) (bkeeps (zc.early (by kernel_rfl)) _ _ ((hB267.cell 1).trans rfl)) ⟨_, rfl, Below.refl _ _, optDef zβ rfl⟩
      refine ⟨.inl ⟨rfl, true, .none rfl, (fun gg b h => by cases h), fun h w => optUndef h, fun zβ za zw zc => ?_⟩, ?_⟩
      ·exact wp_move rfl (zc.kn.ev rfl) ⟨_, rfl, Below.refl _ _, optDef zβ rfl⟩
      refine ⟨.inl ⟨rfl, true, .none rfl, (fun gg b h => by cases h), fun h w => optUndef h, fun zβ za zw zc => ?_⟩, ?_⟩
      ·exact wp_call (by kernel_rfl) rfl (hv2 ((evt za 46).trans (optSVal (zc.dep 3 46 (by kernel_rfl) (by decide)) rfl rfl)) ((evt za 47).trans (optSVal (zc.dep 4 47 (by kernel_rfl) (by decide)) rfl rfl))) (ih _ (tget_mem (by omega)) _ _ (size_at (by omega) hz) (IsT.below (bstep hb270 (zc.early (by kernel_rfl))) (hc252 k (by first | omega | (simp; omega))).2.2) (hs.below (bstep hb270 (zc.early (by kernel_rfl)))) (hB273.below (zc.early (by kernel_rfl)))) (fun v w' h => ⟨v, rfl, h.2, optDef zβ (InT.mono (fun b hb _ => Nat.le_trans (zc.early (by kernel_rfl)).size hb) h.1)⟩)
      refine ⟨.inl ⟨rfl, true, .none rfl, (fun gg b h => by cases h), fun h w => optUndef h, fun zβ za zw zc => ?_⟩, ?_⟩
      ·exact ix_30 (k := k) rfl ((evt za 44).trans (optSVal (zc.dep 1 44 (by kernel_rfl) (by decide)) rfl rfl)) rfl ((evt za 45).trans (optSVal (zc.dep 2 45 (by kernel_rfl) (by decide)) rfl rfl)) (by first | omega | (simp; omega)) ⟨_, rfl, Below.refl _ _, optDef zβ rfl⟩
      refine ⟨.inr ⟨rfl, rfl, fun za zw zc => ?_⟩, ?_⟩
      ·have zv := (optSMem (zc.dep 5 48 (by kernel_rfl) (by decide)) rfl rfl)
       obtain ⟨_, a1, c1, e1, _⟩ := zv.form
       rw [e1] at zv
       have zm := ho280.below zc.below
       obtain ⟨cs, hB, hsz⟩ := zm.blkT (k := k) (by simp; omega) (by omega)
       exact st_32 rfl ((evt za 49).trans (optSVal (zc.dep 6 49 (by kernel_rfl) (by decide)) rfl rfl)) ((evt za 48).trans e1) rfl rfl hB hsz (fun v => ⟨v, rfl, zm.storeT (k := k) (by simp; omega) (by omega) (zv.mono (fun b hb _ => by (try dsimp only at *); omega)), .ofUpd ((Upd.at_ _ _ _ _).trans (Upd.at_ _ _ _ _)) rfl⟩)
      exact trivial
     ·intro za w281 zh hG282 hc283 zu
      have hb284 := chg_below hb270 hc283 (fun b hb => (by (try dsimp only at *); omega))
      have hB285 := chg_blk hB273 hc283 (by (try dsimp only at *); omega)
      have hB286 := chg_blk hB275 hc283 (by (try dsimp only at *); omega)
      have hB287 := chg_blk hB277 hc283 (by (try dsimp only at *); omega)
      have hB288 := chg_blk hB279 hc283 (by (try dsimp only at *); omega)
      have hB289 := chg_blk hB267 hc283 (by (try dsimp only at *); omega)
      clear zu
      refine WE.go zh ?_
      refine WE.blockNormal (WE.next (WC.region ?_))
      refine WL.val (.int .i64 ((((k + 1) : Nat) : Int))) rfl rfl rfl (fun za zC zh zk => addb_3 rfl (zh.ev rfl) (zh.ev rfl) (wrap_eq (by omega) (by omega) (by omega)) zk) ?_
      refine WL.mv rfl rfl rfl rfl rfl (WL.nil ?_)
      refine WE.round (k + 1) ⟨rfl, rfl, rfl, rfl, rfl, rfl, rfl, rfl, rfl, rfl, trivial⟩ ?_ ?_
      ·exact ⟨by omega, hb284, hB285, hB286, hB287, hB288, (by rw [← take_map (by omega)]; exact hG282)⟩
      ·omega
    ·have h246 : ¬ ((((k : Nat) : Int) : Int) < (((l.length : Nat) : Int) : Int)) := by simpa using h246
     refine WC.exit (WE.thenExit (WE.thenExit (WE.blockIs rfl (WE.next (WC.seq (WC.region ?_))))))
     refine WL.val _ rfl rfl rfl (fun za zC zh zk => ld_32 rfl (zh.ev rfl) ((hB244.cell 0).trans rfl) ((hB244.cell 1).trans rfl) zk) ?_
     refine WL.step (post := fun _ w' => Upd g10 w239 w' ∧ Blk w' g10 32 #[.int .i64 f, .slice ((some ⟨g215, 0, none⟩)) l.length l.length]) rfl rfl rfl (fun za zC zh zk => st_32 rfl (zh.ev rfl) (zh.ev rfl) rfl rfl hB243 (by first | decide | simp) (fun v => zk v _ ⟨(Upd.at_ _ _ _ _).trans (Upd.at_ _ _ _ _), (hB243.set_ 0 _).set_ 1 _⟩)) ?_
     rintro v293 w290 ⟨hu291, hB292⟩
     have hb294 := upd_below hb240 hu291 (by omega)
     have hB295 := upd_blk hB241 hu291 (by omega)
     have hB296 := upd_blk hB242 hu291 (by omega)
     have hB297 := upd_blk hB244 hu291 (by omega)
     have ho298 := ho245.upd hu291 (by omega)
     refine WL.nil (WE.next (WC.ret ?_))
     refine WE.retAny (v := .agg #[.int .i64 f, .slice ((some ⟨g215, 0, none⟩)) l.length l.length]) (fun za zh => ?_) ?_
     ·have z0 : za.tmps[4]?.getD undef = .pointer (some ⟨g10, 0, none⟩) := by rw [← Array.getD_eq_getD_getElem?]; exact zh.knows 4 _ rfl
      have y0 : w290.cell? ⟨g10, 0, none⟩ = some (.int .i64 f) := ((hB292.cell 0).trans rfl)
      have y1 : w290.cell? ⟨g10, 1, none⟩ = some (.slice ((some ⟨g215, 0, none⟩)) l.length l.length) := ((hB292.cell 1).trans rfl)
      simp [results, Try.results35, z0, y0, y1, go_sem]
     ·have z := ho298
      rw [List.take_of_length_le (by omega)] at z
      have hgz := (hb294).size
      exact ⟨_, rfl, by rw [app_none (fun h => absurd h ‹_›)]; exact newT_mk hf (by simp) (Nat.le_refl _) (by unfold maxLen; omega) (z.inRow.mono (by decide) (fun b hb _ => by omega)), hb294⟩
  ·have h213 : ¬ ((0 : Int) < (((l.length : Nat) : Int) : Int)) := by simpa using h213
   refine WC.skip (WE.next (WC.seq (WC.seq (WC.region ?_))))
   refine WL.val _ rfl rfl rfl (fun za zC zh zk => fld_32_1 rfl (zh.ev rfl) zk) ?_
   refine WL.val _ rfl rfl rfl (fun za zC zh zk => ld_30 rfl (zh.ev rfl) ((hB210.cell 1).trans rfl) zk) ?_
   refine WL.val (.int .i64 (((l.length : Nat) : Int))) rfl rfl rfl (fun za zC zh zk => len_30 rfl (zh.ev rfl) zk) ?_
   refine WL.mv rfl rfl rfl rfl rfl (WL.nil (WE.next (WC.block ?_)))
   refine WC.loop (X := Unit) (fun _ => 0) (fun _ => [(0, .agg #[.int .i64 f, .slice a l.length c]), (1, .func (.func 36) #[] #[.pointer (some ⟨gs, 0, none⟩)]), (2, .pointer (some ⟨g2, 0, none⟩)), (4, .pointer (some ⟨g10, 0, none⟩)), (6, .pointer (some ⟨g191, 0, none⟩)), (11, .bool ((decide ((f : Int) < (0 : Int))))), (29, .bool ((decide ((0 : Int) < (((l.length : Nat) : Int) : Int))))), (36, .slice a l.length c), (37, .int .i64 (((l.length : Nat) : Int))), (38, .int .i64 0)]) (fun _ w299 => True ∧ Below w.heap.size w w299 ∧ Blk w299 gs 24 #[.slice sa s.length sc] ∧ Blk w299 g2 32 #[.int .i64 f, .slice a l.length c] ∧ Blk w299 g10 32 #[.int .i64 0, .slice none 0 0] ∧ Blk w299 g191 32 #[.int .i64 f, .slice none 0 0]) (()) ⟨rfl, rfl, rfl, rfl, rfl, rfl, rfl, rfl, rfl, rfl, trivial⟩ ?_ ?_
   ·exact ⟨trivial, hb206, hB208, hB210, hB212, hB203⟩
   ·rintro _ w299 ⟨_, hb300, hB301, hB302, hB303, hB304⟩
    refine WC.seq (WC.region ?_)
    refine WL.val (.bool ((decide ((0 : Int) < (((l.length : Nat) : Int) : Int))))) rfl rfl rfl (fun za zC zh zk => lss_3 rfl (zh.ev rfl) (zh.ev rfl) zk) ?_
    refine WL.nil (WE.next (WC.seq ?_))
    refine WC.condF rfl (decide_eq_false (by omega)) ?_
    refine WC.exit (WE.thenExit (WE.thenExit (WE.blockIs rfl (WE.next (WC.seq (WC.region ?_))))))
    refine WL.val _ rfl rfl rfl (fun za zC zh zk => ld_32 rfl (zh.ev rfl) ((hB304.cell 0).trans rfl) ((hB304.cell 1).trans rfl) zk) ?_
    refine WL.step (post := fun _ w' => Upd g10 w299 w' ∧ Blk w' g10 32 #[.int .i64 f, .slice none 0 0]) rfl rfl rfl (fun za zC zh zk => st_32 rfl (zh.ev rfl) (zh.ev rfl) rfl rfl hB303 (by first | decide | simp) (fun v => zk v _ ⟨(Upd.at_ _ _ _ _).trans (Upd.at_ _ _ _ _), (hB303.set_ 0 _).set_ 1 _⟩)) ?_
    rintro v308 w305 ⟨hu306, hB307⟩
    have hb309 := upd_below hb300 hu306 (by omega)
    have hB310 := upd_blk hB301 hu306 (by omega)
    have hB311 := upd_blk hB302 hu306 (by omega)
    have hB312 := upd_blk hB304 hu306 (by omega)
    refine WL.nil (WE.next (WC.ret ?_))
    refine WE.retAny (v := .agg #[.int .i64 f, .slice none 0 0]) (fun za zh => ?_) ?_
    ·have z0 : za.tmps[4]?.getD undef = .pointer (some ⟨g10, 0, none⟩) := by rw [← Array.getD_eq_getD_getElem?]; exact zh.knows 4 _ rfl
     have y0 : w305.cell? ⟨g10, 0, none⟩ = some (.int .i64 f) := ((hB307.cell 0).trans rfl)
     have y1 : w305.cell? ⟨g10, 1, none⟩ = some (.slice none 0 0) := ((hB307.cell 1).trans rfl)
     simp [results, Try.results35, z0, y0, y1, go_sem]
    ·have e : l = [] := List.length_eq_zero_iff.1 (by omega)
     subst e
     exact ⟨_, rfl, by rw [app_none (fun h => absurd h ‹_›)]; exact newT_leaf hf, hb309⟩
end Go.Proofs.Ythhgidliopohcaa

namespace Go.Proofs.Ythhgidliopohcaa
set_option linter.unusedVariables false
set_option linter.unusedSimpArgs false
theorem subOk_snoc : ∀ (s : List Bd) (b : Bd) (last : Int), subOk last s = true → (∀ x ∈ s, x.var < b.var) → last < b.var → b.itself = false → subOk last (s ++ [b]) = true
  | [], b, last, _, _, h2, h3 => by
    show (if b.var ≤ last ∨ b.itself = true then false else true) = true
    rw [if_neg (fun q => by rcases q with q | q; omega; (rw [h3] at q; cases q))]
  | x :: r, b, last, h, h1, h2, h3 => by
    rw [List.cons_append, subOk]
    rw [subOk] at h
    by_cases c : x.var ≤ last ∨ x.itself = true
    · rw [if_pos c] at h; cases h
    · rw [if_neg c] at h ⊢
      exact subOk_snoc r b _ h (fun y hy => h1 y (List.mem_cons_of_mem _ hy)) (h1 x (by simp)) h3
theorem subFind_snoc (s : List Bd) (b : Bd) (m : Int) : subFind (s ++ [b]) m = (subFind s m).or (if b.var = m then some b.t else none) := by
  unfold subFind
  rw [List.find?_append]
  cases s.find? (fun b => decide (b.var = m)) with
  | none =>
    simp only [Option.none_or, Option.map_none, List.find?_cons, List.find?_nil]
    by_cases c : b.var = m
    · rw [if_pos c, decide_eq_true c]; rfl
    · rw [if_neg c, decide_eq_false c]; rfl
  | some x => rfl
theorem subFind_no {s : List Bd} {m : Int} (h : ∀ x ∈ s, x.var ≠ m) : subFind s m = none := by
  unfold subFind
  rw [List.find?_eq_none.2 (fun x hx => by simpa using h x hx)]; rfl
/-- What is bound. -/
theorem bindsS_is {σ : Nat → T} : ∀ {n : Nat} {s : List Bd}, bindsS σ n = some s → (∀ b ∈ s, ∃ v : Nat, v < n ∧ b = ⟨(v : Int), σ v⟩ ∧ (σ v).f ≠ -1 - (v : Int) ∧ (σ v).size ≤ 300) ∧ (∀ v : Nat, v < n → subFind s v = if (σ v).f = -1 - (v : Int) then none else some (σ v)) ∧ subOk (-1) s = true ∧ s.length ≤ n
  | 0, s, h => by
    rw [bindsS] at h
    cases h
    exact ⟨fun b hb => by simp at hb, fun v hv => absurd hv (Nat.not_lt_zero _), rfl, Nat.le_refl _⟩
  | n + 1, s, h => by
    rw [bindsS] at h
    cases hb : bindsS σ n with
    | none => rw [hb] at h; cases h
    | some s0 =>
      rw [hb] at h
      (try dsimp only at h)
      obtain ⟨k1, k2, k3, k4⟩ := bindsS_is hb
      have kn : ∀ x ∈ s0, x.var < (n : Int) := fun x hx => by obtain ⟨v, hv, rfl, _⟩ := k1 x hx; (try dsimp only); omega
      by_cases c : (σ n).f = -1 - (n : Int)
      · rw [if_pos c] at h
        cases h
        refine ⟨fun b q => ?_, fun v hv => ?_, k3, by omega⟩
        · obtain ⟨v, h1, h2⟩ := k1 b q; exact ⟨v, by omega, h2⟩
        · rcases Nat.lt_succ_iff_lt_or_eq.1 hv with q | rfl
          · exact k2 v q
          · rw [if_pos c, subFind_no (fun x hx => by have := kn x hx; omega)]
      · rw [if_neg c] at h
        by_cases c2 : 300 < (σ n).size ∨ 30 < (σ n).dep
        · rw [if_pos c2] at h; cases h
        · rw [if_neg c2] at h
          cases h
          refine ⟨fun b q => ?_, fun v hv => ?_, ?_, by simp; omega⟩
          · rcases List.mem_append.1 q with q | q
            · obtain ⟨v, h1, h2⟩ := k1 b q; exact ⟨v, by omega, h2⟩
            · obtain rfl := List.mem_singleton.1 q
              exact ⟨n, by omega, rfl, c, by omega⟩
          · rw [subFind_snoc]
            rcases Nat.lt_succ_iff_lt_or_eq.1 hv with q | rfl
            · rw [k2 v q, if_neg (show ¬ ((n : Int) = (v : Int)) by omega), Option.or_none]
            · rw [subFind_no (fun x hx => by have := kn x hx; omega), if_neg c, if_pos rfl]; rfl
          · refine subOk_snoc s0 _ _ k3 kn (by (try dsimp only); omega) ?_
            unfold Bd.itself
            rw [decide_eq_false (show ¬ (σ n).f = -1 - (n : Int) from c)]; rfl
/-- What a variable is bound to, or itself. -/
def subV (s : List Bd) (v : Nat) : T := (subFind s (v : Int)).getD (tv v)
mutual
theorem app_apv {s : List Bd} : ∀ {t : T}, t.prp → t.app s = t.apv (subV s)
  | .mk f l, h => by
    rw [T.prp] at h
    by_cases hf : f < 0
    · rw [if_pos hf] at h
      subst h
      rw [apv_var hf]
      unfold subV
      have e : ((vnum f : Nat) : Int) = -1 - f := by unfold vnum; omega
      rw [e]
      cases hq : subFind s (-1 - f) with
      | some t => exact app_some hf hq
      | none => rw [app_none (fun _ => hq), tv_vnum hf]; rfl
    · rw [if_neg hf] at h
      rw [app_none (fun q => absurd q hf), apv_sym hf, appL_apv h]
theorem appL_apv {s : List Bd} : ∀ {l : List T}, T.prpL l → l.map (T.app s) = l.map (T.apv (subV s))
  | [], _ => rfl
  | t :: r, h => by rw [List.map_cons, List.map_cons, app_apv h.1, appL_apv h.2]
end
mutual
theorem apv_low {σ τ : Nat → T} (h : ∀ v, v < 96 → σ v = τ v) : ∀ {t : T}, t.low 96 = true → t.apv σ = t.apv τ
  | .mk f l, hl => by
    rw [T.low] at hl
    by_cases hf : f < 0
    · rw [if_pos hf, Bool.and_eq_true, decide_eq_true_eq] at hl
      rw [apv_var hf, apv_var hf]
      exact h _ (by unfold vnum; omega)
    · rw [if_neg hf] at hl
      rw [apv_sym hf, apv_sym hf, apvL_low h hl]
theorem apvL_low {σ τ : Nat → T} (h : ∀ v, v < 96 → σ v = τ v) : ∀ {l : List T}, T.lowL 96 l = true → l.map (T.apv σ) = l.map (T.apv τ)
  | [], _ => rfl
  | t :: r, hl => by
    rw [T.lowL, Bool.and_eq_true] at hl
    rw [List.map_cons, List.map_cons, apv_low h hl.1, apvL_low h hl.2]
end
section
variable {l : List (T × T)} {σ : Nat → T} {bs : List Bd}
theorem subV_sg (h : Mgu l σ) (hb : bindsS σ 96 = some bs) (v : Nat) (hv : v < 96) : subV bs v = σ v := by
  unfold subV
  rw [(bindsS_is hb).2.1 v hv]
  by_cases c : (σ v).f = -1 - (v : Int)
  · rw [if_pos c]
    have z := prp_var (h.prp v) (by rw [c]; omega)
    rw [c, vnum_tv] at z
    exact z.symm
  · rw [if_neg c]; rfl
theorem app_sg (h : Mgu l σ) (hb : bindsS σ 96 = some bs) {t : T} (ht : t.low 96 = true) : t.app bs = t.apv σ := by
  rw [app_apv (low_prp ht)]; exact apv_low (subV_sg h hb) ht
end
mutual
def T.hasB (g : Int) : T → Bool
  | .mk f l => decide (f = g) || T.hasBL g l
def T.hasBL (g : Int) : List T → Bool
  | [] => false
  | t :: r => t.hasB g || T.hasBL g r
end
theorem hasBL_any (g : Int) : ∀ l : List T, T.hasBL g l = l.any (T.hasB g)
  | [] => rfl
  | t :: r => by rw [T.hasBL, hasBL_any g r]; rfl
mutual
theorem hasB_V {v : Nat} : ∀ {t : T}, t.hasB (-1 - (v : Int)) = true → t.hasV (v : Int)
  | .mk f l, h => by
    rw [T.hasB, Bool.or_eq_true, decide_eq_true_eq] at h
    rw [T.hasV]
    rcases h with h | h
    · exact .inl ⟨by omega, by omega⟩
    · exact .inr (hasBL_V h)
theorem hasBL_V {v : Nat} : ∀ {l : List T}, T.hasBL (-1 - (v : Int)) l = true → T.hasVL (v : Int) l
  | t :: r, h => by
    rw [T.hasBL, Bool.or_eq_true] at h
    rw [T.hasVL]
    exact h.imp hasB_V hasBL_V
end
theorem wide_low {l : List (T × T)} (h : wideB l = true) {k : Nat} (hk : k < l.length) : (prget l k).1.low 96 = true ∧ (prget l k).2.low 96 = true := by
  unfold wideB at h
  rw [Bool.and_eq_true, List.all_eq_true] at h
  have z := h.2 _ (prget_mem hk)
  rw [Bool.and_eq_true] at z
  exact ⟨(small_low z.1).2, (small_low z.2).2⟩
/-- What a told unifier is. -/
structure MadeIs (l : List (T × T)) (bs : List Bd) : Prop where
  check : subCheck bs = 0
  small : ∀ b ∈ bs, b.t.size ≤ 300
  vars : ∀ b ∈ bs, 0 ≤ b.var ∧ b.var ≤ 95
  same : ∀ k, k < l.length → (prget l k).1.app bs = (prget l k).2.app bs
  has : ∀ i j, i < bs.length → j < bs.length → T.hasB (-1 - (dget bs i).var) (dget bs j).t = false
theorem made_is {rv : Bool} {l : List (T × T)} {bs : List Bd} {e : Int} (h : PairsIs rv l bs e) : (e ≠ 0 → bs = []) ∧ (e = 0 → MadeIs l bs) := by
  rcases pairs_facts h with ⟨_, rfl, rfl⟩ | ⟨_, _, rfl, rfl⟩ | ⟨hW, σ, h2, ⟨_, rfl, rfl⟩ | ⟨hb, rfl⟩⟩
  · exact ⟨fun _ => rfl, fun e => absurd e (by decide)⟩
  · exact ⟨fun _ => rfl, fun e => absurd e (by decide)⟩
  · exact ⟨fun _ => rfl, fun e => absurd e (by decide)⟩
  · refine ⟨fun q => absurd rfl q, fun _ => ?_⟩
    obtain ⟨k1, k2, k3, k4⟩ := bindsS_is hb
    refine ⟨by unfold subCheck; rw [if_pos k3], fun b q => ?_, fun b q => ?_, fun k hk => ?_, fun i j hi hj => ?_⟩
    · obtain ⟨v, _, rfl, _, h5⟩ := k1 b q; exact h5
    · obtain ⟨v, h3, rfl, _⟩ := k1 b q; (try dsimp only); omega
    · obtain ⟨l1, l2⟩ := wide_low hW hk
      rw [app_sg h2 hb l1, app_sg h2 hb l2]
      exact h2.unif _ (prget_mem hk)
    · obtain ⟨v, h3, e1, h4, _⟩ := k1 _ (dget_mem hi)
      obtain ⟨u, h5, e2, _⟩ := k1 _ (dget_mem hj)
      rw [e1, e2, Bool.eq_false_iff]
      intro q
      have z := h2.idem u v (hasB_V q)
      rw [z] at h4
      exact h4 rfl
theorem apv_prp {σ : Nat → T} (h : ∀ v, (σ v).prp) : ∀ (t : T), t.prp → (t.apv σ).prp := fun t => by
  induction t using T.ind with
  | h f l ih =>
    intro hp
    by_cases hf : f < 0
    · rw [apv_var hf]; exact h _
    · rw [apv_sym hf, T.prp, if_neg hf, prpL_mem]
      rw [T.prp, if_neg hf, prpL_mem] at hp
      intro t ht
      obtain ⟨s, hs, rfl⟩ := List.mem_map.1 ht
      exact ih s hs (hp s hs)
theorem most_uf {a b : T} {zs : List Bd} (hW : wideB [(a, b)] = true) (hz : a.app zs = b.app zs) : Unif (subV zs) [(a, b)] := fun p q => by
  have hp := wide_prp hW (a, b) (by simp)
  obtain rfl := List.mem_singleton.1 q
  show a.apv (subV zs) = b.apv (subV zs)
  rw [← app_apv hp.1, ← app_apv hp.2]; exact hz
theorem can_most {a b : T} {zs : List Bd} {c : Bool} (hW : wideB [(a, b)] = true) (hz : a.app zs = b.app zs) (hc : CanIs true [(a, b)] c) : c = true := by
  rcases hc with ⟨h1, _⟩ | ⟨_, o, h1, rfl⟩
  · rw [hW] at h1; cases h1
  · cases o with
    | none => exact absurd (most_uf hW hz) (solve_none h1 (wide_prp hW) _)
    | some q => rfl
theorem most_is {a b : T} {zs bs : List Bd} {e : Int} (hW : wideB [(a, b)] = true) (hz : a.app zs = b.app zs) (h : PairsIs true [(a, b)] bs e) :
    e ≠ 4 ∧ e ≠ 2 ∧ (e ≠ 0 → e = 3) ∧ (e = 0 → ∀ t : T, t.low 96 = true → t.app zs = (t.app bs).app zs) := by
  have hu := most_uf hW hz
  rcases pairs_facts h with ⟨h1, _⟩ | ⟨_, h1, _⟩ | ⟨_, σ, h2, ⟨_, _, rfl⟩ | ⟨hb, rfl⟩⟩
  · rw [hW] at h1; cases h1
  · exact absurd hu (h1 _)
  · exact ⟨by decide, by decide, fun _ => rfl, fun e => absurd e (by decide)⟩
  · refine ⟨by decide, by decide, fun e => absurd rfl e, fun _ t ht => ?_⟩
    rw [app_sg h2 hb ht, app_apv (low_prp ht), app_apv (apv_prp h2.prp t (low_prp ht)), apv_apv]
    congr 1
    funext v
    exact h2.most _ hu v
end Go.Proofs.Ythhgidliopohcaa
