/- Substitutions compared, by the program; plain terms. -/
import Derived.Test.YtgechlgdnnpoeaaTwicePlain
import Derived.Test.YtgechlgdnnpoeaaSubDel
namespace Go.Proofs.Ytgechlgdnnpoeaa
open Go.RowKit Go

def bdSame (x y : Bd) : Bool := (x.var == y.var) && T.same x.t y.t
theorem bdSame_iff {x y : Bd} : bdSame x y = true ↔ x = y := by
  unfold bdSame
  rw [Bool.and_eq_true, beq_iff_eq]
  constructor
  · rintro ⟨h1, h2⟩; exact bd_eq h1 h2
  · rintro rfl; exact ⟨rfl, T.same_refl _⟩
set_option maxRecDepth 100000 in
theorem same1_any (x y : Bd) (w : World) (u v : Value) (hu : IsBd w x u) (hv : IsBd w y v) : Calls Try.prog 49 #[u, v] w (Ret fun v' w' => v' = .bool (bdSame x y) ∧ Below w.heap.size w w') := by
  obtain ⟨a, c, rfl, hi, ht⟩ := hu
  obtain ⟨a2, c2, rfl, hi2, ht2⟩ := hv
  refine Calls.walk (l := [.agg #[.int .i64 x.var, .int .i64 x.t.f, .slice a x.t.args.length c], .agg #[.int .i64 y.var, .int .i64 y.t.f, .slice a2 y.t.args.length c2]]) Try.func49 rfl (by kernel_rfl) ?_
  refine WC.sub (K' := [(0, .agg #[.int .i64 x.var, .int .i64 x.t.f, .slice a x.t.args.length c]), (1, .agg #[.int .i64 y.var, .int .i64 y.t.f, .slice a2 y.t.args.length c2])]) ⟨rfl, rfl, trivial⟩ ?_
  refine WC.seq ?_
  refine WC.region ?_
  refine WL.step (post := NewBlk w 56 #[.int .i64 x.var, .int .i64 x.t.f, .slice a x.t.args.length c]) rfl rfl rfl (fun za zC zh zk => box_56 rfl (zh.ev rfl) (zk _ _ (newBlk _ _ _))) ?_
  rintro _ w1 ⟨g2, rfl, hg3, hB4, hb5, hz6⟩
  have hl7 : w.heap.size ≤ g2 := by omega
  refine WL.step (post := NewBlk w1 56 #[.int .i64 y.var, .int .i64 y.t.f, .slice a2 y.t.args.length c2]) rfl rfl rfl (fun za zC zh zk => box_56 rfl (zh.ev rfl) (zk _ _ (newBlk _ _ _))) ?_
  rintro _ w8 ⟨g9, rfl, hg10, hB11, hb12, hz13⟩
  have hl14 : g2 < g9 := by have z1 := hB4.lt; omega
  have hl15 : w.heap.size ≤ g9 := by have z2 := (hb5).size; omega
  refine WL.val (.bool false) rfl rfl rfl (fun za zC zh zk => wp_assign rfl (zh.ev rfl) zk) ?_
  refine WL.nil (WE.sub (K' := [(0, .agg #[.int .i64 x.var, .int .i64 x.t.f, .slice a x.t.args.length c]), (1, .agg #[.int .i64 y.var, .int .i64 y.t.f, .slice a2 y.t.args.length c2]), (2, .pointer (some ⟨g2, 0, none⟩)), (3, .pointer (some ⟨g9, 0, none⟩)), (4, .bool false)]) ⟨rfl, rfl, rfl, rfl, rfl, trivial⟩ ?_)
  refine WE.next ?_
  refine WC.seq ?_
  have hB16 := hB4.below hb12
  have hb17 : Below w.heap.size w w8 := (bstep hb5 hb12)
  refine WC.opt [(true, .val (.pointer (some ⟨g2, 0, none⟩))), (true, .val (.int .i64 x.var)), (true, .val (.pointer (some ⟨g9, 0, none⟩))), (true, .val (.int .i64 y.var)), (true, .val (.bool (((x.var : Int) == (y.var : Int))))), (true, .val (.bool (((x.var : Int) == (y.var : Int))))), ((true && ((x.var : Int) == (y.var : Int))), .val (.pointer (some ⟨g2, 1, none⟩))), ((true && ((x.var : Int) == (y.var : Int))), .val (.agg #[.int .i64 x.t.f, .slice a x.t.args.length c])), ((true && ((x.var : Int) == (y.var : Int))), .val (.pointer (some ⟨g9, 1, none⟩))), ((true && ((x.var : Int) == (y.var : Int))), .val (.agg #[.int .i64 y.t.f, .slice a2 y.t.args.length c2])), ((true && ((x.var : Int) == (y.var : Int))), .val (.bool ((T.same x.t y.t)))), (true, .val (.bool ((((x.var : Int) == (y.var : Int)) && (T.same x.t y.t))))), (true, .val (.bool ((((x.var : Int) == (y.var : Int)) && (T.same x.t y.t)))))] [(0, .agg #[.int .i64 x.var, .int .i64 x.t.f, .slice a x.t.args.length c]), (1, .agg #[.int .i64 y.var, .int .i64 y.t.f, .slice a2 y.t.args.length c2]), (2, .pointer (some ⟨g2, 0, none⟩)), (3, .pointer (some ⟨g9, 0, none⟩))] ⟨rfl, rfl, rfl, rfl, trivial⟩ (by kernel_rfl) (by kernel_rfl) (by kernel_rfl) ?_ ?_
  · refine ⟨⟨true, .none rfl, fun h w => optUndef h, fun zβ za zw zc => ?_⟩, ?_⟩
    · exact fld_56_0 rfl (zc.kn.ev rfl) ⟨_, rfl, Below.refl _ _, optDef zβ rfl⟩
    refine ⟨⟨true, .none rfl, fun h w => optUndef h, fun zβ za zw zc => ?_⟩, ?_⟩
    · exact ld_3 rfl ((show za.eval (.tmp 5) = za.tmps.getD 5 undef from rfl).trans (optVal (zc.dep 0 5 (by kernel_rfl)) rfl rfl)) (bkeeps zc.below _ _ ((hB16.cell 0).trans rfl)) ⟨_, rfl, Below.refl _ _, optDef zβ rfl⟩
    refine ⟨⟨true, .none rfl, fun h w => optUndef h, fun zβ za zw zc => ?_⟩, ?_⟩
    · exact fld_56_0 rfl (zc.kn.ev rfl) ⟨_, rfl, Below.refl _ _, optDef zβ rfl⟩
    refine ⟨⟨true, .none rfl, fun h w => optUndef h, fun zβ za zw zc => ?_⟩, ?_⟩
    · exact ld_3 rfl ((show za.eval (.tmp 7) = za.tmps.getD 7 undef from rfl).trans (optVal (zc.dep 2 7 (by kernel_rfl)) rfl rfl)) (bkeeps zc.below _ _ ((hB11.cell 0).trans rfl)) ⟨_, rfl, Below.refl _ _, optDef zβ rfl⟩
    refine ⟨⟨true, .none rfl, fun h w => optUndef h, fun zβ za zw zc => ?_⟩, ?_⟩
    · exact eql_3 rfl ((show za.eval (.tmp 6) = za.tmps.getD 6 undef from rfl).trans (optVal (zc.dep 1 6 (by kernel_rfl)) rfl rfl)) ((show za.eval (.tmp 8) = za.tmps.getD 8 undef from rfl).trans (optVal (zc.dep 3 8 (by kernel_rfl)) rfl rfl)) ⟨_, rfl, Below.refl _ _, optDef zβ rfl⟩
    refine ⟨⟨true, .none rfl, fun h w => optUndef h, fun zβ za zw zc => ?_⟩, ?_⟩
    · exact wp_move rfl ((show za.eval (.tmp 9) = za.tmps.getD 9 undef from rfl).trans (optVal (zc.dep 4 9 (by kernel_rfl)) rfl rfl)) ⟨_, rfl, Below.refl _ _, optDef zβ rfl⟩
    refine ⟨⟨(true && ((x.var : Int) == (y.var : Int))), .yes (c := ((x.var : Int) == (y.var : Int))) (d := true) rfl (fun v w h => h), fun h w => optUndef h, fun zβ za zw zc => ?_⟩, ?_⟩
    · exact fld_56_1 rfl (zc.kn.ev rfl) ⟨_, rfl, Below.refl _ _, optDef zβ rfl⟩
    refine ⟨⟨(true && ((x.var : Int) == (y.var : Int))), .yes (c := ((x.var : Int) == (y.var : Int))) (d := true) rfl (fun v w h => h), fun h w => optUndef h, fun zβ za zw zc => ?_⟩, ?_⟩
    · exact ld_32 rfl ((show za.eval (.tmp 11) = za.tmps.getD 11 undef from rfl).trans (optVal (zc.dep 6 11 (by kernel_rfl)) rfl zβ)) (bkeeps zc.below _ _ ((hB16.cell 1).trans rfl)) (bkeeps zc.below _ _ ((hB16.cell 2).trans rfl)) ⟨_, rfl, Below.refl _ _, optDef zβ rfl⟩
    refine ⟨⟨(true && ((x.var : Int) == (y.var : Int))), .yes (c := ((x.var : Int) == (y.var : Int))) (d := true) rfl (fun v w h => h), fun h w => optUndef h, fun zβ za zw zc => ?_⟩, ?_⟩
    · exact fld_56_1 rfl (zc.kn.ev rfl) ⟨_, rfl, Below.refl _ _, optDef zβ rfl⟩
    refine ⟨⟨(true && ((x.var : Int) == (y.var : Int))), .yes (c := ((x.var : Int) == (y.var : Int))) (d := true) rfl (fun v w h => h), fun h w => optUndef h, fun zβ za zw zc => ?_⟩, ?_⟩
    · exact ld_32 rfl ((show za.eval (.tmp 13) = za.tmps.getD 13 undef from rfl).trans (optVal (zc.dep 8 13 (by kernel_rfl)) rfl zβ)) (bkeeps zc.below _ _ ((hB11.cell 1).trans rfl)) (bkeeps zc.below _ _ ((hB11.cell 2).trans rfl)) ⟨_, rfl, Below.refl _ _, optDef zβ rfl⟩
    refine ⟨⟨(true && ((x.var : Int) == (y.var : Int))), .yes (c := ((x.var : Int) == (y.var : Int))) (d := true) rfl (fun v w h => h), fun h w => optUndef h, fun zβ za zw zc => ?_⟩, ?_⟩
    · exact wp_call (by kernel_rfl) rfl (hv2 ((show za.eval (.tmp 12) = za.tmps.getD 12 undef from rfl).trans (optVal (zc.dep 7 12 (by kernel_rfl)) rfl zβ)) ((show za.eval (.tmp 14) = za.tmps.getD 14 undef from rfl).trans (optVal (zc.dep 9 14 (by kernel_rfl)) rfl zβ))) (ret_of (same_any x.t y.t _ _ _ (IsT.below (bstep hb17 zc.below) ht) (IsT.below (bstep hb17 zc.below) ht2))) (fun v w' h => ⟨v, rfl, h.2, optDef zβ h.1⟩)
    refine ⟨⟨true, .none rfl, fun h w => optUndef h, fun zβ za zw zc => ?_⟩, ?_⟩
    · exact wp_and rfl ((show za.eval (.tmp 10) = za.tmps.getD 10 undef from rfl).trans (optVal (zc.dep 5 10 (by kernel_rfl)) rfl rfl)) (fun hp => ((show za.eval (.tmp 15) = za.tmps.getD 15 undef from rfl).trans (optVal (zc.dep 10 15 (by kernel_rfl)) rfl (bMk zβ hp)))) ⟨_, rfl, Below.refl _ _, optDef zβ rfl⟩
    refine ⟨⟨true, .none rfl, fun h w => optUndef h, fun zβ za zw zc => ?_⟩, ?_⟩
    · exact wp_assign rfl ((show za.eval (.tmp 16) = za.tmps.getD 16 undef from rfl).trans (optVal (zc.dep 11 16 (by kernel_rfl)) rfl rfl)) ⟨_, rfl, Below.refl _ _, optDef zβ rfl⟩
    exact trivial
  · intro za w18 zh hb19 zu
    have zh := zh.cons (d := 4) (v := .bool ((((x.var : Int) == (y.var : Int)) && (T.same x.t y.t)))) (optVal (zu 12 4 (by kernel_rfl)) rfl rfl)
    clear zu
    refine (show WE _ [(0, .agg #[.int .i64 x.var, .int .i64 x.t.f, .slice a x.t.args.length c]), (1, .agg #[.int .i64 y.var, .int .i64 y.t.f, .slice a2 y.t.args.length c2]), (2, .pointer (some ⟨g2, 0, none⟩)), (3, .pointer (some ⟨g9, 0, none⟩)), (4, .bool ((((x.var : Int) == (y.var : Int)) && (T.same x.t y.t))))] w18 _ .normal from ?_) za (zh.sub ⟨rfl, rfl, rfl, rfl, rfl, trivial⟩)
    refine WE.next ?_
    refine WC.ret ?_
    refine WE.ret1 rfl rfl ?_
    have hb20 : Below w.heap.size w w18 := (bstep hb17 hb19)
    exact ⟨_, rfl, congrArg Value.bool (by simp [bdSame]), hb20⟩

theorem EqTo.step2 {a b : List Bd} {k : Nat} (h : EqTo a b k) (h1 : bdSame (dget a k) (dget b k) = true) : EqTo a b (k + 1) := fun i hi => by
  rcases Nat.lt_or_ge i k with q | q
  · exact h i q
  · obtain rfl : i = k := by omega
    exact bdSame_iff.1 h1
theorem subSame_at2 {a b : List Bd} {k : Nat} (h : bdSame (dget a k) (dget b k) = false) : subSame a b = false := by
  rw [subSame, decide_eq_false_iff_not]; rintro rfl; rw [bdSame_iff.2 rfl] at h; cases h
set_option maxRecDepth 100000 in
theorem eqFuncB_any (s1 s2 : List Bd) (w : World) (pa pb : Option Addr) (ca cb : Nat) (h1 : s1.length ≤ maxLen) (ha : IsBs w s1 pa) (hb : IsBs w s2 pb) : Calls Try.prog 48 #[.slice pa s1.length ca, .slice pb s2.length cb, .func (.func 49) #[] #[]] w (Ret fun v' w' => v' = .bool (subSame s1 s2) ∧ Below w.heap.size w w') := by
  unfold maxLen at h1
  refine Calls.walk (l := [.slice pa s1.length ca, .slice pb s2.length cb, .func (.func 49) #[] #[]]) Try.func48 rfl (by kernel_rfl) ?_
  refine WC.sub (K' := [(0, .slice pa s1.length ca), (1, .slice pb s2.length cb), (2, .func (.func 49) #[] #[])]) ⟨rfl, rfl, rfl, trivial⟩ ?_
  refine WC.seq ?_
  refine WC.region ?_
  refine WL.val (.bool false) rfl rfl rfl (fun za zC zh zk => wp_assign rfl (zh.ev rfl) zk) ?_
  refine WL.nil (WE.sub (K' := [(0, .slice pa s1.length ca), (1, .slice pb s2.length cb), (2, .func (.func 49) #[] #[]), (6, .bool false)]) ⟨rfl, rfl, rfl, rfl, trivial⟩ ?_)
  refine WE.next ?_
  refine WC.seq ?_
  refine WC.seq ?_
  refine WC.region ?_
  refine WL.val (.slice pa s1.length ca) rfl rfl rfl (fun za zC zh zk => wp_move rfl (zh.ev rfl) zk) ?_
  refine WL.val (.int .i64 (((s1.length : Nat) : Int))) rfl rfl rfl (fun za zC zh zk => len_23 rfl (zh.ev rfl) zk) ?_
  refine WL.val (.slice pb s2.length cb) rfl rfl rfl (fun za zC zh zk => wp_move rfl (zh.ev rfl) zk) ?_
  refine WL.val (.int .i64 (((s2.length : Nat) : Int))) rfl rfl rfl (fun za zC zh zk => len_23 rfl (zh.ev rfl) zk) ?_
  refine WL.val (.bool (((((s1.length : Nat) : Int) : Int) != (((s2.length : Nat) : Int) : Int)))) rfl rfl rfl (fun za zC zh zk => neq_3 rfl (zh.ev rfl) (zh.ev rfl) zk) ?_
  refine WL.nil (WE.sub (K' := [(0, .slice pa s1.length ca), (1, .slice pb s2.length cb), (2, .func (.func 49) #[] #[]), (6, .bool false), (14, .bool (((((s1.length : Nat) : Int) : Int) != (((s2.length : Nat) : Int) : Int))))]) ⟨rfl, rfl, rfl, rfl, rfl, trivial⟩ ?_)
  refine WE.next ?_
  refine WC.cond rfl (fun h1 => ?_) (fun h1 => ?_)
  · have h1 : (((s1.length : Nat) : Int) : Int) ≠ (((s2.length : Nat) : Int) : Int) := by simpa using h1
    refine WC.seq ?_
    refine WC.region ?_
    refine WL.val (.bool false) rfl rfl rfl (fun za zC zh zk => wp_assign rfl (zh.ev rfl) zk) ?_
    refine WL.nil (WE.sub (K' := [(0, .slice pa s1.length ca), (1, .slice pb s2.length cb), (2, .func (.func 49) #[] #[]), (6, .bool false), (14, .bool (((((s1.length : Nat) : Int) : Int) != (((s2.length : Nat) : Int) : Int))))]) ⟨rfl, rfl, rfl, rfl, rfl, trivial⟩ ?_)
    refine WE.next ?_
    refine WC.ret ?_
    refine WE.thenRet ?_
    refine WE.ret1 rfl rfl ?_
    exact ⟨_, rfl, congrArg Value.bool (Eq.symm (subSame_len (by omega))), (Below.refl _ _)⟩
  · have h1 : ¬ ((((s1.length : Nat) : Int) : Int) ≠ (((s2.length : Nat) : Int) : Int)) := by simpa using h1
    refine WC.skip ?_
    refine WE.next ?_
    refine WC.seq ?_
    refine WC.seq ?_
    refine WC.region ?_
    refine WL.val (.slice pa s1.length ca) rfl rfl rfl (fun za zC zh zk => wp_move rfl (zh.ev rfl) zk) ?_
    refine WL.val (.int .i64 (((s1.length : Nat) : Int))) rfl rfl rfl (fun za zC zh zk => len_23 rfl (zh.ev rfl) zk) ?_
    refine WL.val (.int .i64 0) rfl rfl rfl (fun za zC zh zk => wp_move rfl (zh.ev rfl) zk) ?_
    refine WL.nil (WE.sub (K' := [(0, .slice pa s1.length ca), (1, .slice pb s2.length cb), (2, .func (.func 49) #[] #[]), (6, .bool false), (14, .bool (((((s1.length : Nat) : Int) : Int) != (((s2.length : Nat) : Int) : Int)))), (15, .slice pa s1.length ca), (16, .int .i64 (((s1.length : Nat) : Int))), (17, .int .i64 0)]) ⟨rfl, rfl, rfl, rfl, rfl, rfl, rfl, rfl, trivial⟩ ?_)
    refine WE.next ?_
    refine WC.block ?_
    have hlen : s1.length = s2.length := by omega
    refine WC.loop (X := Nat) (fun k => s1.length - k) (fun k => [(0, .slice pa s1.length ca), (1, .slice pb s2.length cb), (2, .func (.func 49) #[] #[]), (14, .bool (((((s1.length : Nat) : Int) : Int) != (((s2.length : Nat) : Int) : Int)))), (15, .slice pa s1.length ca), (16, .int .i64 (((s1.length : Nat) : Int))), (17, .int .i64 (((k : Nat) : Int)))]) (fun k w2 => k ≤ s1.length ∧ EqTo s1 s2 k ∧ Below w.heap.size w w2) 0 ⟨rfl, rfl, rfl, rfl, rfl, rfl, rfl, trivial⟩ ?_ ?_
    · exact ⟨Nat.zero_le _, fun i h => absurd h (Nat.not_lt_zero i), (Below.refl _ _)⟩
    · rintro k w2 ⟨hk, hE, hb3⟩
      refine WC.seq ?_
      refine WC.region ?_
      refine WL.val (.bool ((decide ((((k : Nat) : Int) : Int) < (((s1.length : Nat) : Int) : Int))))) rfl rfl rfl (fun za zC zh zk => lss_3 rfl (zh.ev rfl) (zh.ev rfl) zk) ?_
      refine WL.nil (WE.sub (K' := [(0, .slice pa s1.length ca), (1, .slice pb s2.length cb), (2, .func (.func 49) #[] #[]), (14, .bool (((((s1.length : Nat) : Int) : Int) != (((s2.length : Nat) : Int) : Int)))), (15, .slice pa s1.length ca), (16, .int .i64 (((s1.length : Nat) : Int))), (17, .int .i64 (((k : Nat) : Int))), (18, .bool ((decide ((((k : Nat) : Int) : Int) < (((s1.length : Nat) : Int) : Int)))))]) ⟨rfl, rfl, rfl, rfl, rfl, rfl, rfl, rfl, trivial⟩ ?_)
      refine WE.next ?_
      refine WC.seq ?_
      refine WC.cond rfl (fun h4 => ?_) (fun h4 => ?_)
      · have h4 : (((k : Nat) : Int) : Int) < (((s1.length : Nat) : Int) : Int) := by simpa using h4
        refine WC.skip ?_
        refine WE.next ?_
        refine WC.seq ?_
        refine WC.block ?_
        refine WC.seq ?_
        refine WC.region ?_
        refine WL.val (.int .i64 (((k : Nat) : Int))) rfl rfl rfl (fun za zC zh zk => wp_move rfl (zh.ev rfl) zk) ?_
        obtain ⟨b5, o6, A7, C8, ha9, hc10⟩ := InRow.openB ha
        refine WL.val (.pointer (some ⟨b5, o6 + k * 3, none⟩)) rfl rfl rfl (fun za zC zh zk => ix_23 (k := k) rfl (zh.ev rfl) (ha9 k (by first | omega | (simp; omega))) (zh.ev rfl) (by first | omega | (simp; omega)) zk) ?_
        refine WL.val (.agg #[.int .i64 ((dget s1 k).var), .int .i64 ((dget s1 k).t.f), .slice ((A7 k)) ((dget s1 k).t.args.length) ((C8 k))]) rfl rfl rfl (fun za zC zh zk => ld_56 rfl (zh.ev rfl) (bkeeps hb3 _ _ (hc10 k (by first | omega | (simp; omega))).1) (bkeeps hb3 _ _ (hc10 k (by first | omega | (simp; omega))).2.1) (bkeeps hb3 _ _ (hc10 k (by first | omega | (simp; omega))).2.2.1) zk) ?_
        refine WL.step (post := NewBlk w2 56 #[.int .i64 0, .int .i64 0, .slice none 0 0]) rfl rfl rfl (fun za zC zh zk => alloc_56 rfl (zk _ _ (newBlk _ _ _))) ?_
        rintro _ w11 ⟨g12, rfl, hg13, hB14, hb15, hz16⟩
        have hl17 : w.heap.size ≤ g12 := by have z2 := (hb3).size; omega
        refine WL.val (.int .i64 (((k : Nat) : Int))) rfl rfl rfl (fun za zC zh zk => wp_assign rfl (zh.ev rfl) zk) ?_
        refine WL.step (post := fun _ w' => Upd g12 w11 w' ∧ Blk w' g12 56 #[.int .i64 ((dget s1 k).var), .int .i64 ((dget s1 k).t.f), .slice ((A7 k)) ((dget s1 k).t.args.length) ((C8 k))]) rfl rfl rfl (fun za zC zh zk => st_56 rfl (zh.ev rfl) (zh.ev rfl) rfl rfl rfl hB14 (by first | decide | simp) (fun v => zk v _ ⟨((Upd.at_ _ _ _ _).trans (Upd.at_ _ _ _ _)).trans (Upd.at_ _ _ _ _), ((hB14.set_ 0 _).set_ 1 _).set_ 2 _⟩)) ?_
        rintro v21 w18 ⟨hu19, hB20⟩
        have hb22 : Below w.heap.size w w11 := (bstep hb3 hb15)
        have hb23 := upd_below hb22 hu19 (by omega)
        refine WL.nil (WE.sub (K' := [(0, .slice pa s1.length ca), (1, .slice pb s2.length cb), (2, .func (.func 49) #[] #[]), (7, .int .i64 (((k : Nat) : Int))), (8, .pointer (some ⟨g12, 0, none⟩)), (14, .bool (((((s1.length : Nat) : Int) : Int) != (((s2.length : Nat) : Int) : Int)))), (15, .slice pa s1.length ca), (16, .int .i64 (((s1.length : Nat) : Int))), (17, .int .i64 (((k : Nat) : Int))), (18, .bool ((decide ((((k : Nat) : Int) : Int) < (((s1.length : Nat) : Int) : Int)))))]) ⟨rfl, rfl, rfl, rfl, rfl, rfl, rfl, rfl, rfl, rfl, trivial⟩ ?_)
        refine WE.next ?_
        refine WC.seq ?_
        refine WC.region ?_
        refine WL.val (.slice pb s2.length cb) rfl rfl rfl (fun za zC zh zk => wp_move rfl (zh.ev rfl) zk) ?_
        refine WL.val (.int .i64 (((k : Nat) : Int))) rfl rfl rfl (fun za zC zh zk => wp_move rfl (zh.ev rfl) zk) ?_
        obtain ⟨b24, o25, A26, C27, ha28, hc29⟩ := InRow.openB hb
        refine WL.val (.pointer (some ⟨b24, o25 + k * 3, none⟩)) rfl rfl rfl (fun za zC zh zk => ix_23 (k := k) rfl (zh.ev rfl) (ha28 k (by first | omega | (simp; omega))) (zh.ev rfl) (by first | omega | (simp; omega)) zk) ?_
        refine WL.val (.agg #[.int .i64 ((dget s2 k).var), .int .i64 ((dget s2 k).t.f), .slice ((A26 k)) ((dget s2 k).t.args.length) ((C27 k))]) rfl rfl rfl (fun za zC zh zk => ld_56 rfl (zh.ev rfl) (bkeeps hb23 _ _ (hc29 k (by first | omega | (simp; omega))).1) (bkeeps hb23 _ _ (hc29 k (by first | omega | (simp; omega))).2.1) (bkeeps hb23 _ _ (hc29 k (by first | omega | (simp; omega))).2.2.1) zk) ?_
        refine WL.step (post := NewBlk w18 56 #[.int .i64 0, .int .i64 0, .slice none 0 0]) rfl rfl rfl (fun za zC zh zk => alloc_56 rfl (zk _ _ (newBlk _ _ _))) ?_
        rintro _ w30 ⟨g31, rfl, hg32, hB33, hb34, hz35⟩
        have hl36 : g12 < g31 := by have z1 := hB20.lt; omega
        have hl37 : w.heap.size ≤ g31 := by have z2 := (hb23).size; omega
        refine WL.step (post := fun _ w' => Upd g31 w30 w' ∧ Blk w' g31 56 #[.int .i64 ((dget s2 k).var), .int .i64 ((dget s2 k).t.f), .slice ((A26 k)) ((dget s2 k).t.args.length) ((C27 k))]) rfl rfl rfl (fun za zC zh zk => st_56 rfl (zh.ev rfl) (zh.ev rfl) rfl rfl rfl hB33 (by first | decide | simp) (fun v => zk v _ ⟨((Upd.at_ _ _ _ _).trans (Upd.at_ _ _ _ _)).trans (Upd.at_ _ _ _ _), ((hB33.set_ 0 _).set_ 1 _).set_ 2 _⟩)) ?_
        rintro v41 w38 ⟨hu39, hB40⟩
        have hb42 : Below w.heap.size w w30 := (bstep hb23 hb34)
        have hb43 := upd_below hb42 hu39 (by omega)
        have hB44 := hB20.below hb34
        have hB45 := upd_blk hB44 hu39 (by omega)
        refine WL.nil (WE.sub (K' := [(0, .slice pa s1.length ca), (1, .slice pb s2.length cb), (2, .func (.func 49) #[] #[]), (7, .int .i64 (((k : Nat) : Int))), (8, .pointer (some ⟨g12, 0, none⟩)), (9, .pointer (some ⟨g31, 0, none⟩)), (14, .bool (((((s1.length : Nat) : Int) : Int) != (((s2.length : Nat) : Int) : Int)))), (15, .slice pa s1.length ca), (16, .int .i64 (((s1.length : Nat) : Int))), (17, .int .i64 (((k : Nat) : Int))), (18, .bool ((decide ((((k : Nat) : Int) : Int) < (((s1.length : Nat) : Int) : Int)))))]) ⟨rfl, rfl, rfl, rfl, rfl, rfl, rfl, rfl, rfl, rfl, rfl, trivial⟩ ?_)
        refine WE.next ?_
        refine WC.seq ?_
        refine WC.region ?_
        refine WL.val (.func (.func 49) #[] #[]) rfl rfl rfl (fun za zC zh zk => wp_move rfl (zh.ev rfl) zk) ?_
        refine WL.val (.agg #[.int .i64 ((dget s1 k).var), .int .i64 ((dget s1 k).t.f), .slice ((A7 k)) ((dget s1 k).t.args.length) ((C8 k))]) rfl rfl rfl (fun za zC zh zk => ld_56 rfl (zh.ev rfl) ((hB45.cell 0).trans rfl) ((hB45.cell 1).trans rfl) ((hB45.cell 2).trans rfl) zk) ?_
        refine WL.val (.agg #[.int .i64 ((dget s2 k).var), .int .i64 ((dget s2 k).t.f), .slice ((A26 k)) ((dget s2 k).t.args.length) ((C27 k))]) rfl rfl rfl (fun za zC zh zk => ld_56 rfl (zh.ev rfl) ((hB40.cell 0).trans rfl) ((hB40.cell 1).trans rfl) ((hB40.cell 2).trans rfl) zk) ?_
        refine WL.call rfl rfl rfl (fun za zh zC => wp_callv (by kernel_rfl) rfl (zh.ev rfl) (hv2 (zh.ev rfl) (zh.ev rfl))) (same1_any (dget s1 k) (dget s2 k) _ _ _ (IsBd.below hb43 ⟨_, _, rfl, (hc10 k (by first | omega | (simp; omega))).2.2.2.2, (InT.isT (hc10 k (by first | omega | (simp; omega))).2.2.2.1)⟩) (IsBd.below hb43 ⟨_, _, rfl, (hc29 k (by first | omega | (simp; omega))).2.2.2.2, (InT.isT (hc29 k (by first | omega | (simp; omega))).2.2.2.1)⟩)) ?_
        rintro _ w47 ⟨rfl, hq46⟩
        refine WL.val (.bool ((!(bdSame (dget s1 k) (dget s2 k))))) rfl rfl rfl (fun za zC zh zk => wp_not rfl (zh.ev rfl) zk) ?_
        refine WL.nil (WE.sub (K' := [(0, .slice pa s1.length ca), (1, .slice pb s2.length cb), (2, .func (.func 49) #[] #[]), (7, .int .i64 (((k : Nat) : Int))), (8, .pointer (some ⟨g12, 0, none⟩)), (9, .pointer (some ⟨g31, 0, none⟩)), (14, .bool (((((s1.length : Nat) : Int) : Int) != (((s2.length : Nat) : Int) : Int)))), (15, .slice pa s1.length ca), (16, .int .i64 (((s1.length : Nat) : Int))), (17, .int .i64 (((k : Nat) : Int))), (18, .bool ((decide ((((k : Nat) : Int) : Int) < (((s1.length : Nat) : Int) : Int))))), (30, .bool ((!(bdSame (dget s1 k) (dget s2 k)))))]) ⟨rfl, rfl, rfl, rfl, rfl, rfl, rfl, rfl, rfl, rfl, rfl, rfl, trivial⟩ ?_)
        refine WE.next ?_
        refine WC.cond rfl (fun h48 => ?_) (fun h48 => ?_)
        · have h48 : ¬ ((bdSame (dget s1 k) (dget s2 k)) = true) := by simpa using h48
          refine WC.seq ?_
          refine WC.region ?_
          refine WL.val (.bool false) rfl rfl rfl (fun za zC zh zk => wp_assign rfl (zh.ev rfl) zk) ?_
          refine WL.nil (WE.sub (K' := [(0, .slice pa s1.length ca), (1, .slice pb s2.length cb), (2, .func (.func 49) #[] #[]), (6, .bool false), (7, .int .i64 (((k : Nat) : Int))), (8, .pointer (some ⟨g12, 0, none⟩)), (9, .pointer (some ⟨g31, 0, none⟩)), (14, .bool (((((s1.length : Nat) : Int) : Int) != (((s2.length : Nat) : Int) : Int)))), (15, .slice pa s1.length ca), (16, .int .i64 (((s1.length : Nat) : Int))), (17, .int .i64 (((k : Nat) : Int))), (18, .bool ((decide ((((k : Nat) : Int) : Int) < (((s1.length : Nat) : Int) : Int))))), (30, .bool ((!(bdSame (dget s1 k) (dget s2 k)))))]) ⟨rfl, rfl, rfl, rfl, rfl, rfl, rfl, rfl, rfl, rfl, rfl, rfl, rfl, trivial⟩ ?_)
          refine WE.next ?_
          refine WC.ret ?_
          refine WE.blockRet ?_
          refine WE.thenRet ?_
          refine WE.thenRet ?_
          refine WE.blockRet ?_
          refine WE.thenRet ?_
          refine WE.ret1 rfl rfl ?_
          have hb49 : Below w.heap.size w w47 := (bstep hb43 hq46)
          exact ⟨_, rfl, congrArg Value.bool (Eq.symm (subSame_at2 (by simpa using h48))), hb49⟩
        · have h48 : ¬ (¬ ((bdSame (dget s1 k) (dget s2 k)) = true)) := by simpa using h48
          refine WC.skip ?_
          refine WE.blockNormal ?_
          refine WE.next ?_
          refine WC.region ?_
          refine WL.val (.int .i64 ((((k + 1) : Nat) : Int))) rfl rfl rfl (fun za zC zh zk => addb_3 rfl (zh.ev rfl) (zh.ev rfl) (wrap_eq (by omega) (by omega) (by omega)) zk) ?_
          refine WL.val (.int .i64 ((((k + 1) : Nat) : Int))) rfl rfl rfl (fun za zC zh zk => wp_move rfl (zh.ev rfl) zk) ?_
          refine WL.nil (WE.sub (K' := [(0, .slice pa s1.length ca), (1, .slice pb s2.length cb), (2, .func (.func 49) #[] #[]), (7, .int .i64 (((k : Nat) : Int))), (8, .pointer (some ⟨g12, 0, none⟩)), (9, .pointer (some ⟨g31, 0, none⟩)), (14, .bool (((((s1.length : Nat) : Int) : Int) != (((s2.length : Nat) : Int) : Int)))), (15, .slice pa s1.length ca), (16, .int .i64 (((s1.length : Nat) : Int))), (17, .int .i64 ((((k + 1) : Nat) : Int))), (18, .bool ((decide ((((k : Nat) : Int) : Int) < (((s1.length : Nat) : Int) : Int))))), (30, .bool ((!(bdSame (dget s1 k) (dget s2 k)))))]) ⟨rfl, rfl, rfl, rfl, rfl, rfl, rfl, rfl, rfl, rfl, rfl, rfl, trivial⟩ ?_)
          refine WE.round (k + 1) ⟨rfl, rfl, rfl, rfl, rfl, rfl, rfl, trivial⟩ ?_ ?_
          · have hb50 : Below w.heap.size w w47 := (bstep hb43 hq46)
            exact ⟨by omega, hE.step2 (by simpa using h48), hb50⟩
          · omega
      · have h4 : ¬ ((((k : Nat) : Int) : Int) < (((s1.length : Nat) : Int) : Int)) := by simpa using h4
        refine WC.exit ?_
        refine WE.thenExit ?_
        refine WE.thenExit ?_
        refine WE.blockIs rfl ?_
        refine WE.next ?_
        refine WC.seq ?_
        refine WC.region ?_
        refine WL.val (.bool true) rfl rfl rfl (fun za zC zh zk => wp_assign rfl (zh.ev rfl) zk) ?_
        refine WL.nil (WE.sub (K' := [(0, .slice pa s1.length ca), (1, .slice pb s2.length cb), (2, .func (.func 49) #[] #[]), (6, .bool true), (14, .bool (((((s1.length : Nat) : Int) : Int) != (((s2.length : Nat) : Int) : Int)))), (15, .slice pa s1.length ca), (16, .int .i64 (((s1.length : Nat) : Int))), (17, .int .i64 (((k : Nat) : Int))), (18, .bool ((decide ((((k : Nat) : Int) : Int) < (((s1.length : Nat) : Int) : Int)))))]) ⟨rfl, rfl, rfl, rfl, rfl, rfl, rfl, rfl, rfl, trivial⟩ ?_)
        refine WE.next ?_
        refine WC.ret ?_
        refine WE.ret1 rfl rfl ?_
        exact ⟨_, rfl, congrArg Value.bool (Eq.symm (subSame_all hlen hE (by omega))), hb3⟩

set_option maxRecDepth 100000 in
theorem subSame_any (s1 s2 : List Bd) (w : World) (pa pb : Option Addr) (ca cb : Nat) (h1 : s1.length ≤ maxLen) (ha : IsBs w s1 pa) (hb : IsBs w s2 pb) : Calls Try.prog 20 #[.slice pa s1.length ca, .slice pb s2.length cb] w (Ret fun v' w' => v' = .bool (subSame s1 s2) ∧ Below w.heap.size w w') := by
  refine Calls.walk (l := [.slice pa s1.length ca, .slice pb s2.length cb]) Try.func20 rfl (by kernel_rfl) ?_
  refine WC.sub (K' := [(0, .slice pa s1.length ca), (1, .slice pb s2.length cb)]) ⟨rfl, rfl, trivial⟩ ?_
  refine WC.seq ?_
  refine WC.region ?_
  refine WL.val (.bool false) rfl rfl rfl (fun za zC zh zk => wp_assign rfl (zh.ev rfl) zk) ?_
  refine WL.nil (WE.sub (K' := [(0, .slice pa s1.length ca), (1, .slice pb s2.length cb), (4, .bool false)]) ⟨rfl, rfl, rfl, trivial⟩ ?_)
  refine WE.next ?_
  refine WC.seq ?_
  refine WC.region ?_
  refine WL.val (.slice pa s1.length ca) rfl rfl rfl (fun za zC zh zk => wp_move rfl (zh.ev rfl) zk) ?_
  refine WL.val (.slice pb s2.length cb) rfl rfl rfl (fun za zC zh zk => wp_move rfl (zh.ev rfl) zk) ?_
  refine WL.call rfl rfl rfl (fun za zh zC => wp_call (by kernel_rfl) rfl (hv3 (zh.ev rfl) (zh.ev rfl) (zh.ev rfl))) (eqFuncB_any s1 s2 _ pa pb ca cb h1 (ha.below (Below.refl _ _)) (hb.below (Below.refl _ _))) ?_
  rintro _ w2 ⟨rfl, hq1⟩
  refine WL.val (.bool ((subSame s1 s2))) rfl rfl rfl (fun za zC zh zk => wp_assign rfl (zh.ev rfl) zk) ?_
  refine WL.nil (WE.sub (K' := [(0, .slice pa s1.length ca), (1, .slice pb s2.length cb), (4, .bool ((subSame s1 s2)))]) ⟨rfl, rfl, rfl, trivial⟩ ?_)
  refine WE.next ?_
  refine WC.ret ?_
  refine WE.ret1 rfl rfl ?_
  exact ⟨_, rfl, rfl, hq1⟩

theorem plain_all {f : Int} {l : List T} (h : ∀ i, i < l.length → (tget l i).plain = true) : (T.mk f l).plain = (decide (0 ≤ f) || l.isEmpty) := by
  rw [T.plain, plainL_mem.2 (fun t ht => ?_), Bool.true_and]
  obtain ⟨i, hi, rfl⟩ := List.getElem_of_mem ht
  have := h i hi
  rwa [tget_lt hi] at this
theorem plain_no {f : Int} {l : List T} {k : Nat} (hk : k < l.length) (h : (tget l k).plain = false) : (T.mk f l).plain = false := by
  rw [T.plain]
  have : T.plainL l = false := by
    rw [Bool.eq_false_iff]; intro hp
    rw [plainL_mem.1 hp _ (tget_mem hk)] at h; cases h
  rw [this]; rfl
set_option maxRecDepth 100000 in
theorem plain_any : ∀ (t : T) (w : World) (v : Value), t.size ≤ 4294967296 → IsT w t v → Calls Try.prog 15 #[v] w (Ret fun v' w' => v' = .bool t.plain ∧ Below w.heap.size w w') := by
  refine T.ind (fun f l ih => ?_)
  intro w v hz hv
  have hlen := len_le_sizeL l
  have hz' := hz
  simp only [T.size] at hz'
  obtain ⟨hf, a, c, rfl, hc, hm, hl⟩ := hv
  refine Calls.walk (l := [.agg #[.int .i64 f, .slice a l.length c]]) Try.func15 rfl (by kernel_rfl) ?_
  refine WC.sub (K' := [(0, .agg #[.int .i64 f, .slice a l.length c])]) ⟨rfl, trivial⟩ ?_
  refine WC.seq ?_
  refine WC.region ?_
  refine WL.step (post := NewBlk w 32 #[.int .i64 f, .slice a l.length c]) rfl rfl rfl (fun za zC zh zk => box_32 rfl (zh.ev rfl) (zk _ _ (newBlk _ _ _))) ?_
  rintro _ w1 ⟨g2, rfl, hg3, hB4, hb5, hz6⟩
  have hl7 : w.heap.size ≤ g2 := by omega
  refine WL.val (.bool false) rfl rfl rfl (fun za zC zh zk => wp_assign rfl (zh.ev rfl) zk) ?_
  refine WL.nil (WE.sub (K' := [(0, .agg #[.int .i64 f, .slice a l.length c]), (1, .pointer (some ⟨g2, 0, none⟩)), (2, .bool false)]) ⟨rfl, rfl, rfl, trivial⟩ ?_)
  refine WE.next ?_
  refine WC.seq ?_
  refine WC.seq ?_
  refine WC.region ?_
  refine WL.val (.pointer (some ⟨g2, 1, none⟩)) rfl rfl rfl (fun za zC zh zk => fld_32_1 rfl (zh.ev rfl) zk) ?_
  refine WL.val (.slice a l.length c) rfl rfl rfl (fun za zC zh zk => ld_30 rfl (zh.ev rfl) ((hB4.cell 1).trans rfl) zk) ?_
  refine WL.val (.int .i64 (((l.length : Nat) : Int))) rfl rfl rfl (fun za zC zh zk => len_30 rfl (zh.ev rfl) zk) ?_
  refine WL.val (.int .i64 0) rfl rfl rfl (fun za zC zh zk => wp_move rfl (zh.ev rfl) zk) ?_
  refine WL.nil (WE.sub (K' := [(0, .agg #[.int .i64 f, .slice a l.length c]), (1, .pointer (some ⟨g2, 0, none⟩)), (2, .bool false), (6, .int .i64 (((l.length : Nat) : Int))), (7, .int .i64 0)]) ⟨rfl, rfl, rfl, rfl, rfl, trivial⟩ ?_)
  refine WE.next ?_
  refine WC.block ?_
  refine WC.loop (X := Nat) (fun k => l.length - k) (fun k => [(0, .agg #[.int .i64 f, .slice a l.length c]), (1, .pointer (some ⟨g2, 0, none⟩)), (6, .int .i64 (((l.length : Nat) : Int))), (7, .int .i64 (((k : Nat) : Int)))]) (fun k w8 => k ≤ l.length ∧ (∀ i, i < k → (tget l i).plain = true) ∧ Below w.heap.size w w8 ∧ Blk w8 g2 32 #[.int .i64 f, .slice a l.length c]) 0 ⟨rfl, rfl, rfl, rfl, trivial⟩ ?_ ?_
  · exact ⟨Nat.zero_le _, fun i h => absurd h (Nat.not_lt_zero i), hb5, hB4⟩
  · rintro k w8 ⟨hk, hE, hb9, hB10⟩
    refine WC.seq ?_
    refine WC.region ?_
    refine WL.val (.bool ((decide ((((k : Nat) : Int) : Int) < (((l.length : Nat) : Int) : Int))))) rfl rfl rfl (fun za zC zh zk => lss_3 rfl (zh.ev rfl) (zh.ev rfl) zk) ?_
    refine WL.nil (WE.sub (K' := [(0, .agg #[.int .i64 f, .slice a l.length c]), (1, .pointer (some ⟨g2, 0, none⟩)), (6, .int .i64 (((l.length : Nat) : Int))), (7, .int .i64 (((k : Nat) : Int))), (8, .bool ((decide ((((k : Nat) : Int) : Int) < (((l.length : Nat) : Int) : Int)))))]) ⟨rfl, rfl, rfl, rfl, rfl, trivial⟩ ?_)
    refine WE.next ?_
    refine WC.seq ?_
    refine WC.cond rfl (fun h11 => ?_) (fun h11 => ?_)
    · have h11 : (((k : Nat) : Int) : Int) < (((l.length : Nat) : Int) : Int) := by simpa using h11
      refine WC.skip ?_
      refine WE.next ?_
      refine WC.seq ?_
      refine WC.block ?_
      refine WC.seq ?_
      refine WC.region ?_
      refine WL.val (.int .i64 (((k : Nat) : Int))) rfl rfl rfl (fun za zC zh zk => wp_move rfl (zh.ev rfl) zk) ?_
      refine WL.val (.int .i64 (((k : Nat) : Int))) rfl rfl rfl (fun za zC zh zk => wp_assign rfl (zh.ev rfl) zk) ?_
      refine WL.nil (WE.sub (K' := [(0, .agg #[.int .i64 f, .slice a l.length c]), (1, .pointer (some ⟨g2, 0, none⟩)), (3, .int .i64 (((k : Nat) : Int))), (6, .int .i64 (((l.length : Nat) : Int))), (7, .int .i64 (((k : Nat) : Int))), (8, .bool ((decide ((((k : Nat) : Int) : Int) < (((l.length : Nat) : Int) : Int)))))]) ⟨rfl, rfl, rfl, rfl, rfl, rfl, trivial⟩ ?_)
      refine WE.next ?_
      refine WC.seq ?_
      refine WC.region ?_
      refine WL.val (.pointer (some ⟨g2, 1, none⟩)) rfl rfl rfl (fun za zC zh zk => fld_32_1 rfl (zh.ev rfl) zk) ?_
      refine WL.val (.slice a l.length c) rfl rfl rfl (fun za zC zh zk => ld_30 rfl (zh.ev rfl) ((hB10.cell 1).trans rfl) zk) ?_
      refine WL.val (.int .i64 (((k : Nat) : Int))) rfl rfl rfl (fun za zC zh zk => wp_move rfl (zh.ev rfl) zk) ?_
      obtain ⟨b12, o13, A14, C15, ha16, hc17⟩ := IsTs.open hl
      refine WL.val (.pointer (some ⟨b12, o13 + k * 2, none⟩)) rfl rfl rfl (fun za zC zh zk => ix_30 (k := k) rfl (zh.ev rfl) (ha16 k (by first | omega | (simp; omega))) (zh.ev rfl) (by first | omega | (simp; omega)) zk) ?_
      refine WL.val (.agg #[.int .i64 ((tget l k).f), .slice ((A14 k)) ((tget l k).args.length) ((C15 k))]) rfl rfl rfl (fun za zC zh zk => ld_32 rfl (zh.ev rfl) (bkeeps hb9 _ _ (hc17 k (by first | omega | (simp; omega))).1) (bkeeps hb9 _ _ (hc17 k (by first | omega | (simp; omega))).2.1) zk) ?_
      refine WL.call rfl rfl rfl (fun za zh zC => wp_call (by kernel_rfl) rfl (hv1 (zh.ev rfl))) (ih _ (tget_mem (by omega)) _ _ (size_at (by omega) hz) (IsT.below hb9 (hc17 k (by first | omega | (simp; omega))).2.2)) ?_
      rintro _ w19 ⟨rfl, hq18⟩
      refine WL.val (.bool ((!(tget l k).plain))) rfl rfl rfl (fun za zC zh zk => wp_not rfl (zh.ev rfl) zk) ?_
      refine WL.nil (WE.sub (K' := [(0, .agg #[.int .i64 f, .slice a l.length c]), (1, .pointer (some ⟨g2, 0, none⟩)), (3, .int .i64 (((k : Nat) : Int))), (6, .int .i64 (((l.length : Nat) : Int))), (7, .int .i64 (((k : Nat) : Int))), (8, .bool ((decide ((((k : Nat) : Int) : Int) < (((l.length : Nat) : Int) : Int))))), (16, .bool ((!(tget l k).plain)))]) ⟨rfl, rfl, rfl, rfl, rfl, rfl, rfl, trivial⟩ ?_)
      refine WE.next ?_
      refine WC.cond rfl (fun h20 => ?_) (fun h20 => ?_)
      · have h20 : ¬ ((tget l k).plain = true) := by simpa using h20
        refine WC.seq ?_
        refine WC.region ?_
        refine WL.val (.bool false) rfl rfl rfl (fun za zC zh zk => wp_assign rfl (zh.ev rfl) zk) ?_
        refine WL.nil (WE.sub (K' := [(0, .agg #[.int .i64 f, .slice a l.length c]), (1, .pointer (some ⟨g2, 0, none⟩)), (2, .bool false), (3, .int .i64 (((k : Nat) : Int))), (6, .int .i64 (((l.length : Nat) : Int))), (7, .int .i64 (((k : Nat) : Int))), (8, .bool ((decide ((((k : Nat) : Int) : Int) < (((l.length : Nat) : Int) : Int))))), (16, .bool ((!(tget l k).plain)))]) ⟨rfl, rfl, rfl, rfl, rfl, rfl, rfl, rfl, trivial⟩ ?_)
        refine WE.next ?_
        refine WC.ret ?_
        refine WE.blockRet ?_
        refine WE.thenRet ?_
        refine WE.thenRet ?_
        refine WE.blockRet ?_
        refine WE.thenRet ?_
        refine WE.ret1 rfl rfl ?_
        have hb21 : Below w.heap.size w w19 := (bstep hb9 hq18)
        exact ⟨_, rfl, congrArg Value.bool (Eq.symm (plain_no (k := k) (by omega) (by simpa using h20))), hb21⟩
      · have h20 : ¬ (¬ ((tget l k).plain = true)) := by simpa using h20
        refine WC.skip ?_
        refine WE.blockNormal ?_
        refine WE.next ?_
        refine WC.region ?_
        refine WL.val (.int .i64 ((((k + 1) : Nat) : Int))) rfl rfl rfl (fun za zC zh zk => addb_3 rfl (zh.ev rfl) (zh.ev rfl) (wrap_eq (by omega) (by omega) (by omega)) zk) ?_
        refine WL.val (.int .i64 ((((k + 1) : Nat) : Int))) rfl rfl rfl (fun za zC zh zk => wp_move rfl (zh.ev rfl) zk) ?_
        refine WL.nil (WE.sub (K' := [(0, .agg #[.int .i64 f, .slice a l.length c]), (1, .pointer (some ⟨g2, 0, none⟩)), (3, .int .i64 (((k : Nat) : Int))), (6, .int .i64 (((l.length : Nat) : Int))), (7, .int .i64 ((((k + 1) : Nat) : Int))), (8, .bool ((decide ((((k : Nat) : Int) : Int) < (((l.length : Nat) : Int) : Int))))), (16, .bool ((!(tget l k).plain)))]) ⟨rfl, rfl, rfl, rfl, rfl, rfl, rfl, trivial⟩ ?_)
        refine WE.round (k + 1) ⟨rfl, rfl, rfl, rfl, trivial⟩ ?_ ?_
        · have hb22 : Below w.heap.size w w19 := (bstep hb9 hq18)
          have hB23 := hB10.below hq18
          exact ⟨by omega, fun i hi => by rcases Nat.lt_or_ge i k with q | q; exact hE i q; (obtain rfl : i = k := by omega); simpa using h20, hb22, hB23⟩
        · omega
    · have h11 : ¬ ((((k : Nat) : Int) : Int) < (((l.length : Nat) : Int) : Int)) := by simpa using h11
      refine WC.exit ?_
      refine WE.thenExit ?_
      refine WE.thenExit ?_
      refine WE.blockIs rfl ?_
      refine WE.next ?_
      refine WC.seq ?_
      refine WC.opt [(true, .val (.pointer (some ⟨g2, 0, none⟩))), (true, .val (.int .i64 f)), (true, .val (.bool ((decide ((0 : Int) ≤ (f : Int)))))), (true, .val (.bool ((decide ((0 : Int) ≤ (f : Int)))))), ((true && !(decide ((0 : Int) ≤ (f : Int)))), .val (.pointer (some ⟨g2, 1, none⟩))), ((true && !(decide ((0 : Int) ≤ (f : Int)))), .val (.slice a l.length c)), ((true && !(decide ((0 : Int) ≤ (f : Int)))), .val (.int .i64 (((l.length : Nat) : Int)))), ((true && !(decide ((0 : Int) ≤ (f : Int)))), .val (.bool (((((l.length : Nat) : Int) : Int) == (0 : Int))))), (true, .val (.bool (((decide ((0 : Int) ≤ (f : Int))) || ((((l.length : Nat) : Int) : Int) == (0 : Int)))))), (true, .val (.bool (((decide ((0 : Int) ≤ (f : Int))) || ((((l.length : Nat) : Int) : Int) == (0 : Int))))))] [(0, .agg #[.int .i64 f, .slice a l.length c]), (1, .pointer (some ⟨g2, 0, none⟩)), (6, .int .i64 (((l.length : Nat) : Int))), (7, .int .i64 (((k : Nat) : Int))), (8, .bool ((decide ((((k : Nat) : Int) : Int) < (((l.length : Nat) : Int) : Int)))))] ⟨rfl, rfl, rfl, rfl, rfl, trivial⟩ (by kernel_rfl) (by kernel_rfl) (by kernel_rfl) ?_ ?_
      · refine ⟨⟨true, .none rfl, fun h w => optUndef h, fun zβ za zw zc => ?_⟩, ?_⟩
        · exact fld_32_0 rfl (zc.kn.ev rfl) ⟨_, rfl, Below.refl _ _, optDef zβ rfl⟩
        refine ⟨⟨true, .none rfl, fun h w => optUndef h, fun zβ za zw zc => ?_⟩, ?_⟩
        · exact ld_3 rfl ((show za.eval (.tmp 18) = za.tmps.getD 18 undef from rfl).trans (optVal (zc.dep 0 18 (by kernel_rfl)) rfl rfl)) (bkeeps zc.below _ _ ((hB10.cell 0).trans rfl)) ⟨_, rfl, Below.refl _ _, optDef zβ rfl⟩
        refine ⟨⟨true, .none rfl, fun h w => optUndef h, fun zβ za zw zc => ?_⟩, ?_⟩
        · exact geq_3 rfl ((show za.eval (.tmp 19) = za.tmps.getD 19 undef from rfl).trans (optVal (zc.dep 1 19 (by kernel_rfl)) rfl rfl)) (zc.kn.ev rfl) ⟨_, rfl, Below.refl _ _, optDef zβ rfl⟩
        refine ⟨⟨true, .none rfl, fun h w => optUndef h, fun zβ za zw zc => ?_⟩, ?_⟩
        · exact wp_move rfl ((show za.eval (.tmp 20) = za.tmps.getD 20 undef from rfl).trans (optVal (zc.dep 2 20 (by kernel_rfl)) rfl rfl)) ⟨_, rfl, Below.refl _ _, optDef zβ rfl⟩
        refine ⟨⟨(true && !(decide ((0 : Int) ≤ (f : Int)))), .no (c := (decide ((0 : Int) ≤ (f : Int)))) (d := true) rfl (fun v w h => h), fun h w => optUndef h, fun zβ za zw zc => ?_⟩, ?_⟩
        · exact fld_32_1 rfl (zc.kn.ev rfl) ⟨_, rfl, Below.refl _ _, optDef zβ rfl⟩
        refine ⟨⟨(true && !(decide ((0 : Int) ≤ (f : Int)))), .no (c := (decide ((0 : Int) ≤ (f : Int)))) (d := true) rfl (fun v w h => h), fun h w => optUndef h, fun zβ za zw zc => ?_⟩, ?_⟩
        · exact ld_30 rfl ((show za.eval (.tmp 22) = za.tmps.getD 22 undef from rfl).trans (optVal (zc.dep 4 22 (by kernel_rfl)) rfl zβ)) (bkeeps zc.below _ _ ((hB10.cell 1).trans rfl)) ⟨_, rfl, Below.refl _ _, optDef zβ rfl⟩
        refine ⟨⟨(true && !(decide ((0 : Int) ≤ (f : Int)))), .no (c := (decide ((0 : Int) ≤ (f : Int)))) (d := true) rfl (fun v w h => h), fun h w => optUndef h, fun zβ za zw zc => ?_⟩, ?_⟩
        · exact len_30 rfl ((show za.eval (.tmp 23) = za.tmps.getD 23 undef from rfl).trans (optVal (zc.dep 5 23 (by kernel_rfl)) rfl zβ)) ⟨_, rfl, Below.refl _ _, optDef zβ rfl⟩
        refine ⟨⟨(true && !(decide ((0 : Int) ≤ (f : Int)))), .no (c := (decide ((0 : Int) ≤ (f : Int)))) (d := true) rfl (fun v w h => h), fun h w => optUndef h, fun zβ za zw zc => ?_⟩, ?_⟩
        · exact eql_3 rfl ((show za.eval (.tmp 24) = za.tmps.getD 24 undef from rfl).trans (optVal (zc.dep 6 24 (by kernel_rfl)) rfl zβ)) (zc.kn.ev rfl) ⟨_, rfl, Below.refl _ _, optDef zβ rfl⟩
        refine ⟨⟨true, .none rfl, fun h w => optUndef h, fun zβ za zw zc => ?_⟩, ?_⟩
        · exact wp_or rfl ((show za.eval (.tmp 21) = za.tmps.getD 21 undef from rfl).trans (optVal (zc.dep 3 21 (by kernel_rfl)) rfl rfl)) (fun hp => ((show za.eval (.tmp 25) = za.tmps.getD 25 undef from rfl).trans (optVal (zc.dep 7 25 (by kernel_rfl)) rfl (bMkN zβ hp)))) ⟨_, rfl, Below.refl _ _, optDef zβ rfl⟩
        refine ⟨⟨true, .none rfl, fun h w => optUndef h, fun zβ za zw zc => ?_⟩, ?_⟩
        · exact wp_assign rfl ((show za.eval (.tmp 26) = za.tmps.getD 26 undef from rfl).trans (optVal (zc.dep 8 26 (by kernel_rfl)) rfl rfl)) ⟨_, rfl, Below.refl _ _, optDef zβ rfl⟩
        exact trivial
      · intro za w24 zh hb25 zu
        have zh := zh.cons (d := 2) (v := .bool (((decide ((0 : Int) ≤ (f : Int))) || ((((l.length : Nat) : Int) : Int) == (0 : Int))))) (optVal (zu 9 2 (by kernel_rfl)) rfl rfl)
        clear zu
        refine (show WE _ [(0, .agg #[.int .i64 f, .slice a l.length c]), (1, .pointer (some ⟨g2, 0, none⟩)), (2, .bool (((decide ((0 : Int) ≤ (f : Int))) || ((((l.length : Nat) : Int) : Int) == (0 : Int))))), (6, .int .i64 (((l.length : Nat) : Int))), (7, .int .i64 (((k : Nat) : Int))), (8, .bool ((decide ((((k : Nat) : Int) : Int) < (((l.length : Nat) : Int) : Int)))))] w24 _ .normal from ?_) za (zh.sub ⟨rfl, rfl, rfl, rfl, rfl, rfl, trivial⟩)
        refine WE.next ?_
        refine WC.ret ?_
        refine WE.ret1 rfl rfl ?_
        have hb26 : Below w.heap.size w w24 := (bstep hb9 hb25)
        exact ⟨_, rfl, congrArg Value.bool (by rw [plain_all (fun i hi => hE i (by omega)), Bool.eq_iff_iff]; simp), hb26⟩

theorem plainSub_all {l : List Bd} (h : ∀ i, i < l.length → (dget l i).t.plain = true) : plainSub l = true := by
  unfold plainSub
  rw [List.all_eq_true]
  intro x hx
  obtain ⟨i, hi, rfl⟩ := List.getElem_of_mem hx
  have := h i hi
  rwa [dget_lt hi] at this
theorem plainSub_no {l : List Bd} {k : Nat} (hk : k < l.length) (h : (dget l k).t.plain = false) : plainSub l = false := by
  unfold plainSub
  rw [Bool.eq_false_iff]; intro hp
  rw [List.all_eq_true.1 hp _ (dget_mem hk)] at h; cases h
set_option maxRecDepth 100000 in
theorem plainIn_any (l : List Bd) (w : World) (p : Option Addr) (c : Nat) (h : IsSub w l p c) : Calls Try.prog 16 #[.slice p l.length c] w (Ret fun v' w' => v' = .bool (plainSub l) ∧ Below w.heap.size w w') := by
  have hl1 := h.small
  refine Calls.walk (l := [.slice p l.length c]) Try.func16 rfl (by kernel_rfl) ?_
  refine WC.sub (K' := [(0, .slice p l.length c)]) ⟨rfl, trivial⟩ ?_
  refine WC.seq ?_
  refine WC.region ?_
  refine WL.val (.bool false) rfl rfl rfl (fun za zC zh zk => wp_assign rfl (zh.ev rfl) zk) ?_
  refine WL.nil (WE.sub (K' := [(0, .slice p l.length c), (2, .bool false)]) ⟨rfl, rfl, trivial⟩ ?_)
  refine WE.next ?_
  refine WC.seq ?_
  refine WC.seq ?_
  refine WC.region ?_
  refine WL.val (.slice p l.length c) rfl rfl rfl (fun za zC zh zk => wp_move rfl (zh.ev rfl) zk) ?_
  refine WL.val (.int .i64 (((l.length : Nat) : Int))) rfl rfl rfl (fun za zC zh zk => len_23 rfl (zh.ev rfl) zk) ?_
  refine WL.val (.int .i64 0) rfl rfl rfl (fun za zC zh zk => wp_move rfl (zh.ev rfl) zk) ?_
  refine WL.nil (WE.sub (K' := [(0, .slice p l.length c), (2, .bool false), (5, .int .i64 (((l.length : Nat) : Int))), (6, .int .i64 0)]) ⟨rfl, rfl, rfl, rfl, trivial⟩ ?_)
  refine WE.next ?_
  refine WC.block ?_
  refine WC.loop (X := Nat) (fun k => l.length - k) (fun k => [(0, .slice p l.length c), (5, .int .i64 (((l.length : Nat) : Int))), (6, .int .i64 (((k : Nat) : Int)))]) (fun k w1 => k ≤ l.length ∧ (∀ i, i < k → (dget l i).t.plain = true) ∧ Below w.heap.size w w1) 0 ⟨rfl, rfl, rfl, trivial⟩ ?_ ?_
  · exact ⟨Nat.zero_le _, fun i h => absurd h (Nat.not_lt_zero i), (Below.refl _ _)⟩
  · rintro k w1 ⟨hk, hE, hb2⟩
    refine WC.seq ?_
    refine WC.region ?_
    refine WL.val (.bool ((decide ((((k : Nat) : Int) : Int) < (((l.length : Nat) : Int) : Int))))) rfl rfl rfl (fun za zC zh zk => lss_3 rfl (zh.ev rfl) (zh.ev rfl) zk) ?_
    refine WL.nil (WE.sub (K' := [(0, .slice p l.length c), (5, .int .i64 (((l.length : Nat) : Int))), (6, .int .i64 (((k : Nat) : Int))), (7, .bool ((decide ((((k : Nat) : Int) : Int) < (((l.length : Nat) : Int) : Int)))))]) ⟨rfl, rfl, rfl, rfl, trivial⟩ ?_)
    refine WE.next ?_
    refine WC.seq ?_
    refine WC.cond rfl (fun h3 => ?_) (fun h3 => ?_)
    · have h3 : (((k : Nat) : Int) : Int) < (((l.length : Nat) : Int) : Int) := by simpa using h3
      refine WC.skip ?_
      refine WE.next ?_
      refine WC.seq ?_
      refine WC.block ?_
      refine WC.seq ?_
      refine WC.region ?_
      refine WL.val (.int .i64 (((k : Nat) : Int))) rfl rfl rfl (fun za zC zh zk => wp_move rfl (zh.ev rfl) zk) ?_
      refine WL.val (.int .i64 (((k : Nat) : Int))) rfl rfl rfl (fun za zC zh zk => wp_assign rfl (zh.ev rfl) zk) ?_
      refine WL.nil (WE.sub (K' := [(0, .slice p l.length c), (3, .int .i64 (((k : Nat) : Int))), (5, .int .i64 (((l.length : Nat) : Int))), (6, .int .i64 (((k : Nat) : Int))), (7, .bool ((decide ((((k : Nat) : Int) : Int) < (((l.length : Nat) : Int) : Int)))))]) ⟨rfl, rfl, rfl, rfl, rfl, trivial⟩ ?_)
      refine WE.next ?_
      refine WC.seq ?_
      refine WC.region ?_
      refine WL.val (.slice p l.length c) rfl rfl rfl (fun za zC zh zk => wp_move rfl (zh.ev rfl) zk) ?_
      refine WL.val (.int .i64 (((k : Nat) : Int))) rfl rfl rfl (fun za zC zh zk => wp_move rfl (zh.ev rfl) zk) ?_
      obtain ⟨b4, o5, A6, C7, ha8, hc9⟩ := InRow.openB h.rows
      refine WL.val (.pointer (some ⟨b4, o5 + k * 3, none⟩)) rfl rfl rfl (fun za zC zh zk => ix_23 (k := k) rfl (zh.ev rfl) (ha8 k (by first | omega | (simp; omega))) (zh.ev rfl) (by first | omega | (simp; omega)) zk) ?_
      refine WL.val (.pointer (some ⟨b4, o5 + k * 3 + 1, none⟩)) rfl rfl rfl (fun za zC zh zk => fld_56_1 rfl (zh.ev rfl) zk) ?_
      refine WL.val (.agg #[.int .i64 ((dget l k).t.f), .slice ((A6 k)) ((dget l k).t.args.length) ((C7 k))]) rfl rfl rfl (fun za zC zh zk => ld_32 rfl (zh.ev rfl) (bkeeps hb2 _ _ (hc9 k (by first | omega | (simp; omega))).2.1) (bkeeps hb2 _ _ (hc9 k (by first | omega | (simp; omega))).2.2.1) zk) ?_
      refine WL.call rfl rfl rfl (fun za zh zC => wp_call (by kernel_rfl) rfl (hv1 (zh.ev rfl))) (plain_any (dget l k).t _ _ (h.parts _ (dget_mem (by omega))) (IsT.below hb2 (InT.isT (hc9 k (by first | omega | (simp; omega))).2.2.2.1))) ?_
      rintro _ w11 ⟨rfl, hq10⟩
      refine WL.val (.bool ((!(dget l k).t.plain))) rfl rfl rfl (fun za zC zh zk => wp_not rfl (zh.ev rfl) zk) ?_
      refine WL.nil (WE.sub (K' := [(0, .slice p l.length c), (3, .int .i64 (((k : Nat) : Int))), (5, .int .i64 (((l.length : Nat) : Int))), (6, .int .i64 (((k : Nat) : Int))), (7, .bool ((decide ((((k : Nat) : Int) : Int) < (((l.length : Nat) : Int) : Int))))), (15, .bool ((!(dget l k).t.plain)))]) ⟨rfl, rfl, rfl, rfl, rfl, rfl, trivial⟩ ?_)
      refine WE.next ?_
      refine WC.cond rfl (fun h12 => ?_) (fun h12 => ?_)
      · have h12 : ¬ ((dget l k).t.plain = true) := by simpa using h12
        refine WC.seq ?_
        refine WC.region ?_
        refine WL.val (.bool false) rfl rfl rfl (fun za zC zh zk => wp_assign rfl (zh.ev rfl) zk) ?_
        refine WL.nil (WE.sub (K' := [(0, .slice p l.length c), (2, .bool false), (3, .int .i64 (((k : Nat) : Int))), (5, .int .i64 (((l.length : Nat) : Int))), (6, .int .i64 (((k : Nat) : Int))), (7, .bool ((decide ((((k : Nat) : Int) : Int) < (((l.length : Nat) : Int) : Int))))), (15, .bool ((!(dget l k).t.plain)))]) ⟨rfl, rfl, rfl, rfl, rfl, rfl, rfl, trivial⟩ ?_)
        refine WE.next ?_
        refine WC.ret ?_
        refine WE.blockRet ?_
        refine WE.thenRet ?_
        refine WE.thenRet ?_
        refine WE.blockRet ?_
        refine WE.thenRet ?_
        refine WE.ret1 rfl rfl ?_
        have hb13 : Below w.heap.size w w11 := (bstep hb2 hq10)
        exact ⟨_, rfl, congrArg Value.bool (Eq.symm (plainSub_no (k := k) (by omega) (by simpa using h12))), hb13⟩
      · have h12 : ¬ (¬ ((dget l k).t.plain = true)) := by simpa using h12
        refine WC.skip ?_
        refine WE.blockNormal ?_
        refine WE.next ?_
        refine WC.region ?_
        refine WL.val (.int .i64 ((((k + 1) : Nat) : Int))) rfl rfl rfl (fun za zC zh zk => addb_3 rfl (zh.ev rfl) (zh.ev rfl) (wrap_eq (by omega) (by omega) (by omega)) zk) ?_
        refine WL.val (.int .i64 ((((k + 1) : Nat) : Int))) rfl rfl rfl (fun za zC zh zk => wp_move rfl (zh.ev rfl) zk) ?_
        refine WL.nil (WE.sub (K' := [(0, .slice p l.length c), (3, .int .i64 (((k : Nat) : Int))), (5, .int .i64 (((l.length : Nat) : Int))), (6, .int .i64 ((((k + 1) : Nat) : Int))), (7, .bool ((decide ((((k : Nat) : Int) : Int) < (((l.length : Nat) : Int) : Int))))), (15, .bool ((!(dget l k).t.plain)))]) ⟨rfl, rfl, rfl, rfl, rfl, rfl, trivial⟩ ?_)
        refine WE.round (k + 1) ⟨rfl, rfl, rfl, trivial⟩ ?_ ?_
        · have hb14 : Below w.heap.size w w11 := (bstep hb2 hq10)
          exact ⟨by omega, fun i hi => by rcases Nat.lt_or_ge i k with q | q; exact hE i q; (obtain rfl : i = k := by omega); simpa using h12, hb14⟩
        · omega
    · have h3 : ¬ ((((k : Nat) : Int) : Int) < (((l.length : Nat) : Int) : Int)) := by simpa using h3
      refine WC.exit ?_
      refine WE.thenExit ?_
      refine WE.thenExit ?_
      refine WE.blockIs rfl ?_
      refine WE.next ?_
      refine WC.seq ?_
      refine WC.region ?_
      refine WL.val (.bool true) rfl rfl rfl (fun za zC zh zk => wp_assign rfl (zh.ev rfl) zk) ?_
      refine WL.nil (WE.sub (K' := [(0, .slice p l.length c), (2, .bool true), (5, .int .i64 (((l.length : Nat) : Int))), (6, .int .i64 (((k : Nat) : Int))), (7, .bool ((decide ((((k : Nat) : Int) : Int) < (((l.length : Nat) : Int) : Int)))))]) ⟨rfl, rfl, rfl, rfl, rfl, trivial⟩ ?_)
      refine WE.next ?_
      refine WC.ret ?_
      refine WE.ret1 rfl rfl ?_
      exact ⟨_, rfl, congrArg Value.bool (Eq.symm (plainSub_all (fun i hi => hE i (by omega)))), hb2⟩

end Go.Proofs.Ytgechlgdnnpoeaa
