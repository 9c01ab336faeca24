/- Match and Variant: the program and the document; substitutions compared. -/
import Derived.Test.YtcmfjnadjddboaaMatRes
import Derived.Test.YtcmfjnadjddboaaRefSubWalk
import Derived.Test.YtcmfjnadjddboaaTSame
import Derived.Test.YtcmfjnadjddboaaSame
namespace Go.Proofs.Ytcmfjnadjddboaa
open Go.RowKit Go

instance : DecidableEq T := fun s t => decidable_of_iff _ (T.same_iff s t)
instance : DecidableEq Bd := fun x y => decidable_of_iff (x.var = y.var ∧ x.t = y.t) (by cases x; cases y; simp)
def subSame (a b : List Bd) : Bool := decide (a = b)
/-- So far they are the same. -/
def EqTo (a b : List Bd) (k : Nat) : Prop := ∀ i, i < k → dget a i = dget b i
theorem bd_eq {x y : Bd} (h1 : x.var = y.var) (h2 : T.same x.t y.t = true) : x = y := by
  obtain ⟨v, t⟩ := x; obtain ⟨u, s⟩ := y
  have := (T.same_iff t s).1 h2
  simp only at h1 this
  rw [h1, this]
theorem EqTo.step {a b : List Bd} {k : Nat} (h : EqTo a b k) (h1 : (dget a k).var = (dget b k).var) (h2 : T.same (dget a k).t (dget b k).t = true) : EqTo a b (k + 1) := fun i hi => by
  rcases Nat.lt_or_ge i k with q | q
  · exact h i q
  · obtain rfl : i = k := by omega
    exact bd_eq h1 h2
theorem subSame_all {a b : List Bd} {k : Nat} (hl : a.length = b.length) (h : EqTo a b k) (hk : a.length ≤ k) : subSame a b = true := by
  rw [subSame, decide_eq_true_eq]
  refine List.ext_getElem hl fun i h1 h2 => ?_
  have := h i (by omega)
  rwa [dget_lt h1, dget_lt h2] at this
theorem subSame_len {a b : List Bd} (h : a.length ≠ b.length) : subSame a b = false := by
  rw [subSame, decide_eq_false_iff_not]; rintro rfl; exact h rfl
theorem subSame_at {a b : List Bd} {k : Nat} (h : ¬ ((dget a k).var = (dget b k).var ∧ T.same (dget a k).t (dget b k).t = true)) : subSame a b = false := by
  rw [subSame, decide_eq_false_iff_not]; rintro rfl; exact h ⟨rfl, T.same_refl _⟩
set_option maxRecDepth 100000 in
theorem rsubSame_any (s1 s2 : List Bd) (w : World) (pa pb : Option Addr) (ca cb : Nat) (h1 : s1.length ≤ maxLen) (ha : IsBs w s1 pa) (hb : IsBs w s2 pb) : Calls Try.prog 10 #[.slice pa s1.length ca, .slice pb s2.length cb] w (Ret fun v' w' => v' = .bool (subSame s1 s2) ∧ Below w.heap.size w w') := by
  unfold maxLen at h1
  refine Calls.walk (l := [.slice pa s1.length ca, .slice pb s2.length cb]) Try.func10 rfl (by kernel_rfl) ?_
  refine WC.sub (K' := [(0, .slice pa s1.length ca), (1, .slice pb s2.length cb)]) ⟨rfl, rfl, trivial⟩ ?_
  refine WC.seq ?_
  refine WC.region ?_
  refine WL.val (.bool false) rfl rfl rfl (fun za zC zh zk => wp_assign rfl (zh.ev rfl) zk) ?_
  refine WL.nil (WE.sub (K' := [(0, .slice pa s1.length ca), (1, .slice pb s2.length cb), (4, .bool false)]) ⟨rfl, rfl, rfl, trivial⟩ ?_)
  refine WE.next ?_
  refine WC.seq ?_
  refine WC.seq ?_
  refine WC.region ?_
  refine WL.val (.slice pa s1.length ca) rfl rfl rfl (fun za zC zh zk => wp_move rfl (zh.ev rfl) zk) ?_
  refine WL.val (.int .i64 (((s1.length : Nat) : Int))) rfl rfl rfl (fun za zC zh zk => len_26 rfl (zh.ev rfl) zk) ?_
  refine WL.val (.slice pb s2.length cb) rfl rfl rfl (fun za zC zh zk => wp_move rfl (zh.ev rfl) zk) ?_
  refine WL.val (.int .i64 (((s2.length : Nat) : Int))) rfl rfl rfl (fun za zC zh zk => len_26 rfl (zh.ev rfl) zk) ?_
  refine WL.val (.bool (((((s1.length : Nat) : Int) : Int) != (((s2.length : Nat) : Int) : Int)))) rfl rfl rfl (fun za zC zh zk => neq_3 rfl (zh.ev rfl) (zh.ev rfl) zk) ?_
  refine WL.nil (WE.sub (K' := [(0, .slice pa s1.length ca), (1, .slice pb s2.length cb), (4, .bool false), (10, .bool (((((s1.length : Nat) : Int) : Int) != (((s2.length : Nat) : Int) : Int))))]) ⟨rfl, rfl, rfl, rfl, trivial⟩ ?_)
  refine WE.next ?_
  refine WC.cond rfl (fun h1 => ?_) (fun h1 => ?_)
  · have h1 : (((s1.length : Nat) : Int) : Int) ≠ (((s2.length : Nat) : Int) : Int) := by simpa using h1
    refine WC.seq ?_
    refine WC.region ?_
    refine WL.val (.bool false) rfl rfl rfl (fun za zC zh zk => wp_assign rfl (zh.ev rfl) zk) ?_
    refine WL.nil (WE.sub (K' := [(0, .slice pa s1.length ca), (1, .slice pb s2.length cb), (4, .bool false), (10, .bool (((((s1.length : Nat) : Int) : Int) != (((s2.length : Nat) : Int) : Int))))]) ⟨rfl, rfl, rfl, rfl, trivial⟩ ?_)
    refine WE.next ?_
    refine WC.ret ?_
    refine WE.thenRet ?_
    refine WE.ret1 rfl rfl ?_
    exact ⟨_, rfl, congrArg Value.bool (Eq.symm (subSame_len (by omega))), (Below.refl _ _)⟩
  · have h1 : ¬ ((((s1.length : Nat) : Int) : Int) ≠ (((s2.length : Nat) : Int) : Int)) := by simpa using h1
    refine WC.skip ?_
    refine WE.next ?_
    refine WC.seq ?_
    refine WC.seq ?_
    refine WC.region ?_
    refine WL.val (.int .i64 0) rfl rfl rfl (fun za zC zh zk => wp_assign rfl (zh.ev rfl) zk) ?_
    refine WL.nil (WE.sub (K' := [(0, .slice pa s1.length ca), (1, .slice pb s2.length cb), (4, .bool false), (5, .int .i64 0), (10, .bool (((((s1.length : Nat) : Int) : Int) != (((s2.length : Nat) : Int) : Int))))]) ⟨rfl, rfl, rfl, rfl, rfl, trivial⟩ ?_)
    refine WE.next ?_
    refine WC.block ?_
    have hlen : s1.length = s2.length := by omega
    refine WC.loop (X := Nat) (fun k => s1.length - k) (fun k => [(0, .slice pa s1.length ca), (1, .slice pb s2.length cb), (5, .int .i64 (((k : Nat) : Int))), (10, .bool (((((s1.length : Nat) : Int) : Int) != (((s2.length : Nat) : Int) : Int))))]) (fun k w2 => k ≤ s1.length ∧ EqTo s1 s2 k ∧ Below w.heap.size w w2) 0 ⟨rfl, rfl, rfl, rfl, trivial⟩ ?_ ?_
    · exact ⟨Nat.zero_le _, fun i h => absurd h (Nat.not_lt_zero i), (Below.refl _ _)⟩
    · rintro k w2 ⟨hk, hE, hb3⟩
      refine WC.seq ?_
      refine WC.seq ?_
      refine WC.region ?_
      refine WL.val (.int .i64 (((k : Nat) : Int))) rfl rfl rfl (fun za zC zh zk => wp_move rfl (zh.ev rfl) zk) ?_
      refine WL.val (.slice pa s1.length ca) rfl rfl rfl (fun za zC zh zk => wp_move rfl (zh.ev rfl) zk) ?_
      refine WL.val (.int .i64 (((s1.length : Nat) : Int))) rfl rfl rfl (fun za zC zh zk => len_26 rfl (zh.ev rfl) zk) ?_
      refine WL.val (.bool ((decide ((((k : Nat) : Int) : Int) < (((s1.length : Nat) : Int) : Int))))) rfl rfl rfl (fun za zC zh zk => lss_3 rfl (zh.ev rfl) (zh.ev rfl) zk) ?_
      refine WL.nil (WE.sub (K' := [(0, .slice pa s1.length ca), (1, .slice pb s2.length cb), (5, .int .i64 (((k : Nat) : Int))), (10, .bool (((((s1.length : Nat) : Int) : Int) != (((s2.length : Nat) : Int) : Int)))), (14, .bool ((decide ((((k : Nat) : Int) : Int) < (((s1.length : Nat) : Int) : Int)))))]) ⟨rfl, rfl, rfl, rfl, rfl, trivial⟩ ?_)
      refine WE.next ?_
      refine WC.cond rfl (fun h4 => ?_) (fun h4 => ?_)
      · have h4 : (((k : Nat) : Int) : Int) < (((s1.length : Nat) : Int) : Int) := by simpa using h4
        refine WC.skip ?_
        refine WE.next ?_
        refine WC.seq ?_
        refine WC.block ?_
        refine WC.seq ?_
        obtain ⟨b5, o6, A7, C8, ha9, hc10⟩ := InRow.openB ha
        obtain ⟨b11, o12, A13, C14, ha15, hc16⟩ := InRow.openB hb
        refine WC.opt [(true, .val (.slice pa s1.length ca)), (true, .val (.int .i64 (((k : Nat) : Int)))), (true, .val (.pointer (some ⟨b5, o6 + k * 3, none⟩))), (true, .val (.pointer (some ⟨b5, o6 + k * 3, none⟩))), (true, .val (.int .i64 ((dget s1 k).var))), (true, .val (.slice pb s2.length cb)), (true, .val (.int .i64 (((k : Nat) : Int)))), (true, .val (.pointer (some ⟨b11, o12 + k * 3, none⟩))), (true, .val (.pointer (some ⟨b11, o12 + k * 3, none⟩))), (true, .val (.int .i64 ((dget s2 k).var))), (true, .val (.bool ((((dget s1 k).var : Int) != ((dget s2 k).var : Int))))), (true, .val (.bool ((((dget s1 k).var : Int) != ((dget s2 k).var : Int))))), ((true && !(((dget s1 k).var : Int) != ((dget s2 k).var : Int))), .val (.slice pa s1.length ca)), ((true && !(((dget s1 k).var : Int) != ((dget s2 k).var : Int))), .val (.int .i64 (((k : Nat) : Int)))), ((true && !(((dget s1 k).var : Int) != ((dget s2 k).var : Int))), .val (.pointer (some ⟨b5, o6 + k * 3, none⟩))), ((true && !(((dget s1 k).var : Int) != ((dget s2 k).var : Int))), .val (.pointer (some ⟨b5, o6 + k * 3 + 1, none⟩))), ((true && !(((dget s1 k).var : Int) != ((dget s2 k).var : Int))), .val (.agg #[.int .i64 ((dget s1 k).t.f), .slice ((A7 k)) ((dget s1 k).t.args.length) ((C8 k))])), ((true && !(((dget s1 k).var : Int) != ((dget s2 k).var : Int))), .val (.slice pb s2.length cb)), ((true && !(((dget s1 k).var : Int) != ((dget s2 k).var : Int))), .val (.int .i64 (((k : Nat) : Int)))), ((true && !(((dget s1 k).var : Int) != ((dget s2 k).var : Int))), .val (.pointer (some ⟨b11, o12 + k * 3, none⟩))), ((true && !(((dget s1 k).var : Int) != ((dget s2 k).var : Int))), .val (.pointer (some ⟨b11, o12 + k * 3 + 1, none⟩))), ((true && !(((dget s1 k).var : Int) != ((dget s2 k).var : Int))), .val (.agg #[.int .i64 ((dget s2 k).t.f), .slice ((A13 k)) ((dget s2 k).t.args.length) ((C14 k))])), ((true && !(((dget s1 k).var : Int) != ((dget s2 k).var : Int))), .val (.bool ((T.same (dget s1 k).t (dget s2 k).t)))), ((true && !(((dget s1 k).var : Int) != ((dget s2 k).var : Int))), .val (.bool ((!(T.same (dget s1 k).t (dget s2 k).t))))), (true, .val (.bool (((((dget s1 k).var : Int) != ((dget s2 k).var : Int)) || (!(T.same (dget s1 k).t (dget s2 k).t))))))] [(0, .slice pa s1.length ca), (1, .slice pb s2.length cb), (5, .int .i64 (((k : Nat) : Int))), (10, .bool (((((s1.length : Nat) : Int) : Int) != (((s2.length : Nat) : Int) : Int)))), (14, .bool ((decide ((((k : Nat) : Int) : Int) < (((s1.length : Nat) : Int) : Int)))))] ⟨rfl, rfl, rfl, rfl, rfl, trivial⟩ (by kernel_rfl) (by kernel_rfl) (by kernel_rfl) ?_ ?_
        · refine ⟨⟨true, .none rfl, fun h w => optUndef h, fun zβ za zw zc => ?_⟩, ?_⟩
          · exact wp_move rfl (zc.kn.ev rfl) ⟨_, rfl, Below.refl _ _, optDef zβ rfl⟩
          refine ⟨⟨true, .none rfl, fun h w => optUndef h, fun zβ za zw zc => ?_⟩, ?_⟩
          · exact wp_move rfl (zc.kn.ev rfl) ⟨_, rfl, Below.refl _ _, optDef zβ rfl⟩
          refine ⟨⟨true, .none rfl, fun h w => optUndef h, fun zβ za zw zc => ?_⟩, ?_⟩
          · exact ix_26 (k := k) rfl ((show za.eval (.tmp 17) = za.tmps.getD 17 undef from rfl).trans (optVal (zc.dep 0 17 (by kernel_rfl)) rfl rfl)) (ha9 k (by first | omega | (simp; omega))) ((show za.eval (.tmp 18) = za.tmps.getD 18 undef from rfl).trans (optVal (zc.dep 1 18 (by kernel_rfl)) rfl rfl)) (by first | omega | (simp; omega)) ⟨_, rfl, Below.refl _ _, optDef zβ rfl⟩
          refine ⟨⟨true, .none rfl, fun h w => optUndef h, fun zβ za zw zc => ?_⟩, ?_⟩
          · exact fld_57_0 rfl ((show za.eval (.tmp 19) = za.tmps.getD 19 undef from rfl).trans (optVal (zc.dep 2 19 (by kernel_rfl)) rfl rfl)) ⟨_, rfl, Below.refl _ _, optDef zβ rfl⟩
          refine ⟨⟨true, .none rfl, fun h w => optUndef h, fun zβ za zw zc => ?_⟩, ?_⟩
          · exact ld_3 rfl ((show za.eval (.tmp 20) = za.tmps.getD 20 undef from rfl).trans (optVal (zc.dep 3 20 (by kernel_rfl)) rfl rfl)) (bkeeps (bstep hb3 zc.below) _ _ (hc10 k (by first | omega | (simp; omega))).1) ⟨_, rfl, Below.refl _ _, optDef zβ rfl⟩
          refine ⟨⟨true, .none rfl, fun h w => optUndef h, fun zβ za zw zc => ?_⟩, ?_⟩
          · exact wp_move rfl (zc.kn.ev rfl) ⟨_, rfl, Below.refl _ _, optDef zβ rfl⟩
          refine ⟨⟨true, .none rfl, fun h w => optUndef h, fun zβ za zw zc => ?_⟩, ?_⟩
          · exact wp_move rfl (zc.kn.ev rfl) ⟨_, rfl, Below.refl _ _, optDef zβ rfl⟩
          refine ⟨⟨true, .none rfl, fun h w => optUndef h, fun zβ za zw zc => ?_⟩, ?_⟩
          · exact ix_26 (k := k) rfl ((show za.eval (.tmp 22) = za.tmps.getD 22 undef from rfl).trans (optVal (zc.dep 5 22 (by kernel_rfl)) rfl rfl)) (ha15 k (by first | omega | (simp; omega))) ((show za.eval (.tmp 23) = za.tmps.getD 23 undef from rfl).trans (optVal (zc.dep 6 23 (by kernel_rfl)) rfl rfl)) (by first | omega | (simp; omega)) ⟨_, rfl, Below.refl _ _, optDef zβ rfl⟩
          refine ⟨⟨true, .none rfl, fun h w => optUndef h, fun zβ za zw zc => ?_⟩, ?_⟩
          · exact fld_57_0 rfl ((show za.eval (.tmp 24) = za.tmps.getD 24 undef from rfl).trans (optVal (zc.dep 7 24 (by kernel_rfl)) rfl rfl)) ⟨_, rfl, Below.refl _ _, optDef zβ rfl⟩
          refine ⟨⟨true, .none rfl, fun h w => optUndef h, fun zβ za zw zc => ?_⟩, ?_⟩
          · exact ld_3 rfl ((show za.eval (.tmp 25) = za.tmps.getD 25 undef from rfl).trans (optVal (zc.dep 8 25 (by kernel_rfl)) rfl rfl)) (bkeeps (bstep hb3 zc.below) _ _ (hc16 k (by first | omega | (simp; omega))).1) ⟨_, rfl, Below.refl _ _, optDef zβ rfl⟩
          refine ⟨⟨true, .none rfl, fun h w => optUndef h, fun zβ za zw zc => ?_⟩, ?_⟩
          · exact neq_3 rfl ((show za.eval (.tmp 21) = za.tmps.getD 21 undef from rfl).trans (optVal (zc.dep 4 21 (by kernel_rfl)) rfl rfl)) ((show za.eval (.tmp 26) = za.tmps.getD 26 undef from rfl).trans (optVal (zc.dep 9 26 (by kernel_rfl)) rfl rfl)) ⟨_, rfl, Below.refl _ _, optDef zβ rfl⟩
          refine ⟨⟨true, .none rfl, fun h w => optUndef h, fun zβ za zw zc => ?_⟩, ?_⟩
          · exact wp_move rfl ((show za.eval (.tmp 27) = za.tmps.getD 27 undef from rfl).trans (optVal (zc.dep 10 27 (by kernel_rfl)) rfl rfl)) ⟨_, rfl, Below.refl _ _, optDef zβ rfl⟩
          refine ⟨⟨(true && !(((dget s1 k).var : Int) != ((dget s2 k).var : Int))), .no (c := (((dget s1 k).var : Int) != ((dget s2 k).var : Int))) (d := true) rfl (fun v w h => h), fun h w => optUndef h, fun zβ za zw zc => ?_⟩, ?_⟩
          · exact wp_move rfl (zc.kn.ev rfl) ⟨_, rfl, Below.refl _ _, optDef zβ rfl⟩
          refine ⟨⟨(true && !(((dget s1 k).var : Int) != ((dget s2 k).var : Int))), .no (c := (((dget s1 k).var : Int) != ((dget s2 k).var : Int))) (d := true) rfl (fun v w h => h), fun h w => optUndef h, fun zβ za zw zc => ?_⟩, ?_⟩
          · exact wp_move rfl (zc.kn.ev rfl) ⟨_, rfl, Below.refl _ _, optDef zβ rfl⟩
          refine ⟨⟨(true && !(((dget s1 k).var : Int) != ((dget s2 k).var : Int))), .no (c := (((dget s1 k).var : Int) != ((dget s2 k).var : Int))) (d := true) rfl (fun v w h => h), fun h w => optUndef h, fun zβ za zw zc => ?_⟩, ?_⟩
          · exact ix_26 (k := k) rfl ((show za.eval (.tmp 29) = za.tmps.getD 29 undef from rfl).trans (optVal (zc.dep 12 29 (by kernel_rfl)) rfl zβ)) (ha9 k (by first | omega | (have zz := zβ; simp only [Bool.and_eq_true, Bool.or_eq_true, Bool.true_and, Bool.not_eq_true', Bool.or_eq_false_iff, Bool.and_eq_false_iff, beq_eq_false_iff_ne, ne_eq, beq_iff_eq, decide_eq_true_eq, decide_eq_false_iff_not, bne_iff_ne] at zz; omega))) ((show za.eval (.tmp 30) = za.tmps.getD 30 undef from rfl).trans (optVal (zc.dep 13 30 (by kernel_rfl)) rfl zβ)) (by first | omega | (have zz := zβ; simp only [Bool.and_eq_true, Bool.or_eq_true, Bool.true_and, Bool.not_eq_true', Bool.or_eq_false_iff, Bool.and_eq_false_iff, beq_eq_false_iff_ne, ne_eq, beq_iff_eq, decide_eq_true_eq, decide_eq_false_iff_not, bne_iff_ne] at zz; omega)) ⟨_, rfl, Below.refl _ _, optDef zβ rfl⟩
          refine ⟨⟨(true && !(((dget s1 k).var : Int) != ((dget s2 k).var : Int))), .no (c := (((dget s1 k).var : Int) != ((dget s2 k).var : Int))) (d := true) rfl (fun v w h => h), fun h w => optUndef h, fun zβ za zw zc => ?_⟩, ?_⟩
          · exact fld_57_1 rfl ((show za.eval (.tmp 31) = za.tmps.getD 31 undef from rfl).trans (optVal (zc.dep 14 31 (by kernel_rfl)) rfl zβ)) ⟨_, rfl, Below.refl _ _, optDef zβ rfl⟩
          refine ⟨⟨(true && !(((dget s1 k).var : Int) != ((dget s2 k).var : Int))), .no (c := (((dget s1 k).var : Int) != ((dget s2 k).var : Int))) (d := true) rfl (fun v w h => h), fun h w => optUndef h, fun zβ za zw zc => ?_⟩, ?_⟩
          · exact ld_24 rfl ((show za.eval (.tmp 32) = za.tmps.getD 32 undef from rfl).trans (optVal (zc.dep 15 32 (by kernel_rfl)) rfl zβ)) (bkeeps (bstep hb3 zc.below) _ _ (hc10 k (by first | omega | (have zz := zβ; simp only [Bool.and_eq_true, Bool.or_eq_true, Bool.true_and, Bool.not_eq_true', Bool.or_eq_false_iff, Bool.and_eq_false_iff, beq_eq_false_iff_ne, ne_eq, beq_iff_eq, decide_eq_true_eq, decide_eq_false_iff_not, bne_iff_ne] at zz; omega))).2.1) (bkeeps (bstep hb3 zc.below) _ _ (hc10 k (by first | omega | (have zz := zβ; simp only [Bool.and_eq_true, Bool.or_eq_true, Bool.true_and, Bool.not_eq_true', Bool.or_eq_false_iff, Bool.and_eq_false_iff, beq_eq_false_iff_ne, ne_eq, beq_iff_eq, decide_eq_true_eq, decide_eq_false_iff_not, bne_iff_ne] at zz; omega))).2.2.1) ⟨_, rfl, Below.refl _ _, optDef zβ rfl⟩
          refine ⟨⟨(true && !(((dget s1 k).var : Int) != ((dget s2 k).var : Int))), .no (c := (((dget s1 k).var : Int) != ((dget s2 k).var : Int))) (d := true) rfl (fun v w h => h), fun h w => optUndef h, fun zβ za zw zc => ?_⟩, ?_⟩
          · exact wp_move rfl (zc.kn.ev rfl) ⟨_, rfl, Below.refl _ _, optDef zβ rfl⟩
          refine ⟨⟨(true && !(((dget s1 k).var : Int) != ((dget s2 k).var : Int))), .no (c := (((dget s1 k).var : Int) != ((dget s2 k).var : Int))) (d := true) rfl (fun v w h => h), fun h w => optUndef h, fun zβ za zw zc => ?_⟩, ?_⟩
          · exact wp_move rfl (zc.kn.ev rfl) ⟨_, rfl, Below.refl _ _, optDef zβ rfl⟩
          refine ⟨⟨(true && !(((dget s1 k).var : Int) != ((dget s2 k).var : Int))), .no (c := (((dget s1 k).var : Int) != ((dget s2 k).var : Int))) (d := true) rfl (fun v w h => h), fun h w => optUndef h, fun zβ za zw zc => ?_⟩, ?_⟩
          · exact ix_26 (k := k) rfl ((show za.eval (.tmp 34) = za.tmps.getD 34 undef from rfl).trans (optVal (zc.dep 17 34 (by kernel_rfl)) rfl zβ)) (ha15 k (by first | omega | (have zz := zβ; simp only [Bool.and_eq_true, Bool.or_eq_true, Bool.true_and, Bool.not_eq_true', Bool.or_eq_false_iff, Bool.and_eq_false_iff, beq_eq_false_iff_ne, ne_eq, beq_iff_eq, decide_eq_true_eq, decide_eq_false_iff_not, bne_iff_ne] at zz; omega))) ((show za.eval (.tmp 35) = za.tmps.getD 35 undef from rfl).trans (optVal (zc.dep 18 35 (by kernel_rfl)) rfl zβ)) (by first | omega | (have zz := zβ; simp only [Bool.and_eq_true, Bool.or_eq_true, Bool.true_and, Bool.not_eq_true', Bool.or_eq_false_iff, Bool.and_eq_false_iff, beq_eq_false_iff_ne, ne_eq, beq_iff_eq, decide_eq_true_eq, decide_eq_false_iff_not, bne_iff_ne] at zz; omega)) ⟨_, rfl, Below.refl _ _, optDef zβ rfl⟩
          refine ⟨⟨(true && !(((dget s1 k).var : Int) != ((dget s2 k).var : Int))), .no (c := (((dget s1 k).var : Int) != ((dget s2 k).var : Int))) (d := true) rfl (fun v w h => h), fun h w => optUndef h, fun zβ za zw zc => ?_⟩, ?_⟩
          · exact fld_57_1 rfl ((show za.eval (.tmp 36) = za.tmps.getD 36 undef from rfl).trans (optVal (zc.dep 19 36 (by kernel_rfl)) rfl zβ)) ⟨_, rfl, Below.refl _ _, optDef zβ rfl⟩
          refine ⟨⟨(true && !(((dget s1 k).var : Int) != ((dget s2 k).var : Int))), .no (c := (((dget s1 k).var : Int) != ((dget s2 k).var : Int))) (d := true) rfl (fun v w h => h), fun h w => optUndef h, fun zβ za zw zc => ?_⟩, ?_⟩
          · exact ld_24 rfl ((show za.eval (.tmp 37) = za.tmps.getD 37 undef from rfl).trans (optVal (zc.dep 20 37 (by kernel_rfl)) rfl zβ)) (bkeeps (bstep hb3 zc.below) _ _ (hc16 k (by first | omega | (have zz := zβ; simp only [Bool.and_eq_true, Bool.or_eq_true, Bool.true_and, Bool.not_eq_true', Bool.or_eq_false_iff, Bool.and_eq_false_iff, beq_eq_false_iff_ne, ne_eq, beq_iff_eq, decide_eq_true_eq, decide_eq_false_iff_not, bne_iff_ne] at zz; omega))).2.1) (bkeeps (bstep hb3 zc.below) _ _ (hc16 k (by first | omega | (have zz := zβ; simp only [Bool.and_eq_true, Bool.or_eq_true, Bool.true_and, Bool.not_eq_true', Bool.or_eq_false_iff, Bool.and_eq_false_iff, beq_eq_false_iff_ne, ne_eq, beq_iff_eq, decide_eq_true_eq, decide_eq_false_iff_not, bne_iff_ne] at zz; omega))).2.2.1) ⟨_, rfl, Below.refl _ _, optDef zβ rfl⟩
          refine ⟨⟨(true && !(((dget s1 k).var : Int) != ((dget s2 k).var : Int))), .no (c := (((dget s1 k).var : Int) != ((dget s2 k).var : Int))) (d := true) rfl (fun v w h => h), fun h w => optUndef h, fun zβ za zw zc => ?_⟩, ?_⟩
          · exact wp_call (by kernel_rfl) rfl (hv2 ((show za.eval (.tmp 33) = za.tmps.getD 33 undef from rfl).trans (optVal (zc.dep 16 33 (by kernel_rfl)) rfl zβ)) ((show za.eval (.tmp 38) = za.tmps.getD 38 undef from rfl).trans (optVal (zc.dep 21 38 (by kernel_rfl)) rfl zβ))) (ret_of (rsame_any _ _ _ _ _ (IsT.below (bstep hb3 zc.below) (InT.isT (hc10 k (by first | omega | (have zz := zβ; simp only [Bool.and_eq_true, Bool.or_eq_true, Bool.true_and, Bool.not_eq_true', Bool.or_eq_false_iff, Bool.and_eq_false_iff, beq_eq_false_iff_ne, ne_eq, beq_iff_eq, decide_eq_true_eq, decide_eq_false_iff_not, bne_iff_ne] at zz; omega))).2.2.2.1)) (IsT.below (bstep hb3 zc.below) (InT.isT (hc16 k (by first | omega | (have zz := zβ; simp only [Bool.and_eq_true, Bool.or_eq_true, Bool.true_and, Bool.not_eq_true', Bool.or_eq_false_iff, Bool.and_eq_false_iff, beq_eq_false_iff_ne, ne_eq, beq_iff_eq, decide_eq_true_eq, decide_eq_false_iff_not, bne_iff_ne] at zz; omega))).2.2.2.1)))) (fun v w' h => ⟨v, rfl, h.2, optDef zβ h.1⟩)
          refine ⟨⟨(true && !(((dget s1 k).var : Int) != ((dget s2 k).var : Int))), .no (c := (((dget s1 k).var : Int) != ((dget s2 k).var : Int))) (d := true) rfl (fun v w h => h), fun h w => optUndef h, fun zβ za zw zc => ?_⟩, ?_⟩
          · exact wp_not rfl ((show za.eval (.tmp 39) = za.tmps.getD 39 undef from rfl).trans (optVal (zc.dep 22 39 (by kernel_rfl)) rfl zβ)) ⟨_, rfl, Below.refl _ _, optDef zβ rfl⟩
          refine ⟨⟨true, .none rfl, fun h w => optUndef h, fun zβ za zw zc => ?_⟩, ?_⟩
          · exact wp_or rfl ((show za.eval (.tmp 28) = za.tmps.getD 28 undef from rfl).trans (optVal (zc.dep 11 28 (by kernel_rfl)) rfl rfl)) (fun hp => ((show za.eval (.tmp 40) = za.tmps.getD 40 undef from rfl).trans (optVal (zc.dep 23 40 (by kernel_rfl)) rfl (bMkN zβ hp)))) ⟨_, rfl, Below.refl _ _, optDef zβ rfl⟩
          exact trivial
        · intro za w17 zh hb18 zu
          have zh := zh.cons (d := 41) (v := .bool (((((dget s1 k).var : Int) != ((dget s2 k).var : Int)) || (!(T.same (dget s1 k).t (dget s2 k).t))))) (optVal (zu 24 41 (by kernel_rfl)) rfl rfl)
          clear zu
          refine (show WE _ [(0, .slice pa s1.length ca), (1, .slice pb s2.length cb), (5, .int .i64 (((k : Nat) : Int))), (10, .bool (((((s1.length : Nat) : Int) : Int) != (((s2.length : Nat) : Int) : Int)))), (14, .bool ((decide ((((k : Nat) : Int) : Int) < (((s1.length : Nat) : Int) : Int))))), (41, .bool (((((dget s1 k).var : Int) != ((dget s2 k).var : Int)) || (!(T.same (dget s1 k).t (dget s2 k).t)))))] w17 _ .normal from ?_) za (zh.sub ⟨rfl, rfl, rfl, rfl, rfl, rfl, trivial⟩)
          refine WE.next ?_
          refine WC.cond rfl (fun h19 => ?_) (fun h19 => ?_)
          · have h19 : (((dget s1 k).var : Int) ≠ ((dget s2 k).var : Int)) ∨ (¬ ((T.same (dget s1 k).t (dget s2 k).t) = true)) := by simpa using h19
            refine WC.seq ?_
            refine WC.region ?_
            refine WL.val (.bool false) rfl rfl rfl (fun za zC zh zk => wp_assign rfl (zh.ev rfl) zk) ?_
            refine WL.nil (WE.sub (K' := [(0, .slice pa s1.length ca), (1, .slice pb s2.length cb), (4, .bool false), (5, .int .i64 (((k : Nat) : Int))), (10, .bool (((((s1.length : Nat) : Int) : Int) != (((s2.length : Nat) : Int) : Int)))), (14, .bool ((decide ((((k : Nat) : Int) : Int) < (((s1.length : Nat) : Int) : Int))))), (41, .bool (((((dget s1 k).var : Int) != ((dget s2 k).var : Int)) || (!(T.same (dget s1 k).t (dget s2 k).t)))))]) ⟨rfl, rfl, rfl, rfl, rfl, rfl, rfl, trivial⟩ ?_)
            refine WE.next ?_
            refine WC.ret ?_
            refine WE.blockRet ?_
            refine WE.thenRet ?_
            refine WE.thenRet ?_
            refine WE.blockRet ?_
            refine WE.thenRet ?_
            refine WE.ret1 rfl rfl ?_
            have hb20 : Below w.heap.size w w17 := (bstep hb3 hb18)
            exact ⟨_, rfl, congrArg Value.bool (Eq.symm (subSame_at (fun hh => by have z := h19; simp at z; rcases z with z | z; exact z hh.1; rw [hh.2] at z; cases z))), hb20⟩
          · have h19 : ¬ ((((dget s1 k).var : Int) ≠ ((dget s2 k).var : Int)) ∨ (¬ ((T.same (dget s1 k).t (dget s2 k).t) = true))) := by simpa using h19
            refine WC.skip ?_
            refine WE.blockNormal ?_
            refine WE.next ?_
            refine WC.region ?_
            refine WL.val (.int .i64 (((k : Nat) : Int))) rfl rfl rfl (fun za zC zh zk => wp_move rfl (zh.ev rfl) zk) ?_
            refine WL.val (.int .i64 ((((k + 1) : Nat) : Int))) rfl rfl rfl (fun za zC zh zk => addb_3 rfl (zh.ev rfl) (zh.ev rfl) (wrap_eq (by omega) (by omega) (by omega)) zk) ?_
            refine WL.val (.int .i64 ((((k + 1) : Nat) : Int))) rfl rfl rfl (fun za zC zh zk => wp_assign rfl (zh.ev rfl) zk) ?_
            refine WL.nil (WE.sub (K' := [(0, .slice pa s1.length ca), (1, .slice pb s2.length cb), (5, .int .i64 ((((k + 1) : Nat) : Int))), (10, .bool (((((s1.length : Nat) : Int) : Int) != (((s2.length : Nat) : Int) : Int)))), (14, .bool ((decide ((((k : Nat) : Int) : Int) < (((s1.length : Nat) : Int) : Int))))), (41, .bool (((((dget s1 k).var : Int) != ((dget s2 k).var : Int)) || (!(T.same (dget s1 k).t (dget s2 k).t)))))]) ⟨rfl, rfl, rfl, rfl, rfl, rfl, trivial⟩ ?_)
            refine WE.round (k + 1) ⟨rfl, rfl, rfl, rfl, trivial⟩ ?_ ?_
            · have hb21 : Below w.heap.size w w17 := (bstep hb3 hb18)
              exact ⟨by omega, hE.step (by have z := h19; simp at z; omega) (by have z := h19; simp at z; exact z.2), hb21⟩
            · omega
      · have h4 : ¬ ((((k : Nat) : Int) : Int) < (((s1.length : Nat) : Int) : Int)) := by simpa using h4
        refine WC.exit ?_
        refine WE.thenExit ?_
        refine WE.thenExit ?_
        refine WE.blockIs rfl ?_
        refine WE.next ?_
        refine WC.seq ?_
        refine WC.region ?_
        refine WL.val (.bool true) rfl rfl rfl (fun za zC zh zk => wp_assign rfl (zh.ev rfl) zk) ?_
        refine WL.nil (WE.sub (K' := [(0, .slice pa s1.length ca), (1, .slice pb s2.length cb), (4, .bool true), (5, .int .i64 (((k : Nat) : Int))), (10, .bool (((((s1.length : Nat) : Int) : Int) != (((s2.length : Nat) : Int) : Int)))), (14, .bool ((decide ((((k : Nat) : Int) : Int) < (((s1.length : Nat) : Int) : Int)))))]) ⟨rfl, rfl, rfl, rfl, rfl, rfl, trivial⟩ ?_)
        refine WE.next ?_
        refine WC.ret ?_
        refine WE.ret1 rfl rfl ?_
        exact ⟨_, rfl, congrArg Value.bool (Eq.symm (subSame_all hlen hE (by omega))), hb3⟩

set_option maxRecDepth 100000 in
theorem match_any (p t : T) (w : World) (u v : Value) (hp : IsT w p u) (ht : IsT w t v) (hzp : p.size ≤ 4294967296) (hzt : t.size ≤ 4294967296) : Calls Try.prog 8 #[u, v] w (Ret fun v' w' => MatchIs w w' p t v' ∧ Below w.heap.size w w') := by
  obtain ⟨hfp, pa0, pc0, rfl, _, _, _⟩ := hp.form
  obtain ⟨hft, ta0, tc0, rfl, _, _, _⟩ := ht.form
  have hpI := hp.inT
  have htI := ht.inT
  refine Calls.walk (l := [.agg #[.int .i64 p.f, .slice pa0 p.args.length pc0], .agg #[.int .i64 t.f, .slice ta0 t.args.length tc0]]) Try.func8 rfl (by kernel_rfl) ?_
  refine WC.sub (K' := [(0, .agg #[.int .i64 p.f, .slice pa0 p.args.length pc0]), (1, .agg #[.int .i64 t.f, .slice ta0 t.args.length tc0])]) ⟨rfl, rfl, trivial⟩ ?_
  refine WC.seq ?_
  refine WC.region ?_
  refine WL.step (post := NewBlk w 24 #[.int .i64 p.f, .slice pa0 p.args.length pc0]) rfl rfl rfl (fun za zC zh zk => box_24 rfl (zh.ev rfl) (zk _ _ (newBlk _ _ _))) ?_
  rintro _ w1 ⟨g2, rfl, hg3, hB4, hb5, hz6⟩
  have hl7 : w.heap.size ≤ g2 := by omega
  refine WL.step (post := NewBlk w1 24 #[.int .i64 t.f, .slice ta0 t.args.length tc0]) rfl rfl rfl (fun za zC zh zk => box_24 rfl (zh.ev rfl) (zk _ _ (newBlk _ _ _))) ?_
  rintro _ w8 ⟨g9, rfl, hg10, hB11, hb12, hz13⟩
  have hl14 : g2 < g9 := by have z1 := hB4.lt; omega
  have hl15 : w.heap.size ≤ g9 := by have z2 := (hb5).size; omega
  refine WL.val (.slice none 0 0) rfl rfl rfl (fun za zC zh zk => wp_assign rfl (zh.ev rfl) zk) ?_
  refine WL.val (.bool false) rfl rfl rfl (fun za zC zh zk => wp_assign rfl (zh.ev rfl) zk) ?_
  refine WL.nil (WE.sub (K' := [(0, .agg #[.int .i64 p.f, .slice pa0 p.args.length pc0]), (1, .agg #[.int .i64 t.f, .slice ta0 t.args.length tc0]), (2, .pointer (some ⟨g2, 0, none⟩)), (3, .pointer (some ⟨g9, 0, none⟩)), (4, .slice none 0 0), (5, .bool false)]) ⟨rfl, rfl, rfl, rfl, rfl, rfl, trivial⟩ ?_)
  refine WE.next ?_
  refine WC.seq ?_
  refine WC.region ?_
  have hB16 := hB4.below hb12
  have hl17 : g2 < w8.heap.size := hB16.lt
  have hl18 : w.heap.size ≤ g2 := by have z : w.heap.size ≤ w.heap.size := (Nat.le_refl _); omega
  have hl19 : g9 < w8.heap.size := hB11.lt
  have hl20 : w.heap.size ≤ g9 := by have z : w.heap.size ≤ w1.heap.size := hb5.size; omega
  refine WL.call rfl rfl rfl (fun za zh zC => wp_call (by kernel_rfl) rfl (hv0)) (new_any _) ?_
  rintro _ w21 ⟨⟨gm, C, rfl, hMA, hC⟩, hbn⟩
  have hwa : w.heap.size ≤ w8.heap.size := (Nat.le_trans hb5.size hb12.size)
  refine WL.val (.pointer (some ⟨gm, 0, none⟩)) rfl rfl rfl (fun za zC zh zk => wp_assign rfl (zh.ev rfl) zk) ?_
  refine WL.nil (WE.sub (K' := [(0, .agg #[.int .i64 p.f, .slice pa0 p.args.length pc0]), (1, .agg #[.int .i64 t.f, .slice ta0 t.args.length tc0]), (2, .pointer (some ⟨g2, 0, none⟩)), (3, .pointer (some ⟨g9, 0, none⟩)), (4, .slice none 0 0), (5, .bool false), (6, .pointer (some ⟨gm, 0, none⟩))]) ⟨rfl, rfl, rfl, rfl, rfl, rfl, rfl, trivial⟩ ?_)
  refine WE.next ?_
  refine WC.seq ?_
  refine WC.seq ?_
  refine WC.region ?_
  refine WL.val (.pointer (some ⟨gm, 0, none⟩)) rfl rfl rfl (fun za zC zh zk => wp_move rfl (zh.ev rfl) zk) ?_
  have hB22 := hB16.below hbn
  refine WL.val (.agg #[.int .i64 p.f, .slice pa0 p.args.length pc0]) rfl rfl rfl (fun za zC zh zk => ld_24 rfl (zh.ev rfl) ((hB22.cell 0).trans rfl) ((hB22.cell 1).trans rfl) zk) ?_
  have hB23 := hB11.below hbn
  refine WL.val (.agg #[.int .i64 t.f, .slice ta0 t.args.length tc0]) rfl rfl rfl (fun za zC zh zk => ld_24 rfl (zh.ev rfl) ((hB23.cell 0).trans rfl) ((hB23.cell 1).trans rfl) zk) ?_
  have hb24 : Below w.heap.size w w21 := (bstep (bstep hb5 hb12) hbn)
  refine WL.call rfl rfl rfl (fun za zh zC => wp_call (by kernel_rfl) rfl (hv3 (zh.ev rfl) (zh.ev rfl) (zh.ev rfl))) (term_any p t _ _ _ hMA (InT.below hb24 hpI) (IsT.below hb24 ht) (fun b q q2 => by have z := hC _ q2; omega) hzp hzt (by simp; omega)) ?_
  rintro _ w25 ⟨⟨C2, rfl, hMA2, hC2⟩, hcT⟩
  have hb26 := chg_below hb24 hcT (fun b hb => (fun h => by have z := hC _ h; (try dsimp only at *); omega))
  have hB27 := chg_blk hB22 hcT (fun h => by have z := hC _ h; (try dsimp only at *); omega)
  have hB28 := chg_blk hB23 hcT (fun h => by have z := hC _ h; (try dsimp only at *); omega)
  refine WL.val (.bool ((!(mOk p t [])))) rfl rfl rfl (fun za zC zh zk => wp_not rfl (zh.ev rfl) zk) ?_
  refine WL.nil (WE.sub (K' := [(0, .agg #[.int .i64 p.f, .slice pa0 p.args.length pc0]), (1, .agg #[.int .i64 t.f, .slice ta0 t.args.length tc0]), (2, .pointer (some ⟨g2, 0, none⟩)), (3, .pointer (some ⟨g9, 0, none⟩)), (4, .slice none 0 0), (5, .bool false), (6, .pointer (some ⟨gm, 0, none⟩)), (12, .bool ((!(mOk p t []))))]) ⟨rfl, rfl, rfl, rfl, rfl, rfl, rfl, rfl, trivial⟩ ?_)
  refine WE.next ?_
  refine WC.cond rfl (fun h29 => ?_) (fun h29 => ?_)
  · have h29 : ¬ ((mOk p t []) = true) := by simpa using h29
    refine WC.seq ?_
    refine WC.region ?_
    refine WL.val (.slice none 0 0) rfl rfl rfl (fun za zC zh zk => wp_assign rfl (zh.ev rfl) zk) ?_
    refine WL.val (.bool false) rfl rfl rfl (fun za zC zh zk => wp_assign rfl (zh.ev rfl) zk) ?_
    refine WL.nil (WE.sub (K' := [(0, .agg #[.int .i64 p.f, .slice pa0 p.args.length pc0]), (1, .agg #[.int .i64 t.f, .slice ta0 t.args.length tc0]), (2, .pointer (some ⟨g2, 0, none⟩)), (3, .pointer (some ⟨g9, 0, none⟩)), (4, .slice none 0 0), (5, .bool false), (6, .pointer (some ⟨gm, 0, none⟩)), (12, .bool ((!(mOk p t []))))]) ⟨rfl, rfl, rfl, rfl, rfl, rfl, rfl, rfl, trivial⟩ ?_)
    refine WE.next ?_
    refine WC.ret ?_
    refine WE.thenRet ?_
    refine WE.ret2 rfl rfl rfl ?_
    refine ⟨_, rfl, ?_, hb26⟩
    unfold MatchIs
    rw [if_neg (by simpa using h29)]
  · have h29 : ¬ (¬ ((mOk p t []) = true)) := by simpa using h29
    refine WC.skip ?_
    refine WE.next ?_
    refine WC.seq ?_
    refine WC.region ?_
    refine WL.val (.pointer (some ⟨gm, 0, none⟩)) rfl rfl rfl (fun za zC zh zk => wp_move rfl (zh.ev rfl) zk) ?_
    refine WL.call rfl rfl rfl (fun za zh zC => wp_call (by kernel_rfl) rfl (hv1 (zh.ev rfl))) (msub_any _ hMA2 (by have z := (mTo_take p t []).2.1; simp at z; omega)) ?_
    rintro _ w30 ⟨⟨R, ra, rc, rfl, hSO, hNB⟩, hbs⟩
    refine WL.val (.slice ra R.length rc) rfl rfl rfl (fun za zC zh zk => wp_assign rfl (zh.ev rfl) zk) ?_
    refine WL.val (.bool true) rfl rfl rfl (fun za zC zh zk => wp_assign rfl (zh.ev rfl) zk) ?_
    refine WL.nil (WE.sub (K' := [(0, .agg #[.int .i64 p.f, .slice pa0 p.args.length pc0]), (1, .agg #[.int .i64 t.f, .slice ta0 t.args.length tc0]), (2, .pointer (some ⟨g2, 0, none⟩)), (3, .pointer (some ⟨g9, 0, none⟩)), (4, .slice ra R.length rc), (5, .bool true), (6, .pointer (some ⟨gm, 0, none⟩)), (12, .bool ((!(mOk p t []))))]) ⟨rfl, rfl, rfl, rfl, rfl, rfl, rfl, rfl, trivial⟩ ?_)
    refine WE.next ?_
    refine WC.ret ?_
    refine WE.ret2 rfl rfl rfl ?_
    have hb31 : Below w.heap.size w w30 := (bstep hb26 hbs)
    refine ⟨_, rfl, ?_, hb31⟩
    unfold MatchIs
    rw [if_pos (by simpa using h29)]
    exact ⟨R, _, _, rfl, hSO, (hNB.older hb26.size).below (Below.refl _ _)⟩

set_option maxRecDepth 100000 in
theorem rmatch_any (p t : T) (w : World) (u v : Value) (hp : IsT w p u) (ht : IsT w t v) (hzp : p.size ≤ 4294967296) (hzt : t.size ≤ 4294967296) : Calls Try.prog 9 #[u, v] w (Ret fun v' w' => MatchIs w w' p t v' ∧ Below w.heap.size w w') := by
  obtain ⟨hfp, pa0, pc0, rfl, _, _, _⟩ := hp.form
  obtain ⟨hft, ta0, tc0, rfl, _, _, _⟩ := ht.form
  have hpI := hp.inT
  have htI := ht.inT
  refine Calls.walk (l := [.agg #[.int .i64 p.f, .slice pa0 p.args.length pc0], .agg #[.int .i64 t.f, .slice ta0 t.args.length tc0]]) Try.func9 rfl (by kernel_rfl) ?_
  refine WC.sub (K' := [(0, .agg #[.int .i64 p.f, .slice pa0 p.args.length pc0]), (1, .agg #[.int .i64 t.f, .slice ta0 t.args.length tc0])]) ⟨rfl, rfl, trivial⟩ ?_
  refine WC.seq ?_
  refine WC.region ?_
  refine WL.step (post := NewBlk w 24 #[.int .i64 p.f, .slice pa0 p.args.length pc0]) rfl rfl rfl (fun za zC zh zk => box_24 rfl (zh.ev rfl) (zk _ _ (newBlk _ _ _))) ?_
  rintro _ w1 ⟨g2, rfl, hg3, hB4, hb5, hz6⟩
  have hl7 : w.heap.size ≤ g2 := by omega
  refine WL.step (post := NewBlk w1 24 #[.int .i64 t.f, .slice ta0 t.args.length tc0]) rfl rfl rfl (fun za zC zh zk => box_24 rfl (zh.ev rfl) (zk _ _ (newBlk _ _ _))) ?_
  rintro _ w8 ⟨g9, rfl, hg10, hB11, hb12, hz13⟩
  have hl14 : g2 < g9 := by have z1 := hB4.lt; omega
  have hl15 : w.heap.size ≤ g9 := by have z2 := (hb5).size; omega
  refine WL.val (.slice none 0 0) rfl rfl rfl (fun za zC zh zk => wp_assign rfl (zh.ev rfl) zk) ?_
  refine WL.val (.bool false) rfl rfl rfl (fun za zC zh zk => wp_assign rfl (zh.ev rfl) zk) ?_
  refine WL.nil (WE.sub (K' := [(0, .agg #[.int .i64 p.f, .slice pa0 p.args.length pc0]), (1, .agg #[.int .i64 t.f, .slice ta0 t.args.length tc0]), (2, .pointer (some ⟨g2, 0, none⟩)), (3, .pointer (some ⟨g9, 0, none⟩)), (4, .slice none 0 0), (5, .bool false)]) ⟨rfl, rfl, rfl, rfl, rfl, rfl, trivial⟩ ?_)
  refine WE.next ?_
  refine WC.seq ?_
  refine WC.region ?_
  refine WL.val (.agg #[.slice none 0 0]) rfl rfl rfl (fun za zC zh zk => build_37_ rfl  zk) ?_
  refine WL.step (post := NewBlk w8 37 #[.slice none 0 0]) rfl rfl rfl (fun za zC zh zk => box_37 rfl (zh.ev rfl) (zk _ _ (newBlk _ _ _))) ?_
  rintro _ w16 ⟨g17, rfl, hg18, hB19, hb20, hz21⟩
  have hl22 : g2 < g17 := by have z1 := hB4.lt; have z2 := (hb12).size; omega
  have hl23 : g9 < g17 := by have z1 := hB11.lt; omega
  have hb24 : Below w.heap.size w w8 := (bstep hb5 hb12)
  have hl25 : w.heap.size ≤ g17 := by have z2 := (hb24).size; omega
  refine WL.val (.pointer (some ⟨g17, 0, none⟩)) rfl rfl rfl (fun za zC zh zk => wp_assign rfl (zh.ev rfl) zk) ?_
  refine WL.nil (WE.sub (K' := [(0, .agg #[.int .i64 p.f, .slice pa0 p.args.length pc0]), (1, .agg #[.int .i64 t.f, .slice ta0 t.args.length tc0]), (2, .pointer (some ⟨g2, 0, none⟩)), (3, .pointer (some ⟨g9, 0, none⟩)), (4, .slice none 0 0), (5, .bool false), (6, .pointer (some ⟨g17, 0, none⟩))]) ⟨rfl, rfl, rfl, rfl, rfl, rfl, rfl, trivial⟩ ?_)
  refine WE.next ?_
  refine WC.seq ?_
  refine WC.seq ?_
  have hb27 : Below w1.heap.size w1 w16 := (bstep hb12 hb20)
  have hB26 := hB4.below hb27
  have hl28 : g2 < w16.heap.size := hB26.lt
  have hl29 : w.heap.size ≤ g2 := by have z : w.heap.size ≤ w.heap.size := (Nat.le_refl _); omega
  have hB30 := hB11.below hb20
  have hl31 : g9 < w16.heap.size := hB30.lt
  have hl32 : w.heap.size ≤ g9 := by have z : w.heap.size ≤ w1.heap.size := hb5.size; omega
  have hl33 : g17 < w16.heap.size := hB19.lt
  have hl34 : w.heap.size ≤ g17 := by have z : w.heap.size ≤ w8.heap.size := hb24.size; omega
  have hMA : RefAt w16 g17 [] (fun b => b = g17) := ⟨_, _, RefIn.start hB19⟩
  have hC : ∀ b, (fun b => b = g17) b → w.heap.size ≤ b := fun b q => by (try dsimp only at q); omega
  have hne35 : g2 ≠ g17 := by omega
  have hne36 : g9 ≠ g17 := by omega
  refine WC.region ?_
  refine WL.val (.pointer (some ⟨g17, 0, none⟩)) rfl rfl rfl (fun za zC zh zk => wp_move rfl (zh.ev rfl) zk) ?_
  refine WL.val (.agg #[.int .i64 p.f, .slice pa0 p.args.length pc0]) rfl rfl rfl (fun za zC zh zk => ld_24 rfl (zh.ev rfl) ((hB26.cell 0).trans rfl) ((hB26.cell 1).trans rfl) zk) ?_
  refine WL.val (.agg #[.int .i64 t.f, .slice ta0 t.args.length tc0]) rfl rfl rfl (fun za zC zh zk => ld_24 rfl (zh.ev rfl) ((hB30.cell 0).trans rfl) ((hB30.cell 1).trans rfl) zk) ?_
  have hb37 : Below w.heap.size w w16 := (bstep hb5 hb27)
  refine WL.call rfl rfl rfl (fun za zh zC => wp_call (by kernel_rfl) rfl (hv3 (zh.ev rfl) (zh.ev rfl) (zh.ev rfl))) (rTerm_any p t hMA (InT.below hb37 hpI) (InT.below hb37 htI) (fun b q q2 => by have z := hC _ q2; omega) hzp hzt (by simp; omega)) ?_
  rintro _ w38 ⟨⟨C2, rfl, hMA2, hC2⟩, hcT⟩
  have hb39 := chg_below hb37 hcT (fun b hb => (fun h => by have z := hC _ h; (try dsimp only at *); omega))
  have hB40 := chg_blk hB26 hcT (fun h => by have z := hC _ h; (try dsimp only at *); omega)
  have hB41 := chg_blk hB30 hcT (fun h => by have z := hC _ h; (try dsimp only at *); omega)
  refine WL.val (.bool ((!(mOk p t [])))) rfl rfl rfl (fun za zC zh zk => wp_not rfl (zh.ev rfl) zk) ?_
  refine WL.nil (WE.sub (K' := [(0, .agg #[.int .i64 p.f, .slice pa0 p.args.length pc0]), (1, .agg #[.int .i64 t.f, .slice ta0 t.args.length tc0]), (2, .pointer (some ⟨g2, 0, none⟩)), (3, .pointer (some ⟨g9, 0, none⟩)), (4, .slice none 0 0), (5, .bool false), (6, .pointer (some ⟨g17, 0, none⟩)), (13, .bool ((!(mOk p t []))))]) ⟨rfl, rfl, rfl, rfl, rfl, rfl, rfl, rfl, trivial⟩ ?_)
  refine WE.next ?_
  refine WC.cond rfl (fun h42 => ?_) (fun h42 => ?_)
  · have h42 : ¬ ((mOk p t []) = true) := by simpa using h42
    refine WC.seq ?_
    refine WC.region ?_
    refine WL.val (.slice none 0 0) rfl rfl rfl (fun za zC zh zk => wp_assign rfl (zh.ev rfl) zk) ?_
    refine WL.val (.bool false) rfl rfl rfl (fun za zC zh zk => wp_assign rfl (zh.ev rfl) zk) ?_
    refine WL.nil (WE.sub (K' := [(0, .agg #[.int .i64 p.f, .slice pa0 p.args.length pc0]), (1, .agg #[.int .i64 t.f, .slice ta0 t.args.length tc0]), (2, .pointer (some ⟨g2, 0, none⟩)), (3, .pointer (some ⟨g9, 0, none⟩)), (4, .slice none 0 0), (5, .bool false), (6, .pointer (some ⟨g17, 0, none⟩)), (13, .bool ((!(mOk p t []))))]) ⟨rfl, rfl, rfl, rfl, rfl, rfl, rfl, rfl, trivial⟩ ?_)
    refine WE.next ?_
    refine WC.ret ?_
    refine WE.thenRet ?_
    refine WE.ret2 rfl rfl rfl ?_
    refine ⟨_, rfl, ?_, hb39⟩
    unfold MatchIs
    rw [if_neg (by simpa using h42)]
  · have h42 : ¬ (¬ ((mOk p t []) = true)) := by simpa using h42
    refine WC.skip ?_
    refine WE.next ?_
    refine WC.seq ?_
    refine WC.region ?_
    refine WL.val (.pointer (some ⟨g17, 0, none⟩)) rfl rfl rfl (fun za zC zh zk => wp_move rfl (zh.ev rfl) zk) ?_
    refine WL.call rfl rfl rfl (fun za zh zC => wp_call (by kernel_rfl) rfl (hv1 (zh.ev rfl))) (rsub_any _ hMA2 (mTo_nd p t List.nodup_nil) (by have z := (mTo_take p t []).2.1; simp at z; omega)) ?_
    rintro _ w43 ⟨⟨R, ra, rc, rfl, hSO, hNB⟩, hbs⟩
    refine WL.val (.slice ra R.length rc) rfl rfl rfl (fun za zC zh zk => wp_assign rfl (zh.ev rfl) zk) ?_
    refine WL.val (.bool true) rfl rfl rfl (fun za zC zh zk => wp_assign rfl (zh.ev rfl) zk) ?_
    refine WL.nil (WE.sub (K' := [(0, .agg #[.int .i64 p.f, .slice pa0 p.args.length pc0]), (1, .agg #[.int .i64 t.f, .slice ta0 t.args.length tc0]), (2, .pointer (some ⟨g2, 0, none⟩)), (3, .pointer (some ⟨g9, 0, none⟩)), (4, .slice ra R.length rc), (5, .bool true), (6, .pointer (some ⟨g17, 0, none⟩)), (13, .bool ((!(mOk p t []))))]) ⟨rfl, rfl, rfl, rfl, rfl, rfl, rfl, rfl, trivial⟩ ?_)
    refine WE.next ?_
    refine WC.ret ?_
    refine WE.ret2 rfl rfl rfl ?_
    have hb44 : Below w.heap.size w w43 := (bstep hb39 hbs)
    refine ⟨_, rfl, ?_, hb44⟩
    unfold MatchIs
    rw [if_pos (by simpa using h42)]
    exact ⟨R, _, _, rfl, hSO, (hNB.older hb39.size).below (Below.refl _ _)⟩

set_option maxRecDepth 100000 in
theorem rvariant_any (p t : T) (w : World) (u v : Value) (hp : IsT w p u) (ht : IsT w t v) (hzp : p.size ≤ 4294967296) (hzt : t.size ≤ 4294967296) : Calls Try.prog 12 #[u, v] w (Ret fun v' w' => v' = .bool (varB p t) ∧ Below w.heap.size w w') := by
  obtain ⟨hfp, pa0, pc0, rfl, _, _, _⟩ := hp.form
  obtain ⟨hft, ta0, tc0, rfl, _, _, _⟩ := ht.form
  have hpI := hp.inT
  have htI := ht.inT
  refine Calls.walk (l := [.agg #[.int .i64 p.f, .slice pa0 p.args.length pc0], .agg #[.int .i64 t.f, .slice ta0 t.args.length tc0]]) Try.func12 rfl (by kernel_rfl) ?_
  refine WC.sub (K' := [(0, .agg #[.int .i64 p.f, .slice pa0 p.args.length pc0]), (1, .agg #[.int .i64 t.f, .slice ta0 t.args.length tc0])]) ⟨rfl, rfl, trivial⟩ ?_
  refine WC.seq ?_
  refine WC.region ?_
  refine WL.step (post := NewBlk w 24 #[.int .i64 p.f, .slice pa0 p.args.length pc0]) rfl rfl rfl (fun za zC zh zk => box_24 rfl (zh.ev rfl) (zk _ _ (newBlk _ _ _))) ?_
  rintro _ w1 ⟨g2, rfl, hg3, hB4, hb5, hz6⟩
  have hl7 : w.heap.size ≤ g2 := by omega
  refine WL.step (post := NewBlk w1 24 #[.int .i64 t.f, .slice ta0 t.args.length tc0]) rfl rfl rfl (fun za zC zh zk => box_24 rfl (zh.ev rfl) (zk _ _ (newBlk _ _ _))) ?_
  rintro _ w8 ⟨g9, rfl, hg10, hB11, hb12, hz13⟩
  have hl14 : g2 < g9 := by have z1 := hB4.lt; omega
  have hl15 : w.heap.size ≤ g9 := by have z2 := (hb5).size; omega
  refine WL.val (.bool false) rfl rfl rfl (fun za zC zh zk => wp_assign rfl (zh.ev rfl) zk) ?_
  refine WL.nil (WE.sub (K' := [(0, .agg #[.int .i64 p.f, .slice pa0 p.args.length pc0]), (1, .agg #[.int .i64 t.f, .slice ta0 t.args.length tc0]), (2, .pointer (some ⟨g2, 0, none⟩)), (3, .pointer (some ⟨g9, 0, none⟩)), (4, .bool false)]) ⟨rfl, rfl, rfl, rfl, rfl, trivial⟩ ?_)
  refine WE.next ?_
  refine WC.seq ?_
  refine WC.region ?_
  have hB16 := hB4.below hb12
  refine WL.val (.agg #[.int .i64 p.f, .slice pa0 p.args.length pc0]) rfl rfl rfl (fun za zC zh zk => ld_24 rfl (zh.ev rfl) ((hB16.cell 0).trans rfl) ((hB16.cell 1).trans rfl) zk) ?_
  refine WL.val (.agg #[.int .i64 t.f, .slice ta0 t.args.length tc0]) rfl rfl rfl (fun za zC zh zk => ld_24 rfl (zh.ev rfl) ((hB11.cell 0).trans rfl) ((hB11.cell 1).trans rfl) zk) ?_
  have hb23 : Below w.heap.size w w8 := (bstep hb5 hb12)
  refine WL.call rfl rfl rfl (fun za zh zC => wp_call (by kernel_rfl) rfl (hv2 (zh.ev rfl) (zh.ev rfl))) (rmatch_any p t _ _ _ (IsT.below hb23 hp) (IsT.below hb23 ht) hzp hzt) ?_
  rintro v21 w24 ⟨hm22, hb20⟩
  obtain ⟨x17, n18, c19, rfl⟩ := hm22.form
  refine WL.val (.tuple #[.slice x17 n18 c19, .bool ((mOk p t []))]) rfl rfl rfl (fun za zC zh zk => wp_move rfl (zh.ev rfl) zk) ?_
  refine WL.val (.slice x17 n18 c19) rfl rfl rfl (fun za zC zh zk => ext2_0 rfl (zh.ev rfl) zk) ?_
  refine WL.val (.bool ((mOk p t []))) rfl rfl rfl (fun za zC zh zk => ext2_1 rfl (zh.ev rfl) zk) ?_
  refine WL.val (.slice x17 n18 c19) rfl rfl rfl (fun za zC zh zk => wp_assign rfl (zh.ev rfl) zk) ?_
  refine WL.val (.bool ((mOk p t []))) rfl rfl rfl (fun za zC zh zk => wp_assign rfl (zh.ev rfl) zk) ?_
  refine WL.nil (WE.sub (K' := [(0, .agg #[.int .i64 p.f, .slice pa0 p.args.length pc0]), (1, .agg #[.int .i64 t.f, .slice ta0 t.args.length tc0]), (2, .pointer (some ⟨g2, 0, none⟩)), (3, .pointer (some ⟨g9, 0, none⟩)), (4, .bool false), (6, .bool ((mOk p t [])))]) ⟨rfl, rfl, rfl, rfl, rfl, rfl, trivial⟩ ?_)
  refine WE.next ?_
  refine WC.seq ?_
  refine WC.region ?_
  have hB25 := hB11.below hb20
  refine WL.val (.agg #[.int .i64 t.f, .slice ta0 t.args.length tc0]) rfl rfl rfl (fun za zC zh zk => ld_24 rfl (zh.ev rfl) ((hB25.cell 0).trans rfl) ((hB25.cell 1).trans rfl) zk) ?_
  have hB26 := hB16.below hb20
  refine WL.val (.agg #[.int .i64 p.f, .slice pa0 p.args.length pc0]) rfl rfl rfl (fun za zC zh zk => ld_24 rfl (zh.ev rfl) ((hB26.cell 0).trans rfl) ((hB26.cell 1).trans rfl) zk) ?_
  have hb33 : Below w.heap.size w w24 := (bstep hb23 hb20)
  refine WL.call rfl rfl rfl (fun za zh zC => wp_call (by kernel_rfl) rfl (hv2 (zh.ev rfl) (zh.ev rfl))) (rmatch_any t p _ _ _ (IsT.below hb33 ht) (IsT.below hb33 hp) hzt hzp) ?_
  rintro v31 w34 ⟨hm32, hb30⟩
  obtain ⟨x27, n28, c29, rfl⟩ := hm32.form
  refine WL.val (.tuple #[.slice x27 n28 c29, .bool ((mOk t p []))]) rfl rfl rfl (fun za zC zh zk => wp_move rfl (zh.ev rfl) zk) ?_
  refine WL.val (.slice x27 n28 c29) rfl rfl rfl (fun za zC zh zk => ext2_0 rfl (zh.ev rfl) zk) ?_
  refine WL.val (.bool ((mOk t p []))) rfl rfl rfl (fun za zC zh zk => ext2_1 rfl (zh.ev rfl) zk) ?_
  refine WL.val (.slice x27 n28 c29) rfl rfl rfl (fun za zC zh zk => wp_assign rfl (zh.ev rfl) zk) ?_
  refine WL.val (.bool ((mOk t p []))) rfl rfl rfl (fun za zC zh zk => wp_assign rfl (zh.ev rfl) zk) ?_
  refine WL.nil (WE.sub (K' := [(0, .agg #[.int .i64 p.f, .slice pa0 p.args.length pc0]), (1, .agg #[.int .i64 t.f, .slice ta0 t.args.length tc0]), (2, .pointer (some ⟨g2, 0, none⟩)), (3, .pointer (some ⟨g9, 0, none⟩)), (4, .bool false), (6, .bool ((mOk p t []))), (8, .bool ((mOk t p [])))]) ⟨rfl, rfl, rfl, rfl, rfl, rfl, rfl, trivial⟩ ?_)
  refine WE.next ?_
  refine WC.seq ?_
  refine WC.region ?_
  refine WL.val (.bool ((mOk p t []))) rfl rfl rfl (fun za zC zh zk => wp_move rfl (zh.ev rfl) zk) ?_
  refine WL.val (.bool ((mOk p t []))) rfl rfl rfl (fun za zC zh zk => wp_move rfl (zh.ev rfl) zk) ?_
  refine bool_split ((mOk p t [])) (fun h35 => ?_) (fun h35 => ?_)
  · refine WL.sub (K' := [(0, .agg #[.int .i64 p.f, .slice pa0 p.args.length pc0]), (1, .agg #[.int .i64 t.f, .slice ta0 t.args.length tc0]), (2, .pointer (some ⟨g2, 0, none⟩)), (3, .pointer (some ⟨g9, 0, none⟩)), (4, .bool false), (6, .bool ((mOk p t []))), (8, .bool ((mOk t p []))), (21, .bool ((mOk p t []))), (22, .bool true)]) ⟨rfl, rfl, rfl, rfl, rfl, rfl, rfl, rfl, (by exact congrArg (fun z => some (Value.bool z)) h35), trivial⟩ ?_
    refine WL.want (d := 22) rfl rfl rfl ?_
    refine WL.val (.bool ((mOk t p []))) rfl rfl rfl (fun za zC zh zk => wp_move rfl (zh.ev rfl) zk) ?_
    refine WL.val (.bool ((mOk t p []))) rfl rfl rfl (fun za zC zh zk => wp_pickT rfl (zh.ev rfl) (zh.ev rfl) zk) ?_
    refine WL.val (.bool ((mOk t p []))) rfl rfl rfl (fun za zC zh zk => wp_assign rfl (zh.ev rfl) zk) ?_
    refine WL.nil (WE.sub (K' := [(0, .agg #[.int .i64 p.f, .slice pa0 p.args.length pc0]), (1, .agg #[.int .i64 t.f, .slice ta0 t.args.length tc0]), (2, .pointer (some ⟨g2, 0, none⟩)), (3, .pointer (some ⟨g9, 0, none⟩)), (4, .bool ((mOk t p []))), (6, .bool ((mOk p t []))), (8, .bool ((mOk t p [])))]) ⟨rfl, rfl, rfl, rfl, rfl, rfl, rfl, trivial⟩ ?_)
    refine WE.next ?_
    refine WC.ret ?_
    refine WE.ret1 rfl rfl ?_
    have hb36 : Below w.heap.size w w34 := (bstep hb33 hb30)
    exact ⟨_, rfl, congrArg Value.bool (by unfold varB; (try simp); (try simp_all)), hb36⟩
  · refine WL.sub (K' := [(0, .agg #[.int .i64 p.f, .slice pa0 p.args.length pc0]), (1, .agg #[.int .i64 t.f, .slice ta0 t.args.length tc0]), (2, .pointer (some ⟨g2, 0, none⟩)), (3, .pointer (some ⟨g9, 0, none⟩)), (4, .bool false), (6, .bool ((mOk p t []))), (8, .bool ((mOk t p []))), (21, .bool ((mOk p t []))), (22, .bool false)]) ⟨rfl, rfl, rfl, rfl, rfl, rfl, rfl, rfl, (by exact congrArg (fun z => some (Value.bool z)) h35), trivial⟩ ?_
    refine WL.skip (d := 22) rfl rfl rfl rfl rfl ?_
    refine WL.val (.bool false) rfl rfl rfl (fun za zC zh zk => wp_pickF rfl (zh.ev rfl) (zh.ev rfl) zk) ?_
    refine WL.val (.bool false) rfl rfl rfl (fun za zC zh zk => wp_assign rfl (zh.ev rfl) zk) ?_
    refine WL.nil (WE.sub (K' := [(0, .agg #[.int .i64 p.f, .slice pa0 p.args.length pc0]), (1, .agg #[.int .i64 t.f, .slice ta0 t.args.length tc0]), (2, .pointer (some ⟨g2, 0, none⟩)), (3, .pointer (some ⟨g9, 0, none⟩)), (4, .bool false), (6, .bool ((mOk p t []))), (8, .bool ((mOk t p [])))]) ⟨rfl, rfl, rfl, rfl, rfl, rfl, rfl, trivial⟩ ?_)
    refine WE.next ?_
    refine WC.ret ?_
    refine WE.ret1 rfl rfl ?_
    have hb37 : Below w.heap.size w w34 := (bstep hb33 hb30)
    exact ⟨_, rfl, congrArg Value.bool (by unfold varB; (try simp); (try simp_all)), hb37⟩

set_option maxRecDepth 100000 in
theorem variant_any (p t : T) (w : World) (u v : Value) (hp : IsT w p u) (ht : IsT w t v) (hzp : p.size ≤ 4294967296) (hzt : t.size ≤ 4294967296) : Calls Try.prog 11 #[u, v] w (Ret fun v' w' => v' = .bool (varB p t) ∧ Below w.heap.size w w') := by
  obtain ⟨hfp, pa0, pc0, rfl, _, _, _⟩ := hp.form
  obtain ⟨hft, ta0, tc0, rfl, _, _, _⟩ := ht.form
  have hpI := hp.inT
  have htI := ht.inT
  refine Calls.walk (l := [.agg #[.int .i64 p.f, .slice pa0 p.args.length pc0], .agg #[.int .i64 t.f, .slice ta0 t.args.length tc0]]) Try.func11 rfl (by kernel_rfl) ?_
  refine WC.sub (K' := [(0, .agg #[.int .i64 p.f, .slice pa0 p.args.length pc0]), (1, .agg #[.int .i64 t.f, .slice ta0 t.args.length tc0])]) ⟨rfl, rfl, trivial⟩ ?_
  refine WC.seq ?_
  refine WC.region ?_
  refine WL.step (post := NewBlk w 24 #[.int .i64 p.f, .slice pa0 p.args.length pc0]) rfl rfl rfl (fun za zC zh zk => box_24 rfl (zh.ev rfl) (zk _ _ (newBlk _ _ _))) ?_
  rintro _ w1 ⟨g2, rfl, hg3, hB4, hb5, hz6⟩
  have hl7 : w.heap.size ≤ g2 := by omega
  refine WL.step (post := NewBlk w1 24 #[.int .i64 t.f, .slice ta0 t.args.length tc0]) rfl rfl rfl (fun za zC zh zk => box_24 rfl (zh.ev rfl) (zk _ _ (newBlk _ _ _))) ?_
  rintro _ w8 ⟨g9, rfl, hg10, hB11, hb12, hz13⟩
  have hl14 : g2 < g9 := by have z1 := hB4.lt; omega
  have hl15 : w.heap.size ≤ g9 := by have z2 := (hb5).size; omega
  refine WL.val (.bool false) rfl rfl rfl (fun za zC zh zk => wp_assign rfl (zh.ev rfl) zk) ?_
  refine WL.nil (WE.sub (K' := [(0, .agg #[.int .i64 p.f, .slice pa0 p.args.length pc0]), (1, .agg #[.int .i64 t.f, .slice ta0 t.args.length tc0]), (2, .pointer (some ⟨g2, 0, none⟩)), (3, .pointer (some ⟨g9, 0, none⟩)), (4, .bool false)]) ⟨rfl, rfl, rfl, rfl, rfl, trivial⟩ ?_)
  refine WE.next ?_
  refine WC.seq ?_
  have hB16 := hB4.below hb12
  have hl17 : g2 < w8.heap.size := hB16.lt
  have hl18 : w.heap.size ≤ g2 := by have z : w.heap.size ≤ w.heap.size := (Nat.le_refl _); omega
  have hl19 : g9 < w8.heap.size := hB11.lt
  have hl20 : w.heap.size ≤ g9 := by have z : w.heap.size ≤ w1.heap.size := hb5.size; omega
  have hb21 : Below w.heap.size w w8 := (bstep hb5 hb12)
  have hw01 := (hb21).size
  have hpI1 := InT.below hb21 hpI
  have htI1 := InT.below hb21 htI
  have hGV9 : ∀ (vals : List Value) (w w' : World), Below w.heap.size w w' → (fun vals wz => match vals with | [] => True | [z0] => ∃ g C, z0 = .pointer (some ⟨g, 0, none⟩) ∧ MatAt wz g [] C ∧ ∀ b, C b → w8.heap.size ≤ b | [_, _] => True | [_, _, z2] => ((mOk p t []) = true → ∃ g C, z2 = .pointer (some ⟨g, 0, none⟩) ∧ MatAt wz g [] C ∧ ∀ b, C b → w8.heap.size ≤ b) | [_, _, _, _] => True | _ => False) vals w → (fun vals wz => match vals with | [] => True | [z0] => ∃ g C, z0 = .pointer (some ⟨g, 0, none⟩) ∧ MatAt wz g [] C ∧ ∀ b, C b → w8.heap.size ≤ b | [_, _] => True | [_, _, z2] => ((mOk p t []) = true → ∃ g C, z2 = .pointer (some ⟨g, 0, none⟩) ∧ MatAt wz g [] C ∧ ∀ b, C b → w8.heap.size ≤ b) | [_, _, _, _] => True | _ => False) vals w' := by
    intro vals w w' hb h
    match vals, h with
    | [], _ => trivial
    | [z0], h =>
      obtain ⟨g, C, e, h1, h2⟩ := h
      exact ⟨g, C, e, h1.below hb, h2⟩
    | [_, _], _ => trivial
    | [_, _, z2], h =>
      exact fun e9 => by
        obtain ⟨g, C, e, h1, h2⟩ := h e9
        exact ⟨g, C, e, h1.below hb, h2⟩
    | [_, _, _, _], _ => trivial
  refine WC.seqV (S := ((fun b => w8.heap.size ≤ b))) [(true, .val undef), (true, .val (.agg #[.int .i64 p.f, .slice pa0 p.args.length pc0])), (true, .val (.agg #[.int .i64 t.f, .slice ta0 t.args.length tc0])), (true, .val undef), (true, .val (.bool ((mOk p t [])))), (true, .val undef), ((true && (mOk p t [])), .val (.agg #[.int .i64 t.f, .slice ta0 t.args.length tc0])), ((true && (mOk p t [])), .val (.agg #[.int .i64 p.f, .slice pa0 p.args.length pc0])), (true, .val undef), (true, .val (.bool (((mOk p t []) && (mOk t p []))))), (true, .val (.bool (((mOk p t []) && (mOk t p [])))))] [(0, .agg #[.int .i64 p.f, .slice pa0 p.args.length pc0]), (1, .agg #[.int .i64 t.f, .slice ta0 t.args.length tc0]), (2, .pointer (some ⟨g2, 0, none⟩)), (3, .pointer (some ⟨g9, 0, none⟩))] [0, 3, 5, 8] [none, some (true, .bool ((mOk p t []))), none, some ((true && (mOk p t [])), .bool ((mOk t p [])))] (fun vals wz => match vals with | [] => True | [z0] => ∃ g C, z0 = .pointer (some ⟨g, 0, none⟩) ∧ MatAt wz g [] C ∧ ∀ b, C b → w8.heap.size ≤ b | [_, _] => True | [_, _, z2] => ((mOk p t []) = true → ∃ g C, z2 = .pointer (some ⟨g, 0, none⟩) ∧ MatAt wz g [] C ∧ ∀ b, C b → w8.heap.size ≤ b) | [_, _, _, _] => True | _ => False) hGV9 (by decide) ⟨rfl, rfl, rfl, rfl, trivial⟩ (by kernel_rfl) (by kernel_rfl) (by kernel_rfl) (by kernel_rfl) trivial ?_ ?_
  · refine ⟨.inr ⟨0, rfl, by kernel_rfl, true, .none rfl, (fun gg b h => by cases h), (fun h => (nomatch h)), fun zβ za zw zvals zc => ?_⟩, ?_⟩
    · obtain rfl := vlen0 zc.len
      have zn := zc.now
      exact wp_call (by kernel_rfl) rfl (hv0) (new_any _) (fun v w' h => by obtain ⟨⟨gm, C, rfl, k2, k3⟩, k4⟩ := h; exact ⟨_, rfl, .ofBelow k4, ⟨gm, C, rfl, k2, fun b q => by have z := k3 b q; have z2 := zc.chg.size; omega⟩, cvNo⟩)
    refine ⟨.inl ⟨rfl, true, .none rfl, (fun gg b h => by cases h), fun h w => optUndef h, fun zβ za zw zc => ?_⟩, ?_⟩
    · exact ld_24 rfl (zc.kn.ev rfl) (chg_cell zc.chg (by (try dsimp only at *); omega) ((hB16.cell 0).trans rfl)) (chg_cell zc.chg (by (try dsimp only at *); omega) ((hB16.cell 1).trans rfl)) ⟨_, rfl, Below.refl _ _, optDef zβ rfl⟩
    refine ⟨.inl ⟨rfl, true, .none rfl, (fun gg b h => by cases h), fun h w => optUndef h, fun zβ za zw zc => ?_⟩, ?_⟩
    · exact ld_24 rfl (zc.kn.ev rfl) (chg_cell zc.chg (by (try dsimp only at *); omega) ((hB11.cell 0).trans rfl)) (chg_cell zc.chg (by (try dsimp only at *); omega) ((hB11.cell 1).trans rfl)) ⟨_, rfl, Below.refl _ _, optDef zβ rfl⟩
    refine ⟨.inr ⟨1, rfl, by kernel_rfl, true, .none rfl, (fun gg b h => by cases h), (fun h => (nomatch h)), fun zβ za zw zvals zc => ?_⟩, ?_⟩
    · obtain ⟨z0, rfl⟩ := vlen1 zc.len
      have zn := zc.now
      obtain ⟨gm, C, e0, k2, k3⟩ := zn
      have hv0 : za.tmps.getD 5 undef = .pointer (some ⟨gm, 0, none⟩) := (Option.some.inj (zc.val 0 0 5 rfl (by kernel_rfl))).symm.trans e0
      exact wp_call (by kernel_rfl) rfl (hv3 ((show za.eval (.tmp 5) = za.tmps.getD 5 undef from rfl).trans hv0) ((show za.eval (.tmp 6) = za.tmps.getD 6 undef from rfl).trans (optSVal (zc.dep 1 6 (by kernel_rfl) (by decide)) rfl rfl)) ((show za.eval (.tmp 7) = za.tmps.getD 7 undef from rfl).trans (optSVal (zc.dep 2 7 (by kernel_rfl) (by decide)) rfl rfl))) (term_any p t _ _ _ k2 (hpI1.chg zc.chg (fun b q e => by (try dsimp only at *); omega)) (htI1.chg zc.chg (fun b q e => by (try dsimp only at *); omega)).isT (fun b q q2 => by have z := k3 _ q2; omega) hzp hzt (by simp; omega)) (fun v w' h => by obtain ⟨⟨C2, rfl, _, _⟩, k5⟩ := h; exact ⟨_, rfl, k5.mono k3, trivial, cvIs rfl⟩)
    refine ⟨.inl ⟨rfl, true, .none rfl, (fun gg b h => by cases h), fun h w => optUndef h, fun zβ za zw zc => ?_⟩, ?_⟩
    · exact wp_move rfl ((show za.eval (.tmp 8) = za.tmps.getD 8 undef from rfl).trans (zc.link 1 3 8 _ _ rfl (by kernel_rfl) rfl rfl)) ⟨_, rfl, Below.refl _ _, optDef zβ rfl⟩
    refine ⟨.inr ⟨2, rfl, by kernel_rfl, (true && (mOk p t [])), .yes (c := (mOk p t [])) (d := true) rfl (fun v w h => h), (fun gg b h => by cases h; rfl), (fun h w vals hl h2 => by obtain ⟨z0, z1, rfl⟩ := vlen2 hl; exact ⟨fun e => (by rw [e] at h; cases h), cvNo⟩), fun zβ za zw zvals zc => ?_⟩, ?_⟩
    · obtain ⟨z0, z1, rfl⟩ := vlen2 zc.len
      have zn := zc.now
      exact wp_call (by kernel_rfl) rfl (hv0) (new_any _) (fun v w' h => by obtain ⟨⟨gm, C, rfl, k2, k3⟩, k4⟩ := h; exact ⟨_, rfl, .ofBelow k4, fun _ => ⟨gm, C, rfl, k2, fun b q => by have z := k3 b q; have z2 := zc.chg.size; omega⟩, cvNo⟩)
    refine ⟨.inl ⟨rfl, (true && (mOk p t [])), .yes (c := (mOk p t [])) (d := true) rfl (fun v w h => h), (fun gg b h => by cases h; rfl), fun h w => optUndef h, fun zβ za zw zc => ?_⟩, ?_⟩
    · exact ld_24 rfl (zc.kn.ev rfl) (chg_cell zc.chg (by (try dsimp only at *); omega) ((hB11.cell 0).trans rfl)) (chg_cell zc.chg (by (try dsimp only at *); omega) ((hB11.cell 1).trans rfl)) ⟨_, rfl, Below.refl _ _, optDef zβ rfl⟩
    refine ⟨.inl ⟨rfl, (true && (mOk p t [])), .yes (c := (mOk p t [])) (d := true) rfl (fun v w h => h), (fun gg b h => by cases h; rfl), fun h w => optUndef h, fun zβ za zw zc => ?_⟩, ?_⟩
    · exact ld_24 rfl (zc.kn.ev rfl) (chg_cell zc.chg (by (try dsimp only at *); omega) ((hB16.cell 0).trans rfl)) (chg_cell zc.chg (by (try dsimp only at *); omega) ((hB16.cell 1).trans rfl)) ⟨_, rfl, Below.refl _ _, optDef zβ rfl⟩
    refine ⟨.inr ⟨3, rfl, by kernel_rfl, (true && (mOk p t [])), .yes (c := (mOk p t [])) (d := true) rfl (fun v w h => h), (fun gg b h => by cases h; rfl), (fun h w vals hl h2 => by obtain ⟨z0, z1, z2, rfl⟩ := vlen3 hl; exact ⟨trivial, cvOff h⟩), fun zβ za zw zvals zc => ?_⟩, ?_⟩
    · obtain ⟨z0, z1, z2, rfl⟩ := vlen3 zc.len
      have zn := zc.now
      obtain ⟨gm, C, e0, k2, k3⟩ := zn (by simpa using zβ)
      have hv0 : za.tmps.getD 10 undef = .pointer (some ⟨gm, 0, none⟩) := (Option.some.inj (zc.val 2 5 10 rfl (by kernel_rfl))).symm.trans e0
      exact wp_call (by kernel_rfl) rfl (hv3 ((show za.eval (.tmp 10) = za.tmps.getD 10 undef from rfl).trans hv0) ((show za.eval (.tmp 11) = za.tmps.getD 11 undef from rfl).trans (optSVal (zc.dep 6 11 (by kernel_rfl) (by decide)) rfl zβ)) ((show za.eval (.tmp 12) = za.tmps.getD 12 undef from rfl).trans (optSVal (zc.dep 7 12 (by kernel_rfl) (by decide)) rfl zβ))) (term_any t p _ _ _ k2 (htI1.chg zc.chg (fun b q e => by (try dsimp only at *); omega)) (hpI1.chg zc.chg (fun b q e => by (try dsimp only at *); omega)).isT (fun b q q2 => by have z := k3 _ q2; omega) hzt hzp (by simp; omega)) (fun v w' h => by obtain ⟨⟨C2, rfl, _, _⟩, k5⟩ := h; exact ⟨_, rfl, k5.mono k3, trivial, cvIs rfl⟩)
    refine ⟨.inl ⟨rfl, true, .none rfl, (fun gg b h => by cases h), fun h w => optUndef h, fun zβ za zw zc => ?_⟩, ?_⟩
    · exact wp_and rfl ((show za.eval (.tmp 9) = za.tmps.getD 9 undef from rfl).trans (optSVal (zc.dep 4 9 (by kernel_rfl) (by decide)) rfl rfl)) (fun hp => ((show za.eval (.tmp 13) = za.tmps.getD 13 undef from rfl).trans (zc.link 3 8 13 _ _ rfl (by kernel_rfl) rfl (bMk zβ hp)))) ⟨_, rfl, Below.refl _ _, optDef zβ rfl⟩
    refine ⟨.inl ⟨rfl, true, .none rfl, (fun gg b h => by cases h), fun h w => optUndef h, fun zβ za zw zc => ?_⟩, ?_⟩
    · exact wp_assign rfl ((show za.eval (.tmp 14) = za.tmps.getD 14 undef from rfl).trans (optSVal (zc.dep 9 14 (by kernel_rfl) (by decide)) rfl rfl)) ⟨_, rfl, Below.refl _ _, optDef zβ rfl⟩
    exact trivial
  · intro za w22 zvals zh zl hG23 hc24 zu zw zk
    obtain ⟨z0, z1, z2, z3, rfl⟩ := vlen4 zl
    have zh := zh.cons (d := 4) (v := .bool (((mOk p t []) && (mOk t p [])))) (optSVal (zu 10 4 (by kernel_rfl) (by decide)) rfl rfl)
    have hb25 := chg_below hb21 hc24 (fun b hb => (fun h => by (try dsimp only at *); omega))
    have hB26 := chg_blk hB16 hc24 (fun h => by (try dsimp only at *); omega)
    have hB27 := chg_blk hB11 hc24 (fun h => by (try dsimp only at *); omega)
    clear zu zw zk
    refine (show WE _ [(0, .agg #[.int .i64 p.f, .slice pa0 p.args.length pc0]), (1, .agg #[.int .i64 t.f, .slice ta0 t.args.length tc0]), (2, .pointer (some ⟨g2, 0, none⟩)), (3, .pointer (some ⟨g9, 0, none⟩)), (4, .bool (((mOk p t []) && (mOk t p []))))] w22 _ .normal from ?_) za (zh.sub ⟨rfl, rfl, rfl, rfl, rfl, trivial⟩)
    refine WE.next ?_
    refine WC.ret ?_
    refine WE.ret1 rfl rfl ?_
    exact ⟨_, rfl, congrArg Value.bool (by unfold varB; (try simp)), hb25⟩

end Go.Proofs.Ytcmfjnadjddboaa
