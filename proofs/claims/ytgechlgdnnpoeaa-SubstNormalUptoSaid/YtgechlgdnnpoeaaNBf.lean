/- Operations, one law a kind and type. -/
import Derived.Test.YtgechlgdnnpoeaaNBe
import Derived.Test.YtgechlgdnnpoeaaNBd
import Derived.Test.YtgechlgdnnpoeaaNBa
import Derived.WalkKit
import Derived.Test.YtgechlgdnnpoeaaNBb

/- Substitutions compared; how large they are. -/
namespace Go.Proofs.Ytgechlgdnnpoeaa
open Go.RowKit Go

instance : DecidableEq T := fun s t => decidable_of_iff _ (T.same_iff s t)
instance : DecidableEq Bd := fun x y => decidable_of_iff (x.var = y.var ∧ x.t = y.t) (by cases x; cases y; simp)
def subSame (a b : List Bd) : Bool := decide (a = b)
/-- So far they are the same. -/
def EqTo (a b : List Bd) (k : Nat) : Prop := ∀ i, i < k → dget a i = dget b i
theorem bd_eq {x y : Bd} (h1 : x.var = y.var) (h2 : T.same x.t y.t = true) : x = y := by
  obtain ⟨v, t⟩ := x; obtain ⟨u, s⟩ := y
  have := (T.same_iff t s).1 h2
  simp only at h1 this
  rw [h1, this]
theorem EqTo.step {a b : List Bd} {k : Nat} (h : EqTo a b k) (h1 : (dget a k).var = (dget b k).var) (h2 : T.same (dget a k).t (dget b k).t = true) : EqTo a b (k + 1) := fun i hi => by
  rcases Nat.lt_or_ge i k with q | q
  · exact h i q
  · obtain rfl : i = k := by omega
    exact bd_eq h1 h2
theorem subSame_all {a b : List Bd} {k : Nat} (hl : a.length = b.length) (h : EqTo a b k) (hk : a.length ≤ k) : subSame a b = true := by
  rw [subSame, decide_eq_true_eq]
  refine List.ext_getElem hl fun i h1 h2 => ?_
  have := h i (by omega)
  rwa [dget_lt h1, dget_lt h2] at this
theorem subSame_len {a b : List Bd} (h : a.length ≠ b.length) : subSame a b = false := by
  rw [subSame, decide_eq_false_iff_not]; rintro rfl; exact h rfl
theorem subSame_at {a b : List Bd} {k : Nat} (h : ¬ ((dget a k).var = (dget b k).var ∧ T.same (dget a k).t (dget b k).t = true)) : subSame a b = false := by
  rw [subSame, decide_eq_false_iff_not]; rintro rfl; exact h ⟨rfl, T.same_refl _⟩
set_option maxRecDepth 100000 in
theorem rsubSame_any (s1 s2 : List Bd) (w : World) (pa pb : Option Addr) (ca cb : Nat) (h1 : s1.length ≤ maxLen) (ha : IsBs w s1 pa) (hb : IsBs w s2 pb) : Calls Try.prog 13 #[.slice pa s1.length ca, .slice pb s2.length cb] w (Ret fun v' w' => v' = .bool (subSame s1 s2) ∧ Below w.heap.size w w') := by
  unfold maxLen at h1
  refine Calls.walk (l := [.slice pa s1.length ca, .slice pb s2.length cb]) Try.func13 rfl (by kernel_rfl) ?_
  refine WC.sub (K' := [(0, .slice pa s1.length ca), (1, .slice pb s2.length cb)]) ⟨rfl, rfl, trivial⟩ ?_
  refine WC.seq ?_
  refine WC.region ?_
  refine WL.val (.bool false) rfl rfl rfl (fun za zC zh zk => wp_assign rfl (zh.ev rfl) zk) ?_
  refine WL.nil (WE.sub (K' := [(0, .slice pa s1.length ca), (1, .slice pb s2.length cb), (4, .bool false)]) ⟨rfl, rfl, rfl, trivial⟩ ?_)
  refine WE.next ?_
  refine WC.seq ?_
  refine WC.seq ?_
  refine WC.region ?_
  refine WL.val (.slice pa s1.length ca) rfl rfl rfl (fun za zC zh zk => wp_move rfl (zh.ev rfl) zk) ?_
  refine WL.val (.int .i64 (((s1.length : Nat) : Int))) rfl rfl rfl (fun za zC zh zk => len_23 rfl (zh.ev rfl) zk) ?_
  refine WL.val (.slice pb s2.length cb) rfl rfl rfl (fun za zC zh zk => wp_move rfl (zh.ev rfl) zk) ?_
  refine WL.val (.int .i64 (((s2.length : Nat) : Int))) rfl rfl rfl (fun za zC zh zk => len_23 rfl (zh.ev rfl) zk) ?_
  refine WL.val (.bool (((((s1.length : Nat) : Int) : Int) != (((s2.length : Nat) : Int) : Int)))) rfl rfl rfl (fun za zC zh zk => neq_3 rfl (zh.ev rfl) (zh.ev rfl) zk) ?_
  refine WL.nil (WE.sub (K' := [(0, .slice pa s1.length ca), (1, .slice pb s2.length cb), (4, .bool false), (10, .bool (((((s1.length : Nat) : Int) : Int) != (((s2.length : Nat) : Int) : Int))))]) ⟨rfl, rfl, rfl, rfl, trivial⟩ ?_)
  refine WE.next ?_
  refine WC.cond rfl (fun h1 => ?_) (fun h1 => ?_)
  · have h1 : (((s1.length : Nat) : Int) : Int) ≠ (((s2.length : Nat) : Int) : Int) := by simpa using h1
    refine WC.seq ?_
    refine WC.region ?_
    refine WL.val (.bool false) rfl rfl rfl (fun za zC zh zk => wp_assign rfl (zh.ev rfl) zk) ?_
    refine WL.nil (WE.sub (K' := [(0, .slice pa s1.length ca), (1, .slice pb s2.length cb), (4, .bool false), (10, .bool (((((s1.length : Nat) : Int) : Int) != (((s2.length : Nat) : Int) : Int))))]) ⟨rfl, rfl, rfl, rfl, trivial⟩ ?_)
    refine WE.next ?_
    refine WC.ret ?_
    refine WE.thenRet ?_
    refine WE.ret1 rfl rfl ?_
    exact ⟨_, rfl, congrArg Value.bool (Eq.symm (subSame_len (by omega))), (Below.refl _ _)⟩
  · have h1 : ¬ ((((s1.length : Nat) : Int) : Int) ≠ (((s2.length : Nat) : Int) : Int)) := by simpa using h1
    refine WC.skip ?_
    refine WE.next ?_
    refine WC.seq ?_
    refine WC.seq ?_
    refine WC.region ?_
    refine WL.val (.int .i64 0) rfl rfl rfl (fun za zC zh zk => wp_assign rfl (zh.ev rfl) zk) ?_
    refine WL.nil (WE.sub (K' := [(0, .slice pa s1.length ca), (1, .slice pb s2.length cb), (4, .bool false), (5, .int .i64 0), (10, .bool (((((s1.length : Nat) : Int) : Int) != (((s2.length : Nat) : Int) : Int))))]) ⟨rfl, rfl, rfl, rfl, rfl, trivial⟩ ?_)
    refine WE.next ?_
    refine WC.block ?_
    have hlen : s1.length = s2.length := by omega
    refine WC.loop (X := Nat) (fun k => s1.length - k) (fun k => [(0, .slice pa s1.length ca), (1, .slice pb s2.length cb), (5, .int .i64 (((k : Nat) : Int))), (10, .bool (((((s1.length : Nat) : Int) : Int) != (((s2.length : Nat) : Int) : Int))))]) (fun k w2 => k ≤ s1.length ∧ EqTo s1 s2 k ∧ Below w.heap.size w w2) 0 ⟨rfl, rfl, rfl, rfl, trivial⟩ ?_ ?_
    · exact ⟨Nat.zero_le _, fun i h => absurd h (Nat.not_lt_zero i), (Below.refl _ _)⟩
    · rintro k w2 ⟨hk, hE, hb3⟩
      refine WC.seq ?_
      refine WC.seq ?_
      refine WC.region ?_
      refine WL.val (.int .i64 (((k : Nat) : Int))) rfl rfl rfl (fun za zC zh zk => wp_move rfl (zh.ev rfl) zk) ?_
      refine WL.val (.slice pa s1.length ca) rfl rfl rfl (fun za zC zh zk => wp_move rfl (zh.ev rfl) zk) ?_
      refine WL.val (.int .i64 (((s1.length : Nat) : Int))) rfl rfl rfl (fun za zC zh zk => len_23 rfl (zh.ev rfl) zk) ?_
      refine WL.val (.bool ((decide ((((k : Nat) : Int) : Int) < (((s1.length : Nat) : Int) : Int))))) rfl rfl rfl (fun za zC zh zk => lss_3 rfl (zh.ev rfl) (zh.ev rfl) zk) ?_
      refine WL.nil (WE.sub (K' := [(0, .slice pa s1.length ca), (1, .slice pb s2.length cb), (5, .int .i64 (((k : Nat) : Int))), (10, .bool (((((s1.length : Nat) : Int) : Int) != (((s2.length : Nat) : Int) : Int)))), (14, .bool ((decide ((((k : Nat) : Int) : Int) < (((s1.length : Nat) : Int) : Int)))))]) ⟨rfl, rfl, rfl, rfl, rfl, trivial⟩ ?_)
      refine WE.next ?_
      refine WC.cond rfl (fun h4 => ?_) (fun h4 => ?_)
      · have h4 : (((k : Nat) : Int) : Int) < (((s1.length : Nat) : Int) : Int) := by simpa using h4
        refine WC.skip ?_
        refine WE.next ?_
        refine WC.seq ?_
        refine WC.block ?_
        refine WC.seq ?_
        obtain ⟨b5, o6, A7, C8, ha9, hc10⟩ := InRow.openB ha
        obtain ⟨b11, o12, A13, C14, ha15, hc16⟩ := InRow.openB hb
        refine WC.opt [(true, .val (.slice pa s1.length ca)), (true, .val (.int .i64 (((k : Nat) : Int)))), (true, .val (.pointer (some ⟨b5, o6 + k * 3, none⟩))), (true, .val (.pointer (some ⟨b5, o6 + k * 3, none⟩))), (true, .val (.int .i64 ((dget s1 k).var))), (true, .val (.slice pb s2.length cb)), (true, .val (.int .i64 (((k : Nat) : Int)))), (true, .val (.pointer (some ⟨b11, o12 + k * 3, none⟩))), (true, .val (.pointer (some ⟨b11, o12 + k * 3, none⟩))), (true, .val (.int .i64 ((dget s2 k).var))), (true, .val (.bool ((((dget s1 k).var : Int) != ((dget s2 k).var : Int))))), (true, .val (.bool ((((dget s1 k).var : Int) != ((dget s2 k).var : Int))))), ((true && !(((dget s1 k).var : Int) != ((dget s2 k).var : Int))), .val (.slice pa s1.length ca)), ((true && !(((dget s1 k).var : Int) != ((dget s2 k).var : Int))), .val (.int .i64 (((k : Nat) : Int)))), ((true && !(((dget s1 k).var : Int) != ((dget s2 k).var : Int))), .val (.pointer (some ⟨b5, o6 + k * 3, none⟩))), ((true && !(((dget s1 k).var : Int) != ((dget s2 k).var : Int))), .val (.pointer (some ⟨b5, o6 + k * 3 + 1, none⟩))), ((true && !(((dget s1 k).var : Int) != ((dget s2 k).var : Int))), .val (.agg #[.int .i64 ((dget s1 k).t.f), .slice ((A7 k)) ((dget s1 k).t.args.length) ((C8 k))])), ((true && !(((dget s1 k).var : Int) != ((dget s2 k).var : Int))), .val (.slice pb s2.length cb)), ((true && !(((dget s1 k).var : Int) != ((dget s2 k).var : Int))), .val (.int .i64 (((k : Nat) : Int)))), ((true && !(((dget s1 k).var : Int) != ((dget s2 k).var : Int))), .val (.pointer (some ⟨b11, o12 + k * 3, none⟩))), ((true && !(((dget s1 k).var : Int) != ((dget s2 k).var : Int))), .val (.pointer (some ⟨b11, o12 + k * 3 + 1, none⟩))), ((true && !(((dget s1 k).var : Int) != ((dget s2 k).var : Int))), .val (.agg #[.int .i64 ((dget s2 k).t.f), .slice ((A13 k)) ((dget s2 k).t.args.length) ((C14 k))])), ((true && !(((dget s1 k).var : Int) != ((dget s2 k).var : Int))), .val (.bool ((T.same (dget s1 k).t (dget s2 k).t)))), ((true && !(((dget s1 k).var : Int) != ((dget s2 k).var : Int))), .val (.bool ((!(T.same (dget s1 k).t (dget s2 k).t))))), (true, .val (.bool (((((dget s1 k).var : Int) != ((dget s2 k).var : Int)) || (!(T.same (dget s1 k).t (dget s2 k).t))))))] [(0, .slice pa s1.length ca), (1, .slice pb s2.length cb), (5, .int .i64 (((k : Nat) : Int))), (10, .bool (((((s1.length : Nat) : Int) : Int) != (((s2.length : Nat) : Int) : Int)))), (14, .bool ((decide ((((k : Nat) : Int) : Int) < (((s1.length : Nat) : Int) : Int)))))] ⟨rfl, rfl, rfl, rfl, rfl, trivial⟩ (by kernel_rfl) (by kernel_rfl) (by kernel_rfl) ?_ ?_
        · refine ⟨⟨true, .none rfl, fun h w => optUndef h, fun zβ za zw zc => ?_⟩, ?_⟩
          · exact wp_move rfl (zc.kn.ev rfl) ⟨_, rfl, Below.refl _ _, optDef zβ rfl⟩
          refine ⟨⟨true, .none rfl, fun h w => optUndef h, fun zβ za zw zc => ?_⟩, ?_⟩
          · exact wp_move rfl (zc.kn.ev rfl) ⟨_, rfl, Below.refl _ _, optDef zβ rfl⟩
          refine ⟨⟨true, .none rfl, fun h w => optUndef h, fun zβ za zw zc => ?_⟩, ?_⟩
          · exact ix_23 (k := k) rfl ((show za.eval (.tmp 17) = za.tmps.getD 17 undef from rfl).trans (optVal (zc.dep 0 17 (by kernel_rfl)) rfl rfl)) (ha9 k (by first | omega | (simp; omega))) ((show za.eval (.tmp 18) = za.tmps.getD 18 undef from rfl).trans (optVal (zc.dep 1 18 (by kernel_rfl)) rfl rfl)) (by first | omega | (simp; omega)) ⟨_, rfl, Below.refl _ _, optDef zβ rfl⟩
          refine ⟨⟨true, .none rfl, fun h w => optUndef h, fun zβ za zw zc => ?_⟩, ?_⟩
          · exact fld_56_0 rfl ((show za.eval (.tmp 19) = za.tmps.getD 19 undef from rfl).trans (optVal (zc.dep 2 19 (by kernel_rfl)) rfl rfl)) ⟨_, rfl, Below.refl _ _, optDef zβ rfl⟩
          refine ⟨⟨true, .none rfl, fun h w => optUndef h, fun zβ za zw zc => ?_⟩, ?_⟩
          · exact ld_3 rfl ((show za.eval (.tmp 20) = za.tmps.getD 20 undef from rfl).trans (optVal (zc.dep 3 20 (by kernel_rfl)) rfl rfl)) (bkeeps (bstep hb3 zc.below) _ _ (hc10 k (by first | omega | (simp; omega))).1) ⟨_, rfl, Below.refl _ _, optDef zβ rfl⟩
          refine ⟨⟨true, .none rfl, fun h w => optUndef h, fun zβ za zw zc => ?_⟩, ?_⟩
          · exact wp_move rfl (zc.kn.ev rfl) ⟨_, rfl, Below.refl _ _, optDef zβ rfl⟩
          refine ⟨⟨true, .none rfl, fun h w => optUndef h, fun zβ za zw zc => ?_⟩, ?_⟩
          · exact wp_move rfl (zc.kn.ev rfl) ⟨_, rfl, Below.refl _ _, optDef zβ rfl⟩
          refine ⟨⟨true, .none rfl, fun h w => optUndef h, fun zβ za zw zc => ?_⟩, ?_⟩
          · exact ix_23 (k := k) rfl ((show za.eval (.tmp 22) = za.tmps.getD 22 undef from rfl).trans (optVal (zc.dep 5 22 (by kernel_rfl)) rfl rfl)) (ha15 k (by first | omega | (simp; omega))) ((show za.eval (.tmp 23) = za.tmps.getD 23 undef from rfl).trans (optVal (zc.dep 6 23 (by kernel_rfl)) rfl rfl)) (by first | omega | (simp; omega)) ⟨_, rfl, Below.refl _ _, optDef zβ rfl⟩
          refine ⟨⟨true, .none rfl, fun h w => optUndef h, fun zβ za zw zc => ?_⟩, ?_⟩
          · exact fld_56_0 rfl ((show za.eval (.tmp 24) = za.tmps.getD 24 undef from rfl).trans (optVal (zc.dep 7 24 (by kernel_rfl)) rfl rfl)) ⟨_, rfl, Below.refl _ _, optDef zβ rfl⟩
          refine ⟨⟨true, .none rfl, fun h w => optUndef h, fun zβ za zw zc => ?_⟩, ?_⟩
          · exact ld_3 rfl ((show za.eval (.tmp 25) = za.tmps.getD 25 undef from rfl).trans (optVal (zc.dep 8 25 (by kernel_rfl)) rfl rfl)) (bkeeps (bstep hb3 zc.below) _ _ (hc16 k (by first | omega | (simp; omega))).1) ⟨_, rfl, Below.refl _ _, optDef zβ rfl⟩
          refine ⟨⟨true, .none rfl, fun h w => optUndef h, fun zβ za zw zc => ?_⟩, ?_⟩
          · exact neq_3 rfl ((show za.eval (.tmp 21) = za.tmps.getD 21 undef from rfl).trans (optVal (zc.dep 4 21 (by kernel_rfl)) rfl rfl)) ((show za.eval (.tmp 26) = za.tmps.getD 26 undef from rfl).trans (optVal (zc.dep 9 26 (by kernel_rfl)) rfl rfl)) ⟨_, rfl, Below.refl _ _, optDef zβ rfl⟩
          refine ⟨⟨true, .none rfl, fun h w => optUndef h, fun zβ za zw zc => ?_⟩, ?_⟩
          · exact wp_move rfl ((show za.eval (.tmp 27) = za.tmps.getD 27 undef from rfl).trans (optVal (zc.dep 10 27 (by kernel_rfl)) rfl rfl)) ⟨_, rfl, Below.refl _ _, optDef zβ rfl⟩
          refine ⟨⟨(true && !(((dget s1 k).var : Int) != ((dget s2 k).var : Int))), .no (c := (((dget s1 k).var : Int) != ((dget s2 k).var : Int))) (d := true) rfl (fun v w h => h), fun h w => optUndef h, fun zβ za zw zc => ?_⟩, ?_⟩
          · exact wp_move rfl (zc.kn.ev rfl) ⟨_, rfl, Below.refl _ _, optDef zβ rfl⟩
          refine ⟨⟨(true && !(((dget s1 k).var : Int) != ((dget s2 k).var : Int))), .no (c := (((dget s1 k).var : Int) != ((dget s2 k).var : Int))) (d := true) rfl (fun v w h => h), fun h w => optUndef h, fun zβ za zw zc => ?_⟩, ?_⟩
          · exact wp_move rfl (zc.kn.ev rfl) ⟨_, rfl, Below.refl _ _, optDef zβ rfl⟩
          refine ⟨⟨(true && !(((dget s1 k).var : Int) != ((dget s2 k).var : Int))), .no (c := (((dget s1 k).var : Int) != ((dget s2 k).var : Int))) (d := true) rfl (fun v w h => h), fun h w => optUndef h, fun zβ za zw zc => ?_⟩, ?_⟩
          · exact ix_23 (k := k) rfl ((show za.eval (.tmp 29) = za.tmps.getD 29 undef from rfl).trans (optVal (zc.dep 12 29 (by kernel_rfl)) rfl zβ)) (ha9 k (by first | omega | (have zz := zβ; simp only [Bool.and_eq_true, Bool.or_eq_true, Bool.true_and, Bool.not_eq_true', Bool.or_eq_false_iff, Bool.and_eq_false_iff, beq_eq_false_iff_ne, ne_eq, beq_iff_eq, decide_eq_true_eq, decide_eq_false_iff_not, bne_iff_ne] at zz; omega))) ((show za.eval (.tmp 30) = za.tmps.getD 30 undef from rfl).trans (optVal (zc.dep 13 30 (by kernel_rfl)) rfl zβ)) (by first | omega | (have zz := zβ; simp only [Bool.and_eq_true, Bool.or_eq_true, Bool.true_and, Bool.not_eq_true', Bool.or_eq_false_iff, Bool.and_eq_false_iff, beq_eq_false_iff_ne, ne_eq, beq_iff_eq, decide_eq_true_eq, decide_eq_false_iff_not, bne_iff_ne] at zz; omega)) ⟨_, rfl, Below.refl _ _, optDef zβ rfl⟩
          refine ⟨⟨(true && !(((dget s1 k).var : Int) != ((dget s2 k).var : Int))), .no (c := (((dget s1 k).var : Int) != ((dget s2 k).var : Int))) (d := true) rfl (fun v w h => h), fun h w => optUndef h, fun zβ za zw zc => ?_⟩, ?_⟩
          · exact fld_56_1 rfl ((show za.eval (.tmp 31) = za.tmps.getD 31 undef from rfl).trans (optVal (zc.dep 14 31 (by kernel_rfl)) rfl zβ)) ⟨_, rfl, Below.refl _ _, optDef zβ rfl⟩
          refine ⟨⟨(true && !(((dget s1 k).var : Int) != ((dget s2 k).var : Int))), .no (c := (((dget s1 k).var : Int) != ((dget s2 k).var : Int))) (d := true) rfl (fun v w h => h), fun h w => optUndef h, fun zβ za zw zc => ?_⟩, ?_⟩
          · exact ld_32 rfl ((show za.eval (.tmp 32) = za.tmps.getD 32 undef from rfl).trans (optVal (zc.dep 15 32 (by kernel_rfl)) rfl zβ)) (bkeeps (bstep hb3 zc.below) _ _ (hc10 k (by first | omega | (have zz := zβ; simp only [Bool.and_eq_true, Bool.or_eq_true, Bool.true_and, Bool.not_eq_true', Bool.or_eq_false_iff, Bool.and_eq_false_iff, beq_eq_false_iff_ne, ne_eq, beq_iff_eq, decide_eq_true_eq, decide_eq_false_iff_not, bne_iff_ne] at zz; omega))).2.1) (bkeeps (bstep hb3 zc.below) _ _ (hc10 k (by first | omega | (have zz := zβ; simp only [Bool.and_eq_true, Bool.or_eq_true, Bool.true_and, Bool.not_eq_true', Bool.or_eq_false_iff, Bool.and_eq_false_iff, beq_eq_false_iff_ne, ne_eq, beq_iff_eq, decide_eq_true_eq, decide_eq_false_iff_not, bne_iff_ne] at zz; omega))).2.2.1) ⟨_, rfl, Below.refl _ _, optDef zβ rfl⟩
          refine ⟨⟨(true && !(((dget s1 k).var : Int) != ((dget s2 k).var : Int))), .no (c := (((dget s1 k).var : Int) != ((dget s2 k).var : Int))) (d := true) rfl (fun v w h => h), fun h w => optUndef h, fun zβ za zw zc => ?_⟩, ?_⟩
          · exact wp_move rfl (zc.kn.ev rfl) ⟨_, rfl, Below.refl _ _, optDef zβ rfl⟩
          refine ⟨⟨(true && !(((dget s1 k).var : Int) != ((dget s2 k).var : Int))), .no (c := (((dget s1 k).var : Int) != ((dget s2 k).var : Int))) (d := true) rfl (fun v w h => h), fun h w => optUndef h, fun zβ za zw zc => ?_⟩, ?_⟩
          · exact wp_move rfl (zc.kn.ev rfl) ⟨_, rfl, Below.refl _ _, optDef zβ rfl⟩
          refine ⟨⟨(true && !(((dget s1 k).var : Int) != ((dget s2 k).var : Int))), .no (c := (((dget s1 k).var : Int) != ((dget s2 k).var : Int))) (d := true) rfl (fun v w h => h), fun h w => optUndef h, fun zβ za zw zc => ?_⟩, ?_⟩
          · exact ix_23 (k := k) rfl ((show za.eval (.tmp 34) = za.tmps.getD 34 undef from rfl).trans (optVal (zc.dep 17 34 (by kernel_rfl)) rfl zβ)) (ha15 k (by first | omega | (have zz := zβ; simp only [Bool.and_eq_true, Bool.or_eq_true, Bool.true_and, Bool.not_eq_true', Bool.or_eq_false_iff, Bool.and_eq_false_iff, beq_eq_false_iff_ne, ne_eq, beq_iff_eq, decide_eq_true_eq, decide_eq_false_iff_not, bne_iff_ne] at zz; omega))) ((show za.eval (.tmp 35) = za.tmps.getD 35 undef from rfl).trans (optVal (zc.dep 18 35 (by kernel_rfl)) rfl zβ)) (by first | omega | (have zz := zβ; simp only [Bool.and_eq_true, Bool.or_eq_true, Bool.true_and, Bool.not_eq_true', Bool.or_eq_false_iff, Bool.and_eq_false_iff, beq_eq_false_iff_ne, ne_eq, beq_iff_eq, decide_eq_true_eq, decide_eq_false_iff_not, bne_iff_ne] at zz; omega)) ⟨_, rfl, Below.refl _ _, optDef zβ rfl⟩
          refine ⟨⟨(true && !(((dget s1 k).var : Int) != ((dget s2 k).var : Int))), .no (c := (((dget s1 k).var : Int) != ((dget s2 k).var : Int))) (d := true) rfl (fun v w h => h), fun h w => optUndef h, fun zβ za zw zc => ?_⟩, ?_⟩
          · exact fld_56_1 rfl ((show za.eval (.tmp 36) = za.tmps.getD 36 undef from rfl).trans (optVal (zc.dep 19 36 (by kernel_rfl)) rfl zβ)) ⟨_, rfl, Below.refl _ _, optDef zβ rfl⟩
          refine ⟨⟨(true && !(((dget s1 k).var : Int) != ((dget s2 k).var : Int))), .no (c := (((dget s1 k).var : Int) != ((dget s2 k).var : Int))) (d := true) rfl (fun v w h => h), fun h w => optUndef h, fun zβ za zw zc => ?_⟩, ?_⟩
          · exact ld_32 rfl ((show za.eval (.tmp 37) = za.tmps.getD 37 undef from rfl).trans (optVal (zc.dep 20 37 (by kernel_rfl)) rfl zβ)) (bkeeps (bstep hb3 zc.below) _ _ (hc16 k (by first | omega | (have zz := zβ; simp only [Bool.and_eq_true, Bool.or_eq_true, Bool.true_and, Bool.not_eq_true', Bool.or_eq_false_iff, Bool.and_eq_false_iff, beq_eq_false_iff_ne, ne_eq, beq_iff_eq, decide_eq_true_eq, decide_eq_false_iff_not, bne_iff_ne] at zz; omega))).2.1) (bkeeps (bstep hb3 zc.below) _ _ (hc16 k (by first | omega | (have zz := zβ; simp only [Bool.and_eq_true, Bool.or_eq_true, Bool.true_and, Bool.not_eq_true', Bool.or_eq_false_iff, Bool.and_eq_false_iff, beq_eq_false_iff_ne, ne_eq, beq_iff_eq, decide_eq_true_eq, decide_eq_false_iff_not, bne_iff_ne] at zz; omega))).2.2.1) ⟨_, rfl, Below.refl _ _, optDef zβ rfl⟩
          refine ⟨⟨(true && !(((dget s1 k).var : Int) != ((dget s2 k).var : Int))), .no (c := (((dget s1 k).var : Int) != ((dget s2 k).var : Int))) (d := true) rfl (fun v w h => h), fun h w => optUndef h, fun zβ za zw zc => ?_⟩, ?_⟩
          · exact wp_call (by kernel_rfl) rfl (hv2 ((show za.eval (.tmp 33) = za.tmps.getD 33 undef from rfl).trans (optVal (zc.dep 16 33 (by kernel_rfl)) rfl zβ)) ((show za.eval (.tmp 38) = za.tmps.getD 38 undef from rfl).trans (optVal (zc.dep 21 38 (by kernel_rfl)) rfl zβ))) (ret_of (rsame_any _ _ _ _ _ (IsT.below (bstep hb3 zc.below) (InT.isT (hc10 k (by first | omega | (have zz := zβ; simp only [Bool.and_eq_true, Bool.or_eq_true, Bool.true_and, Bool.not_eq_true', Bool.or_eq_false_iff, Bool.and_eq_false_iff, beq_eq_false_iff_ne, ne_eq, beq_iff_eq, decide_eq_true_eq, decide_eq_false_iff_not, bne_iff_ne] at zz; omega))).2.2.2.1)) (IsT.below (bstep hb3 zc.below) (InT.isT (hc16 k (by first | omega | (have zz := zβ; simp only [Bool.and_eq_true, Bool.or_eq_true, Bool.true_and, Bool.not_eq_true', Bool.or_eq_false_iff, Bool.and_eq_false_iff, beq_eq_false_iff_ne, ne_eq, beq_iff_eq, decide_eq_true_eq, decide_eq_false_iff_not, bne_iff_ne] at zz; omega))).2.2.2.1)))) (fun v w' h => ⟨v, rfl, h.2, optDef zβ h.1⟩)
          refine ⟨⟨(true && !(((dget s1 k).var : Int) != ((dget s2 k).var : Int))), .no (c := (((dget s1 k).var : Int) != ((dget s2 k).var : Int))) (d := true) rfl (fun v w h => h), fun h w => optUndef h, fun zβ za zw zc => ?_⟩, ?_⟩
          · exact wp_not rfl ((show za.eval (.tmp 39) = za.tmps.getD 39 undef from rfl).trans (optVal (zc.dep 22 39 (by kernel_rfl)) rfl zβ)) ⟨_, rfl, Below.refl _ _, optDef zβ rfl⟩
          refine ⟨⟨true, .none rfl, fun h w => optUndef h, fun zβ za zw zc => ?_⟩, ?_⟩
          · exact wp_or rfl ((show za.eval (.tmp 28) = za.tmps.getD 28 undef from rfl).trans (optVal (zc.dep 11 28 (by kernel_rfl)) rfl rfl)) (fun hp => ((show za.eval (.tmp 40) = za.tmps.getD 40 undef from rfl).trans (optVal (zc.dep 23 40 (by kernel_rfl)) rfl (bMkN zβ hp)))) ⟨_, rfl, Below.refl _ _, optDef zβ rfl⟩
          exact trivial
        · intro za w17 zh hb18 zu
          have zh := zh.cons (d := 41) (v := .bool (((((dget s1 k).var : Int) != ((dget s2 k).var : Int)) || (!(T.same (dget s1 k).t (dget s2 k).t))))) (optVal (zu 24 41 (by kernel_rfl)) rfl rfl)
          clear zu
          refine (show WE _ [(0, .slice pa s1.length ca), (1, .slice pb s2.length cb), (5, .int .i64 (((k : Nat) : Int))), (10, .bool (((((s1.length : Nat) : Int) : Int) != (((s2.length : Nat) : Int) : Int)))), (14, .bool ((decide ((((k : Nat) : Int) : Int) < (((s1.length : Nat) : Int) : Int))))), (41, .bool (((((dget s1 k).var : Int) != ((dget s2 k).var : Int)) || (!(T.same (dget s1 k).t (dget s2 k).t)))))] w17 _ .normal from ?_) za (zh.sub ⟨rfl, rfl, rfl, rfl, rfl, rfl, trivial⟩)
          refine WE.next ?_
          refine WC.cond rfl (fun h19 => ?_) (fun h19 => ?_)
          · have h19 : (((dget s1 k).var : Int) ≠ ((dget s2 k).var : Int)) ∨ (¬ ((T.same (dget s1 k).t (dget s2 k).t) = true)) := by simpa using h19
            refine WC.seq ?_
            refine WC.region ?_
            refine WL.val (.bool false) rfl rfl rfl (fun za zC zh zk => wp_assign rfl (zh.ev rfl) zk) ?_
            refine WL.nil (WE.sub (K' := [(0, .slice pa s1.length ca), (1, .slice pb s2.length cb), (4, .bool false), (5, .int .i64 (((k : Nat) : Int))), (10, .bool (((((s1.length : Nat) : Int) : Int) != (((s2.length : Nat) : Int) : Int)))), (14, .bool ((decide ((((k : Nat) : Int) : Int) < (((s1.length : Nat) : Int) : Int))))), (41, .bool (((((dget s1 k).var : Int) != ((dget s2 k).var : Int)) || (!(T.same (dget s1 k).t (dget s2 k).t)))))]) ⟨rfl, rfl, rfl, rfl, rfl, rfl, rfl, trivial⟩ ?_)
            refine WE.next ?_
            refine WC.ret ?_
            refine WE.blockRet ?_
            refine WE.thenRet ?_
            refine WE.thenRet ?_
            refine WE.blockRet ?_
            refine WE.thenRet ?_
            refine WE.ret1 rfl rfl ?_
            have hb20 : Below w.heap.size w w17 := (bstep hb3 hb18)
            exact ⟨_, rfl, congrArg Value.bool (Eq.symm (subSame_at (fun hh => by have z := h19; simp at z; rcases z with z | z; exact z hh.1; rw [hh.2] at z; cases z))), hb20⟩
          · have h19 : ¬ ((((dget s1 k).var : Int) ≠ ((dget s2 k).var : Int)) ∨ (¬ ((T.same (dget s1 k).t (dget s2 k).t) = true))) := by simpa using h19
            refine WC.skip ?_
            refine WE.blockNormal ?_
            refine WE.next ?_
            refine WC.region ?_
            refine WL.val (.int .i64 (((k : Nat) : Int))) rfl rfl rfl (fun za zC zh zk => wp_move rfl (zh.ev rfl) zk) ?_
            refine WL.val (.int .i64 ((((k + 1) : Nat) : Int))) rfl rfl rfl (fun za zC zh zk => addb_3 rfl (zh.ev rfl) (zh.ev rfl) (wrap_eq (by omega) (by omega) (by omega)) zk) ?_
            refine WL.val (.int .i64 ((((k + 1) : Nat) : Int))) rfl rfl rfl (fun za zC zh zk => wp_assign rfl (zh.ev rfl) zk) ?_
            refine WL.nil (WE.sub (K' := [(0, .slice pa s1.length ca), (1, .slice pb s2.length cb), (5, .int .i64 ((((k + 1) : Nat) : Int))), (10, .bool (((((s1.length : Nat) : Int) : Int) != (((s2.length : Nat) : Int) : Int)))), (14, .bool ((decide ((((k : Nat) : Int) : Int) < (((s1.length : Nat) : Int) : Int))))), (41, .bool (((((dget s1 k).var : Int) != ((dget s2 k).var : Int)) || (!(T.same (dget s1 k).t (dget s2 k).t)))))]) ⟨rfl, rfl, rfl, rfl, rfl, rfl, trivial⟩ ?_)
            refine WE.round (k + 1) ⟨rfl, rfl, rfl, rfl, trivial⟩ ?_ ?_
            · have hb21 : Below w.heap.size w w17 := (bstep hb3 hb18)
              exact ⟨by omega, hE.step (by have z := h19; simp at z; omega) (by have z := h19; simp at z; exact z.2), hb21⟩
            · omega
      · have h4 : ¬ ((((k : Nat) : Int) : Int) < (((s1.length : Nat) : Int) : Int)) := by simpa using h4
        refine WC.exit ?_
        refine WE.thenExit ?_
        refine WE.thenExit ?_
        refine WE.blockIs rfl ?_
        refine WE.next ?_
        refine WC.seq ?_
        refine WC.region ?_
        refine WL.val (.bool true) rfl rfl rfl (fun za zC zh zk => wp_assign rfl (zh.ev rfl) zk) ?_
        refine WL.nil (WE.sub (K' := [(0, .slice pa s1.length ca), (1, .slice pb s2.length cb), (4, .bool true), (5, .int .i64 (((k : Nat) : Int))), (10, .bool (((((s1.length : Nat) : Int) : Int) != (((s2.length : Nat) : Int) : Int)))), (14, .bool ((decide ((((k : Nat) : Int) : Int) < (((s1.length : Nat) : Int) : Int)))))]) ⟨rfl, rfl, rfl, rfl, rfl, rfl, trivial⟩ ?_)
        refine WE.next ?_
        refine WC.ret ?_
        refine WE.ret1 rfl rfl ?_
        exact ⟨_, rfl, congrArg Value.bool (Eq.symm (subSame_all hlen hE (by omega))), hb3⟩

theorem rsubSame_yes (s1 s2 : List Bd) (w : World) (pa pb : Option Addr) (ca cb : Nat) (h1 : s1.length ≤ maxLen) (ha : IsBs w s1 pa) (hb : IsBs w s2 pb) (he : s1 = s2) : Calls Try.prog 13 #[.slice pa s1.length ca, .slice pb s2.length cb] w (Ret fun v' w' => v' = .bool true ∧ Below w.heap.size w w') := by
  have z := rsubSame_any s1 s2 w pa pb ca cb h1 ha hb
  rwa [show subSame s1 s2 = true by simp [subSame, he]] at z

set_option maxRecDepth 100000 in
theorem great_any (t : T) (m : Int) (w : World) (v : Value) (hz : t.size ≤ 4294967296) (hv : IsT w t v) : Calls Try.prog 14 #[v, .int .i64 m] w (Ret fun v' w' => v' = .bool (decide (m < (t.size : Int))) ∧ Below w.heap.size w w') := by
  have hv0 := hv
  obtain ⟨hf, a, c, rfl, hc, hmx, hl⟩ := hv.form
  refine Calls.walk (l := [.agg #[.int .i64 t.f, .slice a t.args.length c], .int .i64 m]) Try.func14 rfl (by kernel_rfl) ?_
  refine WC.sub (K' := [(0, .agg #[.int .i64 t.f, .slice a t.args.length c]), (1, .int .i64 m)]) ⟨rfl, rfl, trivial⟩ ?_
  refine WC.seq ?_
  refine WC.region ?_
  refine WL.step (post := NewBlk w 32 #[.int .i64 t.f, .slice a t.args.length c]) rfl rfl rfl (fun za zC zh zk => box_32 rfl (zh.ev rfl) (zk _ _ (newBlk _ _ _))) ?_
  rintro _ w1 ⟨g2, rfl, hg3, hB4, hb5, hz6⟩
  have hl7 : w.heap.size ≤ g2 := by omega
  refine WL.val (.bool false) rfl rfl rfl (fun za zC zh zk => wp_assign rfl (zh.ev rfl) zk) ?_
  refine WL.nil (WE.sub (K' := [(0, .agg #[.int .i64 t.f, .slice a t.args.length c]), (1, .int .i64 m), (2, .pointer (some ⟨g2, 0, none⟩)), (4, .bool false)]) ⟨rfl, rfl, rfl, rfl, trivial⟩ ?_)
  refine WE.next ?_
  refine WC.seq ?_
  refine WC.region ?_
  refine WL.val (.agg #[.int .i64 t.f, .slice a t.args.length c]) rfl rfl rfl (fun za zC zh zk => ld_32 rfl (zh.ev rfl) ((hB4.cell 0).trans rfl) ((hB4.cell 1).trans rfl) zk) ?_
  refine WL.call rfl rfl rfl (fun za zh zC => wp_call (by kernel_rfl) rfl (hv1 (zh.ev rfl))) (ret_of (size_any t _ _ (IsT.below hb5 hv0))) ?_
  rintro _ w8 ⟨rfl, hbs⟩
  refine WL.val (.int .i64 m) rfl rfl rfl (fun za zC zh zk => wp_move rfl (zh.ev rfl) zk) ?_
  refine WL.val (.bool ((decide ((m : Int) < ((wrap64 (t.size : Int)) : Int))))) rfl rfl rfl (fun za zC zh zk => gtr_3 rfl (zh.ev rfl) (zh.ev rfl) zk) ?_
  refine WL.val (.bool ((decide ((m : Int) < ((wrap64 (t.size : Int)) : Int))))) rfl rfl rfl (fun za zC zh zk => wp_assign rfl (zh.ev rfl) zk) ?_
  refine WL.nil (WE.sub (K' := [(0, .agg #[.int .i64 t.f, .slice a t.args.length c]), (1, .int .i64 m), (2, .pointer (some ⟨g2, 0, none⟩)), (4, .bool ((decide ((m : Int) < ((wrap64 (t.size : Int)) : Int)))))]) ⟨rfl, rfl, rfl, rfl, trivial⟩ ?_)
  refine WE.next ?_
  refine WC.ret ?_
  refine WE.ret1 rfl rfl ?_
  have hb9 : Below w.heap.size w w8 := (bstep hb5 hbs)
  exact ⟨_, rfl, congrArg Value.bool (by rw [show wrap64 (t.size : Int) = t.size from wrap64_id (by omega)]), hb9⟩

/-- None of the terms is larger than that, and there are no more than 60. -/
def Small (l : List Bd) (m : Int) : Prop := l.length ≤ 60 ∧ ∀ x ∈ l, (x.t.size : Int) ≤ m
set_option maxRecDepth 100000 in
theorem large_any (l : List Bd) (m : Int) (w : World) (p : Option Addr) (c : Nat) (h : IsSub w l p c) : Calls Try.prog 9 #[.slice p l.length c, .int .i64 m] w (Ret fun v' w' => (∃ b : Bool, v' = .bool b ∧ (b = false → Small l m)) ∧ Below w.heap.size w w') := by
  have hl1 := h.small
  refine Calls.walk (l := [.slice p l.length c, .int .i64 m]) Try.func9 rfl (by kernel_rfl) ?_
  refine WC.sub (K' := [(0, .slice p l.length c), (1, .int .i64 m)]) ⟨rfl, rfl, trivial⟩ ?_
  refine WC.seq ?_
  refine WC.region ?_
  refine WL.val (.bool false) rfl rfl rfl (fun za zC zh zk => wp_assign rfl (zh.ev rfl) zk) ?_
  refine WL.nil (WE.sub (K' := [(0, .slice p l.length c), (1, .int .i64 m), (4, .bool false)]) ⟨rfl, rfl, rfl, trivial⟩ ?_)
  refine WE.next ?_
  refine WC.seq ?_
  refine WC.seq ?_
  refine WC.region ?_
  refine WL.val (.slice p l.length c) rfl rfl rfl (fun za zC zh zk => wp_move rfl (zh.ev rfl) zk) ?_
  refine WL.val (.int .i64 (((l.length : Nat) : Int))) rfl rfl rfl (fun za zC zh zk => len_23 rfl (zh.ev rfl) zk) ?_
  refine WL.val (.int .i64 0) rfl rfl rfl (fun za zC zh zk => wp_move rfl (zh.ev rfl) zk) ?_
  refine WL.nil (WE.sub (K' := [(0, .slice p l.length c), (1, .int .i64 m), (4, .bool false), (7, .int .i64 (((l.length : Nat) : Int))), (8, .int .i64 0)]) ⟨rfl, rfl, rfl, rfl, rfl, trivial⟩ ?_)
  refine WE.next ?_
  refine WC.block ?_
  refine WC.loop (X := Nat) (fun k => l.length - k) (fun k => [(0, .slice p l.length c), (1, .int .i64 m), (7, .int .i64 (((l.length : Nat) : Int))), (8, .int .i64 (((k : Nat) : Int)))]) (fun k w1 => k ≤ l.length ∧ (∀ i, i < k → ((dget l i).t.size : Int) ≤ m) ∧ Below w.heap.size w w1) 0 ⟨rfl, rfl, rfl, rfl, trivial⟩ ?_ ?_
  · exact ⟨Nat.zero_le _, fun i h => absurd h (Nat.not_lt_zero i), (Below.refl _ _)⟩
  · rintro k w1 ⟨hk, hE, hb2⟩
    refine WC.seq ?_
    refine WC.region ?_
    refine WL.val (.bool ((decide ((((k : Nat) : Int) : Int) < (((l.length : Nat) : Int) : Int))))) rfl rfl rfl (fun za zC zh zk => lss_3 rfl (zh.ev rfl) (zh.ev rfl) zk) ?_
    refine WL.nil (WE.sub (K' := [(0, .slice p l.length c), (1, .int .i64 m), (7, .int .i64 (((l.length : Nat) : Int))), (8, .int .i64 (((k : Nat) : Int))), (9, .bool ((decide ((((k : Nat) : Int) : Int) < (((l.length : Nat) : Int) : Int)))))]) ⟨rfl, rfl, rfl, rfl, rfl, trivial⟩ ?_)
    refine WE.next ?_
    refine WC.seq ?_
    refine WC.cond rfl (fun h3 => ?_) (fun h3 => ?_)
    · have h3 : (((k : Nat) : Int) : Int) < (((l.length : Nat) : Int) : Int) := by simpa using h3
      refine WC.skip ?_
      refine WE.next ?_
      refine WC.seq ?_
      refine WC.block ?_
      refine WC.seq ?_
      refine WC.region ?_
      refine WL.val (.int .i64 (((k : Nat) : Int))) rfl rfl rfl (fun za zC zh zk => wp_move rfl (zh.ev rfl) zk) ?_
      refine WL.val (.int .i64 (((k : Nat) : Int))) rfl rfl rfl (fun za zC zh zk => wp_assign rfl (zh.ev rfl) zk) ?_
      refine WL.nil (WE.sub (K' := [(0, .slice p l.length c), (1, .int .i64 m), (5, .int .i64 (((k : Nat) : Int))), (7, .int .i64 (((l.length : Nat) : Int))), (8, .int .i64 (((k : Nat) : Int))), (9, .bool ((decide ((((k : Nat) : Int) : Int) < (((l.length : Nat) : Int) : Int)))))]) ⟨rfl, rfl, rfl, rfl, rfl, rfl, trivial⟩ ?_)
      refine WE.next ?_
      refine WC.seq ?_
      refine WC.region ?_
      refine WL.val (.slice p l.length c) rfl rfl rfl (fun za zC zh zk => wp_move rfl (zh.ev rfl) zk) ?_
      refine WL.val (.int .i64 (((k : Nat) : Int))) rfl rfl rfl (fun za zC zh zk => wp_move rfl (zh.ev rfl) zk) ?_
      obtain ⟨b4, o5, A6, C7, ha8, hc9⟩ := InRow.openB h.rows
      refine WL.val (.pointer (some ⟨b4, o5 + k * 3, none⟩)) rfl rfl rfl (fun za zC zh zk => ix_23 (k := k) rfl (zh.ev rfl) (ha8 k (by first | omega | (simp; omega))) (zh.ev rfl) (by first | omega | (simp; omega)) zk) ?_
      refine WL.val (.pointer (some ⟨b4, o5 + k * 3 + 1, none⟩)) rfl rfl rfl (fun za zC zh zk => fld_56_1 rfl (zh.ev rfl) zk) ?_
      refine WL.val (.agg #[.int .i64 ((dget l k).t.f), .slice ((A6 k)) ((dget l k).t.args.length) ((C7 k))]) rfl rfl rfl (fun za zC zh zk => ld_32 rfl (zh.ev rfl) (bkeeps hb2 _ _ (hc9 k (by first | omega | (simp; omega))).2.1) (bkeeps hb2 _ _ (hc9 k (by first | omega | (simp; omega))).2.2.1) zk) ?_
      refine WL.val (.int .i64 m) rfl rfl rfl (fun za zC zh zk => wp_move rfl (zh.ev rfl) zk) ?_
      refine WL.call rfl rfl rfl (fun za zh zC => wp_call (by kernel_rfl) rfl (hv2 (zh.ev rfl) (zh.ev rfl))) (great_any (dget l k).t m _ _ (h.parts _ (dget_mem (by omega))) (IsT.below hb2 (InT.isT (hc9 k (by first | omega | (simp; omega))).2.2.2.1))) ?_
      rintro _ w10 ⟨rfl, hbs⟩
      refine WL.nil (WE.sub (K' := [(0, .slice p l.length c), (1, .int .i64 m), (5, .int .i64 (((k : Nat) : Int))), (7, .int .i64 (((l.length : Nat) : Int))), (8, .int .i64 (((k : Nat) : Int))), (9, .bool ((decide ((((k : Nat) : Int) : Int) < (((l.length : Nat) : Int) : Int))))), (17, .bool ((decide (m < ((dget l k).t.size : Int)))))]) ⟨rfl, rfl, rfl, rfl, rfl, rfl, rfl, trivial⟩ ?_)
      refine WE.next ?_
      refine WC.cond rfl (fun h11 => ?_) (fun h11 => ?_)
      · have h11 : m < ((dget l k).t.size : Int) := by simpa using h11
        refine WC.seq ?_
        refine WC.region ?_
        refine WL.val (.bool true) rfl rfl rfl (fun za zC zh zk => wp_assign rfl (zh.ev rfl) zk) ?_
        refine WL.nil (WE.sub (K' := [(0, .slice p l.length c), (1, .int .i64 m), (4, .bool true), (5, .int .i64 (((k : Nat) : Int))), (7, .int .i64 (((l.length : Nat) : Int))), (8, .int .i64 (((k : Nat) : Int))), (9, .bool ((decide ((((k : Nat) : Int) : Int) < (((l.length : Nat) : Int) : Int))))), (17, .bool ((decide (m < ((dget l k).t.size : Int)))))]) ⟨rfl, rfl, rfl, rfl, rfl, rfl, rfl, rfl, trivial⟩ ?_)
        refine WE.next ?_
        refine WC.ret ?_
        refine WE.blockRet ?_
        refine WE.thenRet ?_
        refine WE.thenRet ?_
        refine WE.blockRet ?_
        refine WE.thenRet ?_
        refine WE.ret1 rfl rfl ?_
        have hb12 : Below w.heap.size w w10 := (bstep hb2 hbs)
        exact ⟨_, rfl, ⟨true, rfl, fun e => nomatch e⟩, hb12⟩
      · have h11 : ¬ (m < ((dget l k).t.size : Int)) := by simpa using h11
        refine WC.skip ?_
        refine WE.blockNormal ?_
        refine WE.next ?_
        refine WC.region ?_
        refine WL.val (.int .i64 ((((k + 1) : Nat) : Int))) rfl rfl rfl (fun za zC zh zk => addb_3 rfl (zh.ev rfl) (zh.ev rfl) (wrap_eq (by omega) (by omega) (by omega)) zk) ?_
        refine WL.val (.int .i64 ((((k + 1) : Nat) : Int))) rfl rfl rfl (fun za zC zh zk => wp_move rfl (zh.ev rfl) zk) ?_
        refine WL.nil (WE.sub (K' := [(0, .slice p l.length c), (1, .int .i64 m), (5, .int .i64 (((k : Nat) : Int))), (7, .int .i64 (((l.length : Nat) : Int))), (8, .int .i64 ((((k + 1) : Nat) : Int))), (9, .bool ((decide ((((k : Nat) : Int) : Int) < (((l.length : Nat) : Int) : Int))))), (17, .bool ((decide (m < ((dget l k).t.size : Int)))))]) ⟨rfl, rfl, rfl, rfl, rfl, rfl, rfl, trivial⟩ ?_)
        refine WE.round (k + 1) ⟨rfl, rfl, rfl, rfl, trivial⟩ ?_ ?_
        · have hb13 : Below w.heap.size w w10 := (bstep hb2 hbs)
          exact ⟨by omega, fun i hi => by rcases Nat.lt_or_ge i k with q | q; exact hE i q; (obtain rfl : i = k := by omega); omega, hb13⟩
        · omega
    · have h3 : ¬ ((((k : Nat) : Int) : Int) < (((l.length : Nat) : Int) : Int)) := by simpa using h3
      refine WC.exit ?_
      refine WE.thenExit ?_
      refine WE.thenExit ?_
      refine WE.blockIs rfl ?_
      refine WE.next ?_
      refine WC.seq ?_
      refine WC.region ?_
      refine WL.val (.slice p l.length c) rfl rfl rfl (fun za zC zh zk => wp_move rfl (zh.ev rfl) zk) ?_
      refine WL.val (.int .i64 (((l.length : Nat) : Int))) rfl rfl rfl (fun za zC zh zk => len_23 rfl (zh.ev rfl) zk) ?_
      refine WL.val (.bool ((decide ((60 : Int) < (((l.length : Nat) : Int) : Int))))) rfl rfl rfl (fun za zC zh zk => gtr_3 rfl (zh.ev rfl) (zh.ev rfl) zk) ?_
      refine WL.val (.bool ((decide ((60 : Int) < (((l.length : Nat) : Int) : Int))))) rfl rfl rfl (fun za zC zh zk => wp_assign rfl (zh.ev rfl) zk) ?_
      refine WL.nil (WE.sub (K' := [(0, .slice p l.length c), (1, .int .i64 m), (4, .bool ((decide ((60 : Int) < (((l.length : Nat) : Int) : Int))))), (7, .int .i64 (((l.length : Nat) : Int))), (8, .int .i64 (((k : Nat) : Int))), (9, .bool ((decide ((((k : Nat) : Int) : Int) < (((l.length : Nat) : Int) : Int)))))]) ⟨rfl, rfl, rfl, rfl, rfl, rfl, trivial⟩ ?_)
      refine WE.next ?_
      refine WC.ret ?_
      refine WE.ret1 rfl rfl ?_
      exact ⟨_, rfl, ⟨_, rfl, fun e => ⟨by simp at e; omega, fun x hx => by obtain ⟨i, hi, rfl⟩ := List.getElem_of_mem hx; have z := hE i (by omega); rwa [dget_lt hi] at z⟩⟩, hb2⟩

theorem subOk_iff : ∀ (l : List Bd) (last : Int), subOk last l = true ↔ (∀ x ∈ l, last < x.var ∧ x.itself = false) ∧ l.Pairwise (fun x y => x.var < y.var)
  | [], _ => by simp [subOk]
  | b :: r, last => by
    rw [subOk]
    split
    · rename_i hn
      constructor
      · intro h; cases h
      · intro h
        have := h.1 b (by simp)
        rcases hn with hn | hn
        · omega
        · rw [this.2] at hn; cases hn
    · rename_i hn
      rw [subOk_iff r b.var]
      have hn1 := not_or.1 hn
      constructor
      · intro ⟨h1, h2⟩
        refine ⟨fun x hx => ?_, .cons (fun x hx => (h1 x hx).1) h2⟩
        rcases List.mem_cons.1 hx with rfl | hx
        · exact ⟨by omega, Bool.eq_false_iff.2 hn1.2⟩
        · have := h1 x hx; exact ⟨by omega, this.2⟩
      · intro ⟨h1, h2⟩
        obtain ⟨h3, h4⟩ := List.pairwise_cons.1 h2
        exact ⟨fun x hx => ⟨h3 x hx, (h1 x (by simp [hx])).2⟩, h4⟩
/-- So far it may be. -/
def OkTo (l : List Bd) (k : Nat) : Prop := ∀ i, i < k → 0 ≤ (dget l i).var ∧ (dget l i).itself = false ∧ (0 < i → (dget l (i - 1)).var < (dget l i).var)
theorem okTo_lt {l : List Bd} {k : Nat} (h : OkTo l k) : ∀ j i, i < j → j < k → (dget l i).var < (dget l j).var := by
  intro j
  induction j with
  | zero => intro i hi; omega
  | succ j ih =>
    intro i hi hj
    have h1 := (h (j + 1) hj).2.2 (by omega)
    rw [Nat.add_sub_cancel] at h1
    rcases Nat.lt_or_ge i j with q | q
    · have := ih i q (by omega); omega
    · obtain rfl : i = j := by omega
      exact h1
theorem okTo_ok {l : List Bd} (h : OkTo l l.length) : subOk (-1) l = true := by
  rw [subOk_iff]
  refine ⟨fun x hx => ?_, List.pairwise_iff_getElem.2 fun i j hi hj hij => ?_⟩
  · obtain ⟨i, hi, rfl⟩ := List.getElem_of_mem hx
    have := h i hi
    rw [dget_lt hi] at this
    exact ⟨by omega, this.2.1⟩
  · have := okTo_lt h j i hij hj
    rwa [dget_lt hi, dget_lt hj] at this
theorem okTo_no {l : List Bd} {k : Nat} (hk : k < l.length) (h : (dget l k).var < 0 ∨ (0 < k ∧ (dget l k).var ≤ (dget l (k - 1)).var) ∨ (dget l k).itself = true) : subOk (-1) l = false := by
  rw [Bool.eq_false_iff]
  intro hok
  rw [subOk_iff] at hok
  have h1 := hok.1 _ (dget_mem hk)
  rcases h with h | ⟨h2, h3⟩ | h
  · omega
  · have := List.pairwise_iff_getElem.1 hok.2 (k - 1) k (by omega) hk (by omega)
    rw [← dget_lt, ← dget_lt] at this
    omega
  · rw [h1.2] at h; cases h
set_option maxRecDepth 100000 in
theorem rcheck_any (l : List Bd) (w : World) (a : Option Addr) (c : Nat) (h1 : l.length ≤ 4294967296) (hl : IsBs w l a) : Calls Try.prog 28 #[.slice a l.length c] w (Ret fun v' w' => v' = .int .i64 (subCheck l) ∧ Below w.heap.size w w') := by
  refine Calls.walk (l := [.slice a l.length c]) Try.func28 rfl (by kernel_rfl) ?_
  refine WC.sub (K' := [(0, .slice a l.length c)]) ⟨rfl, trivial⟩ ?_
  refine WC.seq ?_
  refine WC.region ?_
  refine WL.val (.int .i64 0) rfl rfl rfl (fun za zC zh zk => wp_assign rfl (zh.ev rfl) zk) ?_
  refine WL.nil (WE.sub (K' := [(0, .slice a l.length c), (2, .int .i64 0)]) ⟨rfl, rfl, trivial⟩ ?_)
  refine WE.next ?_
  refine WC.seq ?_
  refine WC.seq ?_
  refine WC.region ?_
  refine WL.val (.int .i64 0) rfl rfl rfl (fun za zC zh zk => wp_assign rfl (zh.ev rfl) zk) ?_
  refine WL.nil (WE.sub (K' := [(0, .slice a l.length c), (2, .int .i64 0), (3, .int .i64 0)]) ⟨rfl, rfl, rfl, trivial⟩ ?_)
  refine WE.next ?_
  refine WC.block ?_
  refine WC.loop (X := Nat) (fun k => l.length - k) (fun k => [(0, .slice a l.length c), (3, .int .i64 (((k : Nat) : Int)))]) (fun k w1 => k ≤ l.length ∧ OkTo l k ∧ Below w.heap.size w w1) 0 ⟨rfl, rfl, trivial⟩ ?_ ?_
  · exact ⟨Nat.zero_le _, fun i h => absurd h (Nat.not_lt_zero i), (Below.refl _ _)⟩
  · rintro k w1 ⟨hk, hE, hb2⟩
    refine WC.seq ?_
    refine WC.seq ?_
    refine WC.region ?_
    refine WL.val (.int .i64 (((k : Nat) : Int))) rfl rfl rfl (fun za zC zh zk => wp_move rfl (zh.ev rfl) zk) ?_
    refine WL.val (.slice a l.length c) rfl rfl rfl (fun za zC zh zk => wp_move rfl (zh.ev rfl) zk) ?_
    refine WL.val (.int .i64 (((l.length : Nat) : Int))) rfl rfl rfl (fun za zC zh zk => len_23 rfl (zh.ev rfl) zk) ?_
    refine WL.val (.bool ((decide ((((k : Nat) : Int) : Int) < (((l.length : Nat) : Int) : Int))))) rfl rfl rfl (fun za zC zh zk => lss_3 rfl (zh.ev rfl) (zh.ev rfl) zk) ?_
    refine WL.nil (WE.sub (K' := [(0, .slice a l.length c), (3, .int .i64 (((k : Nat) : Int))), (7, .bool ((decide ((((k : Nat) : Int) : Int) < (((l.length : Nat) : Int) : Int)))))]) ⟨rfl, rfl, rfl, trivial⟩ ?_)
    refine WE.next ?_
    refine WC.cond rfl (fun h3 => ?_) (fun h3 => ?_)
    · have h3 : (((k : Nat) : Int) : Int) < (((l.length : Nat) : Int) : Int) := by simpa using h3
      refine WC.skip ?_
      refine WE.next ?_
      refine WC.seq ?_
      refine WC.block ?_
      refine WC.seq ?_
      obtain ⟨b4, o5, A6, C7, ha8, hc9⟩ := InRow.openB hl
      refine WC.opt [(true, .val (.slice a l.length c)), (true, .val (.int .i64 (((k : Nat) : Int)))), (true, .val (.pointer (some ⟨b4, o5 + k * 3, none⟩))), (true, .val (.pointer (some ⟨b4, o5 + k * 3, none⟩))), (true, .val (.int .i64 ((dget l k).var))), (true, .val (.bool ((decide (((dget l k).var : Int) < (0 : Int)))))), (true, .val (.bool ((decide (((dget l k).var : Int) < (0 : Int)))))), ((true && !(decide (((dget l k).var : Int) < (0 : Int)))), .val (.int .i64 (((k : Nat) : Int)))), ((true && !(decide (((dget l k).var : Int) < (0 : Int)))), .val (.bool ((decide ((0 : Int) < (((k : Nat) : Int) : Int)))))), ((true && !(decide (((dget l k).var : Int) < (0 : Int)))), .val (.bool ((decide ((0 : Int) < (((k : Nat) : Int) : Int)))))), (((true && !(decide (((dget l k).var : Int) < (0 : Int)))) && (decide ((0 : Int) < (((k : Nat) : Int) : Int)))), .val (.slice a l.length c)), (((true && !(decide (((dget l k).var : Int) < (0 : Int)))) && (decide ((0 : Int) < (((k : Nat) : Int) : Int)))), .val (.int .i64 (((k : Nat) : Int)))), (((true && !(decide (((dget l k).var : Int) < (0 : Int)))) && (decide ((0 : Int) < (((k : Nat) : Int) : Int)))), .val (.pointer (some ⟨b4, o5 + k * 3, none⟩))), (((true && !(decide (((dget l k).var : Int) < (0 : Int)))) && (decide ((0 : Int) < (((k : Nat) : Int) : Int)))), .val (.pointer (some ⟨b4, o5 + k * 3, none⟩))), (((true && !(decide (((dget l k).var : Int) < (0 : Int)))) && (decide ((0 : Int) < (((k : Nat) : Int) : Int)))), .val (.int .i64 ((dget l k).var))), (((true && !(decide (((dget l k).var : Int) < (0 : Int)))) && (decide ((0 : Int) < (((k : Nat) : Int) : Int)))), .val (.slice a l.length c)), (((true && !(decide (((dget l k).var : Int) < (0 : Int)))) && (decide ((0 : Int) < (((k : Nat) : Int) : Int)))), .val (.int .i64 (((k : Nat) : Int)))), (((true && !(decide (((dget l k).var : Int) < (0 : Int)))) && (decide ((0 : Int) < (((k : Nat) : Int) : Int)))), .val (.int .i64 ((((k - 1) : Nat) : Int)))), (((true && !(decide (((dget l k).var : Int) < (0 : Int)))) && (decide ((0 : Int) < (((k : Nat) : Int) : Int)))), .val (.pointer (some ⟨b4, o5 + ((k - 1)) * 3, none⟩))), (((true && !(decide (((dget l k).var : Int) < (0 : Int)))) && (decide ((0 : Int) < (((k : Nat) : Int) : Int)))), .val (.pointer (some ⟨b4, o5 + ((k - 1)) * 3, none⟩))), (((true && !(decide (((dget l k).var : Int) < (0 : Int)))) && (decide ((0 : Int) < (((k : Nat) : Int) : Int)))), .val (.int .i64 ((dget l ((k - 1))).var))), (((true && !(decide (((dget l k).var : Int) < (0 : Int)))) && (decide ((0 : Int) < (((k : Nat) : Int) : Int)))), .val (.bool ((decide (((dget l k).var : Int) ≤ ((dget l ((k - 1))).var : Int)))))), ((true && !(decide (((dget l k).var : Int) < (0 : Int)))), .val (.bool (((decide ((0 : Int) < (((k : Nat) : Int) : Int))) && (decide (((dget l k).var : Int) ≤ ((dget l ((k - 1))).var : Int))))))), (true, .val (.bool (((decide (((dget l k).var : Int) < (0 : Int))) || ((decide ((0 : Int) < (((k : Nat) : Int) : Int))) && (decide (((dget l k).var : Int) ≤ ((dget l ((k - 1))).var : Int)))))))), (true, .val (.bool (((decide (((dget l k).var : Int) < (0 : Int))) || ((decide ((0 : Int) < (((k : Nat) : Int) : Int))) && (decide (((dget l k).var : Int) ≤ ((dget l ((k - 1))).var : Int)))))))), ((true && !((decide (((dget l k).var : Int) < (0 : Int))) || ((decide ((0 : Int) < (((k : Nat) : Int) : Int))) && (decide (((dget l k).var : Int) ≤ ((dget l ((k - 1))).var : Int)))))), .val (.slice a l.length c)), ((true && !((decide (((dget l k).var : Int) < (0 : Int))) || ((decide ((0 : Int) < (((k : Nat) : Int) : Int))) && (decide (((dget l k).var : Int) ≤ ((dget l ((k - 1))).var : Int)))))), .val (.int .i64 (((k : Nat) : Int)))), ((true && !((decide (((dget l k).var : Int) < (0 : Int))) || ((decide ((0 : Int) < (((k : Nat) : Int) : Int))) && (decide (((dget l k).var : Int) ≤ ((dget l ((k - 1))).var : Int)))))), .val (.pointer (some ⟨b4, o5 + k * 3, none⟩))), ((true && !((decide (((dget l k).var : Int) < (0 : Int))) || ((decide ((0 : Int) < (((k : Nat) : Int) : Int))) && (decide (((dget l k).var : Int) ≤ ((dget l ((k - 1))).var : Int)))))), .val (.pointer (some ⟨b4, o5 + k * 3 + 1, none⟩))), ((true && !((decide (((dget l k).var : Int) < (0 : Int))) || ((decide ((0 : Int) < (((k : Nat) : Int) : Int))) && (decide (((dget l k).var : Int) ≤ ((dget l ((k - 1))).var : Int)))))), .val (.agg #[.int .i64 ((dget l k).t.f), .slice ((A6 k)) ((dget l k).t.args.length) ((C7 k))])), ((true && !((decide (((dget l k).var : Int) < (0 : Int))) || ((decide ((0 : Int) < (((k : Nat) : Int) : Int))) && (decide (((dget l k).var : Int) ≤ ((dget l ((k - 1))).var : Int)))))), .val (.slice a l.length c)), ((true && !((decide (((dget l k).var : Int) < (0 : Int))) || ((decide ((0 : Int) < (((k : Nat) : Int) : Int))) && (decide (((dget l k).var : Int) ≤ ((dget l ((k - 1))).var : Int)))))), .val (.int .i64 (((k : Nat) : Int)))), ((true && !((decide (((dget l k).var : Int) < (0 : Int))) || ((decide ((0 : Int) < (((k : Nat) : Int) : Int))) && (decide (((dget l k).var : Int) ≤ ((dget l ((k - 1))).var : Int)))))), .val (.pointer (some ⟨b4, o5 + k * 3, none⟩))), ((true && !((decide (((dget l k).var : Int) < (0 : Int))) || ((decide ((0 : Int) < (((k : Nat) : Int) : Int))) && (decide (((dget l k).var : Int) ≤ ((dget l ((k - 1))).var : Int)))))), .val (.pointer (some ⟨b4, o5 + k * 3, none⟩))), ((true && !((decide (((dget l k).var : Int) < (0 : Int))) || ((decide ((0 : Int) < (((k : Nat) : Int) : Int))) && (decide (((dget l k).var : Int) ≤ ((dget l ((k - 1))).var : Int)))))), .val (.int .i64 ((dget l k).var))), ((true && !((decide (((dget l k).var : Int) < (0 : Int))) || ((decide ((0 : Int) < (((k : Nat) : Int) : Int))) && (decide (((dget l k).var : Int) ≤ ((dget l ((k - 1))).var : Int)))))), .val (.bool ((dget l k).itself))), (true, .val (.bool ((((decide (((dget l k).var : Int) < (0 : Int))) || ((decide ((0 : Int) < (((k : Nat) : Int) : Int))) && (decide (((dget l k).var : Int) ≤ ((dget l ((k - 1))).var : Int))))) || (dget l k).itself))))] [(0, .slice a l.length c), (3, .int .i64 (((k : Nat) : Int))), (7, .bool ((decide ((((k : Nat) : Int) : Int) < (((l.length : Nat) : Int) : Int)))))] ⟨rfl, rfl, rfl, trivial⟩ (by kernel_rfl) (by kernel_rfl) (by kernel_rfl) ?_ ?_
      · refine ⟨⟨true, .none rfl, fun h w => optUndef h, fun zβ za zw zc => ?_⟩, ?_⟩
        · exact wp_move rfl (zc.kn.ev rfl) ⟨_, rfl, Below.refl _ _, optDef zβ rfl⟩
        refine ⟨⟨true, .none rfl, fun h w => optUndef h, fun zβ za zw zc => ?_⟩, ?_⟩
        · exact wp_move rfl (zc.kn.ev rfl) ⟨_, rfl, Below.refl _ _, optDef zβ rfl⟩
        refine ⟨⟨true, .none rfl, fun h w => optUndef h, fun zβ za zw zc => ?_⟩, ?_⟩
        · exact ix_23 (k := k) rfl ((show za.eval (.tmp 10) = za.tmps.getD 10 undef from rfl).trans (optVal (zc.dep 0 10 (by kernel_rfl)) rfl rfl)) (ha8 k (by first | omega | (simp; omega))) ((show za.eval (.tmp 11) = za.tmps.getD 11 undef from rfl).trans (optVal (zc.dep 1 11 (by kernel_rfl)) rfl rfl)) (by first | omega | (simp; omega)) ⟨_, rfl, Below.refl _ _, optDef zβ rfl⟩
        refine ⟨⟨true, .none rfl, fun h w => optUndef h, fun zβ za zw zc => ?_⟩, ?_⟩
        · exact fld_56_0 rfl ((show za.eval (.tmp 12) = za.tmps.getD 12 undef from rfl).trans (optVal (zc.dep 2 12 (by kernel_rfl)) rfl rfl)) ⟨_, rfl, Below.refl _ _, optDef zβ rfl⟩
        refine ⟨⟨true, .none rfl, fun h w => optUndef h, fun zβ za zw zc => ?_⟩, ?_⟩
        · exact ld_3 rfl ((show za.eval (.tmp 13) = za.tmps.getD 13 undef from rfl).trans (optVal (zc.dep 3 13 (by kernel_rfl)) rfl rfl)) (bkeeps (bstep hb2 zc.below) _ _ (hc9 k (by first | omega | (simp; omega))).1) ⟨_, rfl, Below.refl _ _, optDef zβ rfl⟩
        refine ⟨⟨true, .none rfl, fun h w => optUndef h, fun zβ za zw zc => ?_⟩, ?_⟩
        · exact lss_3 rfl ((show za.eval (.tmp 14) = za.tmps.getD 14 undef from rfl).trans (optVal (zc.dep 4 14 (by kernel_rfl)) rfl rfl)) (zc.kn.ev rfl) ⟨_, rfl, Below.refl _ _, optDef zβ rfl⟩
        refine ⟨⟨true, .none rfl, fun h w => optUndef h, fun zβ za zw zc => ?_⟩, ?_⟩
        · exact wp_move rfl ((show za.eval (.tmp 15) = za.tmps.getD 15 undef from rfl).trans (optVal (zc.dep 5 15 (by kernel_rfl)) rfl rfl)) ⟨_, rfl, Below.refl _ _, optDef zβ rfl⟩
        refine ⟨⟨(true && !(decide (((dget l k).var : Int) < (0 : Int)))), .no (c := (decide (((dget l k).var : Int) < (0 : Int)))) (d := true) rfl (fun v w h => h), fun h w => optUndef h, fun zβ za zw zc => ?_⟩, ?_⟩
        · exact wp_move rfl (zc.kn.ev rfl) ⟨_, rfl, Below.refl _ _, optDef zβ rfl⟩
        refine ⟨⟨(true && !(decide (((dget l k).var : Int) < (0 : Int)))), .no (c := (decide (((dget l k).var : Int) < (0 : Int)))) (d := true) rfl (fun v w h => h), fun h w => optUndef h, fun zβ za zw zc => ?_⟩, ?_⟩
        · exact gtr_3 rfl ((show za.eval (.tmp 17) = za.tmps.getD 17 undef from rfl).trans (optVal (zc.dep 7 17 (by kernel_rfl)) rfl zβ)) (zc.kn.ev rfl) ⟨_, rfl, Below.refl _ _, optDef zβ rfl⟩
        refine ⟨⟨(true && !(decide (((dget l k).var : Int) < (0 : Int)))), .no (c := (decide (((dget l k).var : Int) < (0 : Int)))) (d := true) rfl (fun v w h => h), fun h w => optUndef h, fun zβ za zw zc => ?_⟩, ?_⟩
        · exact wp_move rfl ((show za.eval (.tmp 18) = za.tmps.getD 18 undef from rfl).trans (optVal (zc.dep 8 18 (by kernel_rfl)) rfl zβ)) ⟨_, rfl, Below.refl _ _, optDef zβ rfl⟩
        refine ⟨⟨((true && !(decide (((dget l k).var : Int) < (0 : Int)))) && (decide ((0 : Int) < (((k : Nat) : Int) : Int)))), .yes (c := (decide ((0 : Int) < (((k : Nat) : Int) : Int)))) (d := (true && !(decide (((dget l k).var : Int) < (0 : Int))))) rfl (fun v w h => h), fun h w => optUndef h, fun zβ za zw zc => ?_⟩, ?_⟩
        · exact wp_move rfl (zc.kn.ev rfl) ⟨_, rfl, Below.refl _ _, optDef zβ rfl⟩
        refine ⟨⟨((true && !(decide (((dget l k).var : Int) < (0 : Int)))) && (decide ((0 : Int) < (((k : Nat) : Int) : Int)))), .yes (c := (decide ((0 : Int) < (((k : Nat) : Int) : Int)))) (d := (true && !(decide (((dget l k).var : Int) < (0 : Int))))) rfl (fun v w h => h), fun h w => optUndef h, fun zβ za zw zc => ?_⟩, ?_⟩
        · exact wp_move rfl (zc.kn.ev rfl) ⟨_, rfl, Below.refl _ _, optDef zβ rfl⟩
        refine ⟨⟨((true && !(decide (((dget l k).var : Int) < (0 : Int)))) && (decide ((0 : Int) < (((k : Nat) : Int) : Int)))), .yes (c := (decide ((0 : Int) < (((k : Nat) : Int) : Int)))) (d := (true && !(decide (((dget l k).var : Int) < (0 : Int))))) rfl (fun v w h => h), fun h w => optUndef h, fun zβ za zw zc => ?_⟩, ?_⟩
        · exact ix_23 (k := k) rfl ((show za.eval (.tmp 20) = za.tmps.getD 20 undef from rfl).trans (optVal (zc.dep 10 20 (by kernel_rfl)) rfl zβ)) (ha8 k (by first | omega | (have zz := zβ; simp only [Bool.and_eq_true, Bool.or_eq_true, Bool.true_and, Bool.not_eq_true', Bool.or_eq_false_iff, Bool.and_eq_false_iff, beq_eq_false_iff_ne, ne_eq, beq_iff_eq, decide_eq_true_eq, decide_eq_false_iff_not, bne_iff_ne] at zz; omega))) ((show za.eval (.tmp 21) = za.tmps.getD 21 undef from rfl).trans (optVal (zc.dep 11 21 (by kernel_rfl)) rfl zβ)) (by first | omega | (have zz := zβ; simp only [Bool.and_eq_true, Bool.or_eq_true, Bool.true_and, Bool.not_eq_true', Bool.or_eq_false_iff, Bool.and_eq_false_iff, beq_eq_false_iff_ne, ne_eq, beq_iff_eq, decide_eq_true_eq, decide_eq_false_iff_not, bne_iff_ne] at zz; omega)) ⟨_, rfl, Below.refl _ _, optDef zβ rfl⟩
        refine ⟨⟨((true && !(decide (((dget l k).var : Int) < (0 : Int)))) && (decide ((0 : Int) < (((k : Nat) : Int) : Int)))), .yes (c := (decide ((0 : Int) < (((k : Nat) : Int) : Int)))) (d := (true && !(decide (((dget l k).var : Int) < (0 : Int))))) rfl (fun v w h => h), fun h w => optUndef h, fun zβ za zw zc => ?_⟩, ?_⟩
        · exact fld_56_0 rfl ((show za.eval (.tmp 22) = za.tmps.getD 22 undef from rfl).trans (optVal (zc.dep 12 22 (by kernel_rfl)) rfl zβ)) ⟨_, rfl, Below.refl _ _, optDef zβ rfl⟩
        refine ⟨⟨((true && !(decide (((dget l k).var : Int) < (0 : Int)))) && (decide ((0 : Int) < (((k : Nat) : Int) : Int)))), .yes (c := (decide ((0 : Int) < (((k : Nat) : Int) : Int)))) (d := (true && !(decide (((dget l k).var : Int) < (0 : Int))))) rfl (fun v w h => h), fun h w => optUndef h, fun zβ za zw zc => ?_⟩, ?_⟩
        · exact ld_3 rfl ((show za.eval (.tmp 23) = za.tmps.getD 23 undef from rfl).trans (optVal (zc.dep 13 23 (by kernel_rfl)) rfl zβ)) (bkeeps (bstep hb2 zc.below) _ _ (hc9 k (by first | omega | (have zz := zβ; simp only [Bool.and_eq_true, Bool.or_eq_true, Bool.true_and, Bool.not_eq_true', Bool.or_eq_false_iff, Bool.and_eq_false_iff, beq_eq_false_iff_ne, ne_eq, beq_iff_eq, decide_eq_true_eq, decide_eq_false_iff_not, bne_iff_ne] at zz; omega))).1) ⟨_, rfl, Below.refl _ _, optDef zβ rfl⟩
        refine ⟨⟨((true && !(decide (((dget l k).var : Int) < (0 : Int)))) && (decide ((0 : Int) < (((k : Nat) : Int) : Int)))), .yes (c := (decide ((0 : Int) < (((k : Nat) : Int) : Int)))) (d := (true && !(decide (((dget l k).var : Int) < (0 : Int))))) rfl (fun v w h => h), fun h w => optUndef h, fun zβ za zw zc => ?_⟩, ?_⟩
        · exact wp_move rfl (zc.kn.ev rfl) ⟨_, rfl, Below.refl _ _, optDef zβ rfl⟩
        refine ⟨⟨((true && !(decide (((dget l k).var : Int) < (0 : Int)))) && (decide ((0 : Int) < (((k : Nat) : Int) : Int)))), .yes (c := (decide ((0 : Int) < (((k : Nat) : Int) : Int)))) (d := (true && !(decide (((dget l k).var : Int) < (0 : Int))))) rfl (fun v w h => h), fun h w => optUndef h, fun zβ za zw zc => ?_⟩, ?_⟩
        · exact wp_move rfl (zc.kn.ev rfl) ⟨_, rfl, Below.refl _ _, optDef zβ rfl⟩
        refine ⟨⟨((true && !(decide (((dget l k).var : Int) < (0 : Int)))) && (decide ((0 : Int) < (((k : Nat) : Int) : Int)))), .yes (c := (decide ((0 : Int) < (((k : Nat) : Int) : Int)))) (d := (true && !(decide (((dget l k).var : Int) < (0 : Int))))) rfl (fun v w h => h), fun h w => optUndef h, fun zβ za zw zc => ?_⟩, ?_⟩
        · exact subb_3 rfl ((show za.eval (.tmp 26) = za.tmps.getD 26 undef from rfl).trans (optVal (zc.dep 16 26 (by kernel_rfl)) rfl zβ)) (zc.kn.ev rfl) (wrap_eq (by have zz := zβ; simp at zz; omega) (by omega) (by omega)) ⟨_, rfl, Below.refl _ _, optDef zβ rfl⟩
        refine ⟨⟨((true && !(decide (((dget l k).var : Int) < (0 : Int)))) && (decide ((0 : Int) < (((k : Nat) : Int) : Int)))), .yes (c := (decide ((0 : Int) < (((k : Nat) : Int) : Int)))) (d := (true && !(decide (((dget l k).var : Int) < (0 : Int))))) rfl (fun v w h => h), fun h w => optUndef h, fun zβ za zw zc => ?_⟩, ?_⟩
        · exact ix_23 (k := (k - 1)) rfl ((show za.eval (.tmp 25) = za.tmps.getD 25 undef from rfl).trans (optVal (zc.dep 15 25 (by kernel_rfl)) rfl zβ)) (ha8 ((k - 1)) (by first | omega | (have zz := zβ; simp only [Bool.and_eq_true, Bool.or_eq_true, Bool.true_and, Bool.not_eq_true', Bool.or_eq_false_iff, Bool.and_eq_false_iff, beq_eq_false_iff_ne, ne_eq, beq_iff_eq, decide_eq_true_eq, decide_eq_false_iff_not, bne_iff_ne] at zz; omega))) ((show za.eval (.tmp 27) = za.tmps.getD 27 undef from rfl).trans (optVal (zc.dep 17 27 (by kernel_rfl)) rfl zβ)) (by first | omega | (have zz := zβ; simp only [Bool.and_eq_true, Bool.or_eq_true, Bool.true_and, Bool.not_eq_true', Bool.or_eq_false_iff, Bool.and_eq_false_iff, beq_eq_false_iff_ne, ne_eq, beq_iff_eq, decide_eq_true_eq, decide_eq_false_iff_not, bne_iff_ne] at zz; omega)) ⟨_, rfl, Below.refl _ _, optDef zβ rfl⟩
        refine ⟨⟨((true && !(decide (((dget l k).var : Int) < (0 : Int)))) && (decide ((0 : Int) < (((k : Nat) : Int) : Int)))), .yes (c := (decide ((0 : Int) < (((k : Nat) : Int) : Int)))) (d := (true && !(decide (((dget l k).var : Int) < (0 : Int))))) rfl (fun v w h => h), fun h w => optUndef h, fun zβ za zw zc => ?_⟩, ?_⟩
        · exact fld_56_0 rfl ((show za.eval (.tmp 28) = za.tmps.getD 28 undef from rfl).trans (optVal (zc.dep 18 28 (by kernel_rfl)) rfl zβ)) ⟨_, rfl, Below.refl _ _, optDef zβ rfl⟩
        refine ⟨⟨((true && !(decide (((dget l k).var : Int) < (0 : Int)))) && (decide ((0 : Int) < (((k : Nat) : Int) : Int)))), .yes (c := (decide ((0 : Int) < (((k : Nat) : Int) : Int)))) (d := (true && !(decide (((dget l k).var : Int) < (0 : Int))))) rfl (fun v w h => h), fun h w => optUndef h, fun zβ za zw zc => ?_⟩, ?_⟩
        · exact ld_3 rfl ((show za.eval (.tmp 29) = za.tmps.getD 29 undef from rfl).trans (optVal (zc.dep 19 29 (by kernel_rfl)) rfl zβ)) (bkeeps (bstep hb2 zc.below) _ _ (hc9 ((k - 1)) (by first | omega | (have zz := zβ; simp only [Bool.and_eq_true, Bool.or_eq_true, Bool.true_and, Bool.not_eq_true', Bool.or_eq_false_iff, Bool.and_eq_false_iff, beq_eq_false_iff_ne, ne_eq, beq_iff_eq, decide_eq_true_eq, decide_eq_false_iff_not, bne_iff_ne] at zz; omega))).1) ⟨_, rfl, Below.refl _ _, optDef zβ rfl⟩
        refine ⟨⟨((true && !(decide (((dget l k).var : Int) < (0 : Int)))) && (decide ((0 : Int) < (((k : Nat) : Int) : Int)))), .yes (c := (decide ((0 : Int) < (((k : Nat) : Int) : Int)))) (d := (true && !(decide (((dget l k).var : Int) < (0 : Int))))) rfl (fun v w h => h), fun h w => optUndef h, fun zβ za zw zc => ?_⟩, ?_⟩
        · exact leq_3 rfl ((show za.eval (.tmp 24) = za.tmps.getD 24 undef from rfl).trans (optVal (zc.dep 14 24 (by kernel_rfl)) rfl zβ)) ((show za.eval (.tmp 30) = za.tmps.getD 30 undef from rfl).trans (optVal (zc.dep 20 30 (by kernel_rfl)) rfl zβ)) ⟨_, rfl, Below.refl _ _, optDef zβ rfl⟩
        refine ⟨⟨(true && !(decide (((dget l k).var : Int) < (0 : Int)))), .no (c := (decide (((dget l k).var : Int) < (0 : Int)))) (d := true) rfl (fun v w h => h), fun h w => optUndef h, fun zβ za zw zc => ?_⟩, ?_⟩
        · exact wp_and rfl ((show za.eval (.tmp 19) = za.tmps.getD 19 undef from rfl).trans (optVal (zc.dep 9 19 (by kernel_rfl)) rfl zβ)) (fun hp => ((show za.eval (.tmp 31) = za.tmps.getD 31 undef from rfl).trans (optVal (zc.dep 21 31 (by kernel_rfl)) rfl (bMk zβ hp)))) ⟨_, rfl, Below.refl _ _, optDef zβ rfl⟩
        refine ⟨⟨true, .none rfl, fun h w => optUndef h, fun zβ za zw zc => ?_⟩, ?_⟩
        · exact wp_or rfl ((show za.eval (.tmp 16) = za.tmps.getD 16 undef from rfl).trans (optVal (zc.dep 6 16 (by kernel_rfl)) rfl rfl)) (fun hp => ((show za.eval (.tmp 32) = za.tmps.getD 32 undef from rfl).trans (optVal (zc.dep 22 32 (by kernel_rfl)) rfl (bMkN zβ hp)))) ⟨_, rfl, Below.refl _ _, optDef zβ rfl⟩
        refine ⟨⟨true, .none rfl, fun h w => optUndef h, fun zβ za zw zc => ?_⟩, ?_⟩
        · exact wp_move rfl ((show za.eval (.tmp 33) = za.tmps.getD 33 undef from rfl).trans (optVal (zc.dep 23 33 (by kernel_rfl)) rfl rfl)) ⟨_, rfl, Below.refl _ _, optDef zβ rfl⟩
        refine ⟨⟨(true && !((decide (((dget l k).var : Int) < (0 : Int))) || ((decide ((0 : Int) < (((k : Nat) : Int) : Int))) && (decide (((dget l k).var : Int) ≤ ((dget l ((k - 1))).var : Int)))))), .no (c := ((decide (((dget l k).var : Int) < (0 : Int))) || ((decide ((0 : Int) < (((k : Nat) : Int) : Int))) && (decide (((dget l k).var : Int) ≤ ((dget l ((k - 1))).var : Int)))))) (d := true) rfl (fun v w h => h), fun h w => optUndef h, fun zβ za zw zc => ?_⟩, ?_⟩
        · exact wp_move rfl (zc.kn.ev rfl) ⟨_, rfl, Below.refl _ _, optDef zβ rfl⟩
        refine ⟨⟨(true && !((decide (((dget l k).var : Int) < (0 : Int))) || ((decide ((0 : Int) < (((k : Nat) : Int) : Int))) && (decide (((dget l k).var : Int) ≤ ((dget l ((k - 1))).var : Int)))))), .no (c := ((decide (((dget l k).var : Int) < (0 : Int))) || ((decide ((0 : Int) < (((k : Nat) : Int) : Int))) && (decide (((dget l k).var : Int) ≤ ((dget l ((k - 1))).var : Int)))))) (d := true) rfl (fun v w h => h), fun h w => optUndef h, fun zβ za zw zc => ?_⟩, ?_⟩
        · exact wp_move rfl (zc.kn.ev rfl) ⟨_, rfl, Below.refl _ _, optDef zβ rfl⟩
        refine ⟨⟨(true && !((decide (((dget l k).var : Int) < (0 : Int))) || ((decide ((0 : Int) < (((k : Nat) : Int) : Int))) && (decide (((dget l k).var : Int) ≤ ((dget l ((k - 1))).var : Int)))))), .no (c := ((decide (((dget l k).var : Int) < (0 : Int))) || ((decide ((0 : Int) < (((k : Nat) : Int) : Int))) && (decide (((dget l k).var : Int) ≤ ((dget l ((k - 1))).var : Int)))))) (d := true) rfl (fun v w h => h), fun h w => optUndef h, fun zβ za zw zc => ?_⟩, ?_⟩
        · exact ix_23 (k := k) rfl ((show za.eval (.tmp 35) = za.tmps.getD 35 undef from rfl).trans (optVal (zc.dep 25 35 (by kernel_rfl)) rfl zβ)) (ha8 k (by first | omega | (have zz := zβ; simp only [Bool.and_eq_true, Bool.or_eq_true, Bool.true_and, Bool.not_eq_true', Bool.or_eq_false_iff, Bool.and_eq_false_iff, beq_eq_false_iff_ne, ne_eq, beq_iff_eq, decide_eq_true_eq, decide_eq_false_iff_not, bne_iff_ne] at zz; omega))) ((show za.eval (.tmp 36) = za.tmps.getD 36 undef from rfl).trans (optVal (zc.dep 26 36 (by kernel_rfl)) rfl zβ)) (by first | omega | (have zz := zβ; simp only [Bool.and_eq_true, Bool.or_eq_true, Bool.true_and, Bool.not_eq_true', Bool.or_eq_false_iff, Bool.and_eq_false_iff, beq_eq_false_iff_ne, ne_eq, beq_iff_eq, decide_eq_true_eq, decide_eq_false_iff_not, bne_iff_ne] at zz; omega)) ⟨_, rfl, Below.refl _ _, optDef zβ rfl⟩
        refine ⟨⟨(true && !((decide (((dget l k).var : Int) < (0 : Int))) || ((decide ((0 : Int) < (((k : Nat) : Int) : Int))) && (decide (((dget l k).var : Int) ≤ ((dget l ((k - 1))).var : Int)))))), .no (c := ((decide (((dget l k).var : Int) < (0 : Int))) || ((decide ((0 : Int) < (((k : Nat) : Int) : Int))) && (decide (((dget l k).var : Int) ≤ ((dget l ((k - 1))).var : Int)))))) (d := true) rfl (fun v w h => h), fun h w => optUndef h, fun zβ za zw zc => ?_⟩, ?_⟩
        · exact fld_56_1 rfl ((show za.eval (.tmp 37) = za.tmps.getD 37 undef from rfl).trans (optVal (zc.dep 27 37 (by kernel_rfl)) rfl zβ)) ⟨_, rfl, Below.refl _ _, optDef zβ rfl⟩
        refine ⟨⟨(true && !((decide (((dget l k).var : Int) < (0 : Int))) || ((decide ((0 : Int) < (((k : Nat) : Int) : Int))) && (decide (((dget l k).var : Int) ≤ ((dget l ((k - 1))).var : Int)))))), .no (c := ((decide (((dget l k).var : Int) < (0 : Int))) || ((decide ((0 : Int) < (((k : Nat) : Int) : Int))) && (decide (((dget l k).var : Int) ≤ ((dget l ((k - 1))).var : Int)))))) (d := true) rfl (fun v w h => h), fun h w => optUndef h, fun zβ za zw zc => ?_⟩, ?_⟩
        · exact ld_32 rfl ((show za.eval (.tmp 38) = za.tmps.getD 38 undef from rfl).trans (optVal (zc.dep 28 38 (by kernel_rfl)) rfl zβ)) (bkeeps (bstep hb2 zc.below) _ _ (hc9 k (by first | omega | (have zz := zβ; simp only [Bool.and_eq_true, Bool.or_eq_true, Bool.true_and, Bool.not_eq_true', Bool.or_eq_false_iff, Bool.and_eq_false_iff, beq_eq_false_iff_ne, ne_eq, beq_iff_eq, decide_eq_true_eq, decide_eq_false_iff_not, bne_iff_ne] at zz; omega))).2.1) (bkeeps (bstep hb2 zc.below) _ _ (hc9 k (by first | omega | (have zz := zβ; simp only [Bool.and_eq_true, Bool.or_eq_true, Bool.true_and, Bool.not_eq_true', Bool.or_eq_false_iff, Bool.and_eq_false_iff, beq_eq_false_iff_ne, ne_eq, beq_iff_eq, decide_eq_true_eq, decide_eq_false_iff_not, bne_iff_ne] at zz; omega))).2.2.1) ⟨_, rfl, Below.refl _ _, optDef zβ rfl⟩
        refine ⟨⟨(true && !((decide (((dget l k).var : Int) < (0 : Int))) || ((decide ((0 : Int) < (((k : Nat) : Int) : Int))) && (decide (((dget l k).var : Int) ≤ ((dget l ((k - 1))).var : Int)))))), .no (c := ((decide (((dget l k).var : Int) < (0 : Int))) || ((decide ((0 : Int) < (((k : Nat) : Int) : Int))) && (decide (((dget l k).var : Int) ≤ ((dget l ((k - 1))).var : Int)))))) (d := true) rfl (fun v w h => h), fun h w => optUndef h, fun zβ za zw zc => ?_⟩, ?_⟩
        · exact wp_move rfl (zc.kn.ev rfl) ⟨_, rfl, Below.refl _ _, optDef zβ rfl⟩
        refine ⟨⟨(true && !((decide (((dget l k).var : Int) < (0 : Int))) || ((decide ((0 : Int) < (((k : Nat) : Int) : Int))) && (decide (((dget l k).var : Int) ≤ ((dget l ((k - 1))).var : Int)))))), .no (c := ((decide (((dget l k).var : Int) < (0 : Int))) || ((decide ((0 : Int) < (((k : Nat) : Int) : Int))) && (decide (((dget l k).var : Int) ≤ ((dget l ((k - 1))).var : Int)))))) (d := true) rfl (fun v w h => h), fun h w => optUndef h, fun zβ za zw zc => ?_⟩, ?_⟩
        · exact wp_move rfl (zc.kn.ev rfl) ⟨_, rfl, Below.refl _ _, optDef zβ rfl⟩
        refine ⟨⟨(true && !((decide (((dget l k).var : Int) < (0 : Int))) || ((decide ((0 : Int) < (((k : Nat) : Int) : Int))) && (decide (((dget l k).var : Int) ≤ ((dget l ((k - 1))).var : Int)))))), .no (c := ((decide (((dget l k).var : Int) < (0 : Int))) || ((decide ((0 : Int) < (((k : Nat) : Int) : Int))) && (decide (((dget l k).var : Int) ≤ ((dget l ((k - 1))).var : Int)))))) (d := true) rfl (fun v w h => h), fun h w => optUndef h, fun zβ za zw zc => ?_⟩, ?_⟩
        · exact ix_23 (k := k) rfl ((show za.eval (.tmp 40) = za.tmps.getD 40 undef from rfl).trans (optVal (zc.dep 30 40 (by kernel_rfl)) rfl zβ)) (ha8 k (by first | omega | (have zz := zβ; simp only [Bool.and_eq_true, Bool.or_eq_true, Bool.true_and, Bool.not_eq_true', Bool.or_eq_false_iff, Bool.and_eq_false_iff, beq_eq_false_iff_ne, ne_eq, beq_iff_eq, decide_eq_true_eq, decide_eq_false_iff_not, bne_iff_ne] at zz; omega))) ((show za.eval (.tmp 41) = za.tmps.getD 41 undef from rfl).trans (optVal (zc.dep 31 41 (by kernel_rfl)) rfl zβ)) (by first | omega | (have zz := zβ; simp only [Bool.and_eq_true, Bool.or_eq_true, Bool.true_and, Bool.not_eq_true', Bool.or_eq_false_iff, Bool.and_eq_false_iff, beq_eq_false_iff_ne, ne_eq, beq_iff_eq, decide_eq_true_eq, decide_eq_false_iff_not, bne_iff_ne] at zz; omega)) ⟨_, rfl, Below.refl _ _, optDef zβ rfl⟩
        refine ⟨⟨(true && !((decide (((dget l k).var : Int) < (0 : Int))) || ((decide ((0 : Int) < (((k : Nat) : Int) : Int))) && (decide (((dget l k).var : Int) ≤ ((dget l ((k - 1))).var : Int)))))), .no (c := ((decide (((dget l k).var : Int) < (0 : Int))) || ((decide ((0 : Int) < (((k : Nat) : Int) : Int))) && (decide (((dget l k).var : Int) ≤ ((dget l ((k - 1))).var : Int)))))) (d := true) rfl (fun v w h => h), fun h w => optUndef h, fun zβ za zw zc => ?_⟩, ?_⟩
        · exact fld_56_0 rfl ((show za.eval (.tmp 42) = za.tmps.getD 42 undef from rfl).trans (optVal (zc.dep 32 42 (by kernel_rfl)) rfl zβ)) ⟨_, rfl, Below.refl _ _, optDef zβ rfl⟩
        refine ⟨⟨(true && !((decide (((dget l k).var : Int) < (0 : Int))) || ((decide ((0 : Int) < (((k : Nat) : Int) : Int))) && (decide (((dget l k).var : Int) ≤ ((dget l ((k - 1))).var : Int)))))), .no (c := ((decide (((dget l k).var : Int) < (0 : Int))) || ((decide ((0 : Int) < (((k : Nat) : Int) : Int))) && (decide (((dget l k).var : Int) ≤ ((dget l ((k - 1))).var : Int)))))) (d := true) rfl (fun v w h => h), fun h w => optUndef h, fun zβ za zw zc => ?_⟩, ?_⟩
        · exact ld_3 rfl ((show za.eval (.tmp 43) = za.tmps.getD 43 undef from rfl).trans (optVal (zc.dep 33 43 (by kernel_rfl)) rfl zβ)) (bkeeps (bstep hb2 zc.below) _ _ (hc9 k (by first | omega | (have zz := zβ; simp only [Bool.and_eq_true, Bool.or_eq_true, Bool.true_and, Bool.not_eq_true', Bool.or_eq_false_iff, Bool.and_eq_false_iff, beq_eq_false_iff_ne, ne_eq, beq_iff_eq, decide_eq_true_eq, decide_eq_false_iff_not, bne_iff_ne] at zz; omega))).1) ⟨_, rfl, Below.refl _ _, optDef zβ rfl⟩
        refine ⟨⟨(true && !((decide (((dget l k).var : Int) < (0 : Int))) || ((decide ((0 : Int) < (((k : Nat) : Int) : Int))) && (decide (((dget l k).var : Int) ≤ ((dget l ((k - 1))).var : Int)))))), .no (c := ((decide (((dget l k).var : Int) < (0 : Int))) || ((decide ((0 : Int) < (((k : Nat) : Int) : Int))) && (decide (((dget l k).var : Int) ≤ ((dget l ((k - 1))).var : Int)))))) (d := true) rfl (fun v w h => h), fun h w => optUndef h, fun zβ za zw zc => ?_⟩, ?_⟩
        · exact wp_call (by kernel_rfl) rfl (hv2 ((show za.eval (.tmp 39) = za.tmps.getD 39 undef from rfl).trans (optVal (zc.dep 29 39 (by kernel_rfl)) rfl zβ)) ((show za.eval (.tmp 44) = za.tmps.getD 44 undef from rfl).trans (optVal (zc.dep 34 44 (by kernel_rfl)) rfl zβ))) (ritself_any (dget l k) _ _ (hc9 k (by first | omega | (have zz := zβ; simp only [Bool.and_eq_true, Bool.or_eq_true, Bool.true_and, Bool.not_eq_true', Bool.or_eq_false_iff, Bool.and_eq_false_iff, beq_eq_false_iff_ne, ne_eq, beq_iff_eq, decide_eq_true_eq, decide_eq_false_iff_not, bne_iff_ne] at zz; omega))).2.2.2.2 (IsT.below (bstep hb2 zc.below) (InT.isT (hc9 k (by first | omega | (have zz := zβ; simp only [Bool.and_eq_true, Bool.or_eq_true, Bool.true_and, Bool.not_eq_true', Bool.or_eq_false_iff, Bool.and_eq_false_iff, beq_eq_false_iff_ne, ne_eq, beq_iff_eq, decide_eq_true_eq, decide_eq_false_iff_not, bne_iff_ne] at zz; omega))).2.2.2.1))) (fun v w' h => ⟨v, rfl, h.2, optDef zβ h.1⟩)
        refine ⟨⟨true, .none rfl, fun h w => optUndef h, fun zβ za zw zc => ?_⟩, ?_⟩
        · exact wp_or rfl ((show za.eval (.tmp 34) = za.tmps.getD 34 undef from rfl).trans (optVal (zc.dep 24 34 (by kernel_rfl)) rfl rfl)) (fun hp => ((show za.eval (.tmp 45) = za.tmps.getD 45 undef from rfl).trans (optVal (zc.dep 35 45 (by kernel_rfl)) rfl (bMkN zβ hp)))) ⟨_, rfl, Below.refl _ _, optDef zβ rfl⟩
        exact trivial
      · intro za w10 zh hb11 zu
        have zh := zh.cons (d := 46) (v := .bool ((((decide (((dget l k).var : Int) < (0 : Int))) || ((decide ((0 : Int) < (((k : Nat) : Int) : Int))) && (decide (((dget l k).var : Int) ≤ ((dget l ((k - 1))).var : Int))))) || (dget l k).itself))) (optVal (zu 36 46 (by kernel_rfl)) rfl rfl)
        clear zu
        refine (show WE _ [(0, .slice a l.length c), (3, .int .i64 (((k : Nat) : Int))), (7, .bool ((decide ((((k : Nat) : Int) : Int) < (((l.length : Nat) : Int) : Int))))), (46, .bool ((((decide (((dget l k).var : Int) < (0 : Int))) || ((decide ((0 : Int) < (((k : Nat) : Int) : Int))) && (decide (((dget l k).var : Int) ≤ ((dget l ((k - 1))).var : Int))))) || (dget l k).itself)))] w10 _ .normal from ?_) za (zh.sub ⟨rfl, rfl, rfl, rfl, trivial⟩)
        refine WE.next ?_
        refine WC.cond rfl (fun h12 => ?_) (fun h12 => ?_)
        · have h12 : ((((dget l k).var : Int) < (0 : Int)) ∨ (((0 : Int) < (((k : Nat) : Int) : Int)) ∧ (((dget l k).var : Int) ≤ ((dget l ((k - 1))).var : Int)))) ∨ ((dget l k).itself = true) := by simpa using h12
          refine WC.seq ?_
          refine WC.region ?_
          refine WL.val (.int .i64 2) rfl rfl rfl (fun za zC zh zk => wp_assign rfl (zh.ev rfl) zk) ?_
          refine WL.nil (WE.sub (K' := [(0, .slice a l.length c), (2, .int .i64 2), (3, .int .i64 (((k : Nat) : Int))), (7, .bool ((decide ((((k : Nat) : Int) : Int) < (((l.length : Nat) : Int) : Int))))), (46, .bool ((((decide (((dget l k).var : Int) < (0 : Int))) || ((decide ((0 : Int) < (((k : Nat) : Int) : Int))) && (decide (((dget l k).var : Int) ≤ ((dget l ((k - 1))).var : Int))))) || (dget l k).itself)))]) ⟨rfl, rfl, rfl, rfl, rfl, trivial⟩ ?_)
          refine WE.next ?_
          refine WC.ret ?_
          refine WE.blockRet ?_
          refine WE.thenRet ?_
          refine WE.thenRet ?_
          refine WE.blockRet ?_
          refine WE.thenRet ?_
          refine WE.ret1 rfl rfl ?_
          have hb13 : Below w.heap.size w w10 := (bstep hb2 hb11)
          exact ⟨_, rfl, congrArg (Value.int .i64) (by rw [subCheck_of (okTo_no (k := k) (by omega) (by rcases h12 with (h | ⟨h, h2⟩) | h; exact .inl h; exact .inr (.inl ⟨by omega, h2⟩); exact .inr (.inr h)))]; rfl), hb13⟩
        · have h12 : ¬ (((((dget l k).var : Int) < (0 : Int)) ∨ (((0 : Int) < (((k : Nat) : Int) : Int)) ∧ (((dget l k).var : Int) ≤ ((dget l ((k - 1))).var : Int)))) ∨ ((dget l k).itself = true)) := by simpa using h12
          refine WC.skip ?_
          refine WE.blockNormal ?_
          refine WE.next ?_
          refine WC.region ?_
          refine WL.val (.int .i64 (((k : Nat) : Int))) rfl rfl rfl (fun za zC zh zk => wp_move rfl (zh.ev rfl) zk) ?_
          refine WL.val (.int .i64 ((((k + 1) : Nat) : Int))) rfl rfl rfl (fun za zC zh zk => addb_3 rfl (zh.ev rfl) (zh.ev rfl) (wrap_eq (by omega) (by omega) (by omega)) zk) ?_
          refine WL.val (.int .i64 ((((k + 1) : Nat) : Int))) rfl rfl rfl (fun za zC zh zk => wp_assign rfl (zh.ev rfl) zk) ?_
          refine WL.nil (WE.sub (K' := [(0, .slice a l.length c), (3, .int .i64 ((((k + 1) : Nat) : Int))), (7, .bool ((decide ((((k : Nat) : Int) : Int) < (((l.length : Nat) : Int) : Int))))), (46, .bool ((((decide (((dget l k).var : Int) < (0 : Int))) || ((decide ((0 : Int) < (((k : Nat) : Int) : Int))) && (decide (((dget l k).var : Int) ≤ ((dget l ((k - 1))).var : Int))))) || (dget l k).itself)))]) ⟨rfl, rfl, rfl, rfl, trivial⟩ ?_)
          refine WE.round (k + 1) ⟨rfl, rfl, trivial⟩ ?_ ?_
          · have hb14 : Below w.heap.size w w10 := (bstep hb2 hb11)
            exact ⟨by omega, fun i hi => by rcases Nat.lt_or_ge i k with q | q; exact hE i q; (obtain rfl : i = k := by omega); have z := h12; simp at z; exact ⟨z.1.1, z.2, fun h0 => z.1.2 h0⟩, hb14⟩
          · omega
    · have h3 : ¬ ((((k : Nat) : Int) : Int) < (((l.length : Nat) : Int) : Int)) := by simpa using h3
      refine WC.exit ?_
      refine WE.thenExit ?_
      refine WE.thenExit ?_
      refine WE.blockIs rfl ?_
      refine WE.next ?_
      refine WC.seq ?_
      refine WC.region ?_
      refine WL.val (.int .i64 0) rfl rfl rfl (fun za zC zh zk => wp_assign rfl (zh.ev rfl) zk) ?_
      refine WL.nil (WE.sub (K' := [(0, .slice a l.length c), (2, .int .i64 0), (3, .int .i64 (((k : Nat) : Int))), (7, .bool ((decide ((((k : Nat) : Int) : Int) < (((l.length : Nat) : Int) : Int)))))]) ⟨rfl, rfl, rfl, rfl, trivial⟩ ?_)
      refine WE.next ?_
      refine WC.ret ?_
      refine WE.ret1 rfl rfl ?_
      exact ⟨_, rfl, congrArg (Value.int .i64) (by rw [subCheck_of (okTo_ok (fun i hi => hE i (by omega)))]; rfl), hb2⟩

end Go.Proofs.Ytgechlgdnnpoeaa

namespace Go.Proofs.Ytgechlgdnnpoeaa
open Go.RowKit Go
set_option maxRecDepth 100000



end Go.Proofs.Ytgechlgdnnpoeaa
