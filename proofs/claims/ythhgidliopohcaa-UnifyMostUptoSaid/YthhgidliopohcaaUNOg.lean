/- Operations, one law a kind and type. -/
import Derived.Test.YthhgidliopohcaaUNOe
import Derived.Test.YthhgidliopohcaaUNOf
import Derived.Test.YthhgidliopohcaaUNOc
import Derived.Test.YthhgidliopohcaaUNOa
import Derived.Test.YthhgidliopohcaaUNOb
import Derived.Test.YthhgidliopohcaaUNOd
import Derived.WalkKit

/- May pairs be asked? The document's program. -/
namespace Go.Proofs.Ythhgidliopohcaa
open Go.RowKit Go
set_option linter.unusedVariables false
set_option linter.unusedSimpArgs false
set_option maxRecDepth 100000 in
theorem rwide_any (l : List (T × T)) (w : World) (a : Option Addr) (c : Nat) (hl : IsPs w l a c) (hlz : l.length ≤ 1048576) (hsz : ∀ k, k < l.length → (prget l k).1.size ≤ 4294967296 ∧ (prget l k).2.size ≤ 4294967296) :
  Calls Try.prog 14 #[.slice a l.length c] w (Ret fun v' w' => v' = .bool (wideB l) ∧ Below w.heap.size w w') := by
 skip
 refine Calls.walk (l := [.slice a l.length c]) Try.func14 rfl (by kernel_rfl) ?_
 refine WC.sub (K' := [(0, .slice a l.length c)]) ⟨rfl, trivial⟩ ?_
 refine WC.seq (WC.region (WL.asg rfl rfl rfl rfl rfl (WL.nil (WE.next (WC.seq (WC.seq (WC.region (WL.mv rfl rfl rfl rfl rfl ?_))))))))
 refine WL.val (.int .i64 (((l.length : Nat) : Int))) rfl rfl rfl (fun za zC zh zk => len_22 rfl (zh.ev rfl) zk) ?_
 refine WL.val (.bool ((decide ((64 : Int) < (((l.length : Nat) : Int) : Int))))) rfl rfl rfl (fun za zC zh zk => gtr_3 rfl (zh.ev rfl) (zh.ev rfl) zk) ?_
 refine WL.nil (WE.next ?_)
 refine WC.cond rfl (fun h1 => ?_) (fun h1 => ?_)
 ·have h1 : (64 : Int) < (((l.length : Nat) : Int) : Int) := by simpa using h1
  refine WC.seq (WC.region (WL.asg rfl rfl rfl rfl rfl (WL.nil (WE.next (WC.ret (WE.thenRet (WE.ret1 rfl rfl ?_)))))))
  exact ⟨_, rfl, by rw [wide_len (by omega)], (Below.refl _ _)⟩
 ·have h1 : ¬ ((64 : Int) < (((l.length : Nat) : Int) : Int)) := by simpa using h1
  have h64 : l.length ≤ 64 := by omega
  refine WC.skip (WE.next (WC.seq (WC.seq (WC.region (WL.asg rfl rfl rfl rfl rfl (WL.nil (WE.next (WC.block ?_))))))))
  refine WC.loop (X := Nat) (fun p => l.length - p) (fun p => [(0, .slice a l.length c), (3, .int .i64 (((p : Nat) : Int))), (6, .bool ((decide ((64 : Int) < (((l.length : Nat) : Int) : Int)))))]) (fun p w2 => p ≤ l.length ∧ (∀ k, k < p → (prget l k).1.small 96 = true ∧ (prget l k).2.small 96 = true) ∧ Below w.heap.size w w2) 0 ⟨rfl, rfl, rfl, trivial⟩ ?_ ?_
  ·exact ⟨Nat.zero_le _, (fun k hk9 => absurd hk9 (Nat.not_lt_zero k)), (Below.refl _ _)⟩
  ·rintro p w2 ⟨hkp, hsm, hb3⟩
   refine WC.seq (WC.seq (WC.region (WL.mv rfl rfl rfl rfl rfl (WL.mv rfl rfl rfl rfl rfl ?_))))
   refine WL.val (.int .i64 (((l.length : Nat) : Int))) rfl rfl rfl (fun za zC zh zk => len_22 rfl (zh.ev rfl) zk) ?_
   refine WL.val (.bool ((decide ((((p : Nat) : Int) : Int) < (((l.length : Nat) : Int) : Int))))) rfl rfl rfl (fun za zC zh zk => lss_3 rfl (zh.ev rfl) (zh.ev rfl) zk) ?_
   refine WL.nil (WE.next ?_)
   refine WC.cond rfl (fun h4 => ?_) (fun h4 => ?_)
   ·have h4 : (((p : Nat) : Int) : Int) < (((l.length : Nat) : Int) : Int) := by simpa using h4
    refine WC.skip (WE.next (WC.seq (WC.block (WC.seq ?_))))
    obtain ⟨b5, o6, A7, C8, D9, E10, ha11, hc12⟩ := IsPs.open hl
    refine WC.opt [(true, .val (.slice a l.length c)), (true, .val (.int .i64 (((p : Nat) : Int)))), (true, .val (.pointer (some ⟨b5, o6 + p * 4, none⟩))), (true, .val (.pointer (some ⟨b5, o6 + p * 4, none⟩))), (true, .val (.agg #[.int .i64 ((prget l p).1.f), .slice ((A7 p)) ((prget l p).1.args.length) ((C8 p))])), (true, .val (.bool (((prget l p).1.small 96)))), (true, .val (.bool ((!((prget l p).1.small 96))))), (true, .val (.bool ((!((prget l p).1.small 96))))), ((true && !(!((prget l p).1.small 96))), .val (.slice a l.length c)), ((true && !(!((prget l p).1.small 96))), .val (.int .i64 (((p : Nat) : Int)))), ((true && !(!((prget l p).1.small 96))), .val (.pointer (some ⟨b5, o6 + p * 4, none⟩))), ((true && !(!((prget l p).1.small 96))), .val (.pointer (some ⟨b5, o6 + p * 4 + 2, none⟩))), ((true && !(!((prget l p).1.small 96))), .val (.agg #[.int .i64 ((prget l p).2.f), .slice ((D9 p)) ((prget l p).2.args.length) ((E10 p))])), ((true && !(!((prget l p).1.small 96))), .val (.bool (((prget l p).2.small 96)))), ((true && !(!((prget l p).1.small 96))), .val (.bool ((!((prget l p).2.small 96))))), (true, .val (.bool (((!((prget l p).1.small 96)) || (!((prget l p).2.small 96))))))] [(0, .slice a l.length c), (3, .int .i64 (((p : Nat) : Int))), (6, .bool ((decide ((64 : Int) < (((l.length : Nat) : Int) : Int))))), (10, .bool ((decide ((((p : Nat) : Int) : Int) < (((l.length : Nat) : Int) : Int)))))] ⟨rfl, rfl, rfl, rfl, trivial⟩ (by kernel_rfl) (by kernel_rfl) (by kernel_rfl) ?_ ?_
    ·refine ⟨⟨true, .none rfl, fun h w => optUndef h, fun zβ za zw zc => ?_⟩, ?_⟩
     ·exact wp_move rfl (zc.kn.ev rfl) ⟨_, rfl, Below.refl _ _, optDef zβ rfl⟩
     refine ⟨⟨true, .none rfl, fun h w => optUndef h, fun zβ za zw zc => ?_⟩, ?_⟩
     ·exact wp_move rfl (zc.kn.ev rfl) ⟨_, rfl, Below.refl _ _, optDef zβ rfl⟩
     refine ⟨⟨true, .none rfl, fun h w => optUndef h, fun zβ za zw zc => ?_⟩, ?_⟩
     ·exact ix_22 (k := p) rfl ((evt za 13).trans (optVal (zc.dep 0 13 (by kernel_rfl)) rfl rfl)) (ha11 p (by first | omega | (simp; omega))) ((evt za 14).trans (optVal (zc.dep 1 14 (by kernel_rfl)) rfl rfl)) (by first | omega | (simp; omega)) ⟨_, rfl, Below.refl _ _, optDef zβ rfl⟩
     refine ⟨⟨true, .none rfl, fun h w => optUndef h, fun zβ za zw zc => ?_⟩, ?_⟩
     ·exact ixa_33 (k := 0) rfl ((evt za 15).trans (optVal (zc.dep 2 15 (by kernel_rfl)) rfl rfl)) (zc.kn.ev rfl) (by decide) ⟨_, rfl, Below.refl _ _, optDef zβ rfl⟩
     refine ⟨⟨true, .none rfl, fun h w => optUndef h, fun zβ za zw zc => ?_⟩, ?_⟩
     ·exact ld_32 rfl ((evt za 16).trans (optVal (zc.dep 3 16 (by kernel_rfl)) rfl rfl)) (bkeeps (bstep hb3 zc.below) _ _ (hc12 p (by first | omega | (simp; omega))).1) (bkeeps (bstep hb3 zc.below) _ _ (hc12 p (by first | omega | (simp; omega))).2.1) ⟨_, rfl, Below.refl _ _, optDef zβ rfl⟩
     refine ⟨⟨true, .none rfl, fun h w => optUndef h, fun zβ za zw zc => ?_⟩, ?_⟩
     ·exact wp_call (by kernel_rfl) rfl (hv2 ((evt za 17).trans (optVal (zc.dep 4 17 (by kernel_rfl)) rfl rfl)) (zc.kn.ev rfl)) (rsmall_any ((prget l p).1) 96 _ _ (by omega) (hsz p (by omega)).1 (IsT.below (bstep hb3 zc.below) (hc12 p (by first | omega | (simp; omega))).2.2.2.2.1)) (fun v w' h => ⟨v, rfl, h.2, optDef zβ h.1⟩)
     refine ⟨⟨true, .none rfl, fun h w => optUndef h, fun zβ za zw zc => ?_⟩, ?_⟩
     ·exact wp_not rfl ((evt za 18).trans (optVal (zc.dep 5 18 (by kernel_rfl)) rfl rfl)) ⟨_, rfl, Below.refl _ _, optDef zβ rfl⟩
     refine ⟨⟨true, .none rfl, fun h w => optUndef h, fun zβ za zw zc => ?_⟩, ?_⟩
     ·exact wp_move rfl ((evt za 19).trans (optVal (zc.dep 6 19 (by kernel_rfl)) rfl rfl)) ⟨_, rfl, Below.refl _ _, optDef zβ rfl⟩
     refine ⟨⟨_, .no (c := (!((prget l p).1.small 96))) (d := true) rfl (fun v w h => h), fun h w => optUndef h, fun zβ za zw zc => ?_⟩, ?_⟩
     ·exact wp_move rfl (zc.kn.ev rfl) ⟨_, rfl, Below.refl _ _, optDef zβ rfl⟩
     refine ⟨⟨_, .no (c := (!((prget l p).1.small 96))) (d := true) rfl (fun v w h => h), fun h w => optUndef h, fun zβ za zw zc => ?_⟩, ?_⟩
     ·exact wp_move rfl (zc.kn.ev rfl) ⟨_, rfl, Below.refl _ _, optDef zβ rfl⟩
     refine ⟨⟨_, .no (c := (!((prget l p).1.small 96))) (d := true) rfl (fun v w h => h), fun h w => optUndef h, fun zβ za zw zc => ?_⟩, ?_⟩
     ·exact ix_22 (k := p) rfl ((evt za 21).trans (optVal (zc.dep 8 21 (by kernel_rfl)) rfl zβ)) (ha11 p (by first | omega | (have zz := zβ; simp only [Bool.and_eq_true, Bool.or_eq_true, Bool.true_and, Bool.not_eq_true', Bool.or_eq_false_iff, Bool.and_eq_false_iff, beq_eq_false_iff_ne, ne_eq, beq_iff_eq, decide_eq_true_eq, decide_eq_false_iff_not, bne_iff_ne, bne_eq_false_iff_eq] at zz; omega))) ((evt za 22).trans (optVal (zc.dep 9 22 (by kernel_rfl)) rfl zβ)) (by first | omega | (have zz := zβ; simp only [Bool.and_eq_true, Bool.or_eq_true, Bool.true_and, Bool.not_eq_true', Bool.or_eq_false_iff, Bool.and_eq_false_iff, beq_eq_false_iff_ne, ne_eq, beq_iff_eq, decide_eq_true_eq, decide_eq_false_iff_not, bne_iff_ne, bne_eq_false_iff_eq] at zz; omega)) ⟨_, rfl, Below.refl _ _, optDef zβ rfl⟩
     refine ⟨⟨_, .no (c := (!((prget l p).1.small 96))) (d := true) rfl (fun v w h => h), fun h w => optUndef h, fun zβ za zw zc => ?_⟩, ?_⟩
     ·exact ixa_33 (k := 1) rfl ((evt za 23).trans (optVal (zc.dep 10 23 (by kernel_rfl)) rfl zβ)) (zc.kn.ev rfl) (by decide) ⟨_, rfl, Below.refl _ _, optDef zβ rfl⟩
     refine ⟨⟨_, .no (c := (!((prget l p).1.small 96))) (d := true) rfl (fun v w h => h), fun h w => optUndef h, fun zβ za zw zc => ?_⟩, ?_⟩
     ·exact ld_32 rfl ((evt za 24).trans (optVal (zc.dep 11 24 (by kernel_rfl)) rfl zβ)) (bkeeps (bstep hb3 zc.below) _ _ (hc12 p (by first | omega | (have zz := zβ; simp only [Bool.and_eq_true, Bool.or_eq_true, Bool.true_and, Bool.not_eq_true', Bool.or_eq_false_iff, Bool.and_eq_false_iff, beq_eq_false_iff_ne, ne_eq, beq_iff_eq, decide_eq_true_eq, decide_eq_false_iff_not, bne_iff_ne, bne_eq_false_iff_eq] at zz; omega))).2.2.1) (bkeeps (bstep hb3 zc.below) _ _ (hc12 p (by first | omega | (have zz := zβ; simp only [Bool.and_eq_true, Bool.or_eq_true, Bool.true_and, Bool.not_eq_true', Bool.or_eq_false_iff, Bool.and_eq_false_iff, beq_eq_false_iff_ne, ne_eq, beq_iff_eq, decide_eq_true_eq, decide_eq_false_iff_not, bne_iff_ne, bne_eq_false_iff_eq] at zz; omega))).2.2.2.1) ⟨_, rfl, Below.refl _ _, optDef zβ rfl⟩
     refine ⟨⟨_, .no (c := (!((prget l p).1.small 96))) (d := true) rfl (fun v w h => h), fun h w => optUndef h, fun zβ za zw zc => ?_⟩, ?_⟩
     ·exact wp_call (by kernel_rfl) rfl (hv2 ((evt za 25).trans (optVal (zc.dep 12 25 (by kernel_rfl)) rfl zβ)) (zc.kn.ev rfl)) (rsmall_any ((prget l p).2) 96 _ _ (by omega) (hsz p (by omega)).2 (IsT.below (bstep hb3 zc.below) (hc12 p (by first | omega | (have zz := zβ; simp only [Bool.and_eq_true, Bool.or_eq_true, Bool.true_and, Bool.not_eq_true', Bool.or_eq_false_iff, Bool.and_eq_false_iff, beq_eq_false_iff_ne, ne_eq, beq_iff_eq, decide_eq_true_eq, decide_eq_false_iff_not, bne_iff_ne, bne_eq_false_iff_eq] at zz; omega))).2.2.2.2.2)) (fun v w' h => ⟨v, rfl, h.2, optDef zβ h.1⟩)
     refine ⟨⟨_, .no (c := (!((prget l p).1.small 96))) (d := true) rfl (fun v w h => h), fun h w => optUndef h, fun zβ za zw zc => ?_⟩, ?_⟩
     ·exact wp_not rfl ((evt za 26).trans (optVal (zc.dep 13 26 (by kernel_rfl)) rfl zβ)) ⟨_, rfl, Below.refl _ _, optDef zβ rfl⟩
     refine ⟨⟨true, .none rfl, fun h w => optUndef h, fun zβ za zw zc => ?_⟩, ?_⟩
     ·exact wp_or rfl ((evt za 20).trans (optVal (zc.dep 7 20 (by kernel_rfl)) rfl rfl)) (fun hp => ((evt za 27).trans (optVal (zc.dep 14 27 (by kernel_rfl)) rfl (bMkN zβ hp)))) ⟨_, rfl, Below.refl _ _, optDef zβ rfl⟩
     exact trivial
    ·intro za w15 zh hb16 zu
     have zh := zh.cons (d := 28) (v := .bool (((!((prget l p).1.small 96)) || (!((prget l p).2.small 96))))) (optVal (zu 15 28 (by kernel_rfl)) rfl rfl)
     clear zu
     refine WE.go zh ?_
     refine WE.next ?_
     refine WC.cond rfl (fun h17 => ?_) (fun h17 => ?_)
     ·have h17 : (¬ (((prget l p).1.small 96) = true)) ∨ (¬ (((prget l p).2.small 96) = true)) := by simpa using h17
      have hbg : ¬ ((prget l p).1.small 96 = true ∧ (prget l p).2.small 96 = true) := fun q => by
       rw [q.1, q.2] at h17; simp at h17
      refine WC.seq (WC.region (WL.asg rfl rfl rfl rfl rfl (WL.nil (WE.next (WC.ret (WE.blockRet (WE.thenRet (WE.thenRet (WE.blockRet (WE.thenRet (WE.ret1 rfl rfl ?_)))))))))))
      have hb18 : Below w.heap.size w w15 := (bstep hb3 hb16)
      exact ⟨_, rfl, by rw [wide_no (by omega) hbg], hb18⟩
     ·have h17 : ¬ ((¬ (((prget l p).1.small 96) = true)) ∨ (¬ (((prget l p).2.small 96) = true))) := by simpa using h17
      have hsx : (prget l p).1.small 96 = true ∧ (prget l p).2.small 96 = true := by simpa using h17
      refine WC.skip (WE.blockNormal (WE.next (WC.region (WL.mv rfl rfl rfl rfl rfl ?_))))
      refine WL.val (.int .i64 ((((p + 1) : Nat) : Int))) rfl rfl rfl (fun za zC zh zk => addb_3 rfl (zh.ev rfl) (zh.ev rfl) (wrap_eq (by omega) (by omega) (by omega)) zk) ?_
      refine WL.asg rfl rfl rfl rfl rfl (WL.nil ?_)
      refine WE.round (p + 1) ⟨rfl, rfl, rfl, trivial⟩ ?_ ?_
      ·have hb19 : Below w.heap.size w w15 := (bstep hb3 hb16)
       exact ⟨(by omega), (fun k hk9 => by rcases Nat.lt_succ_iff_lt_or_eq.1 hk9 with z | z; exact hsm k z; (rw [z]; exact hsx)), hb19⟩
      ·omega
   ·have h4 : ¬ ((((p : Nat) : Int) : Int) < (((l.length : Nat) : Int) : Int)) := by simpa using h4
    refine WC.exit (WE.thenExit (WE.thenExit (WE.blockIs rfl (WE.next (WC.seq (WC.region (WL.asg rfl rfl rfl rfl rfl (WL.nil (WE.next (WC.ret (WE.ret1 rfl rfl ?_)))))))))))
    exact ⟨_, rfl, by rw [(wide_at h64).2 (fun k hk9 => hsm k (by omega))], hb3⟩
end Go.Proofs.Ythhgidliopohcaa

/- What variables become: the program. -/
namespace Go.Proofs.Ythhgidliopohcaa
open Go.RowKit Go
set_option linter.unusedVariables false
set_option linter.unusedSimpArgs false
/-- What is told of pairs. -/
def PairsIs (rv : Bool) (l : List (T × T)) (bs : List Bd) (e : Int) : Prop := (wideB l = false ∧ bs = [] ∧ e = 2) ∨ (wideB l = true ∧ ∃ o, SolveIs rv l o ∧ resOf o = (bs, e))
/-- How telling variables stands. -/
structure VS where
 v : Nat
 U : List Nat
 n : Nat
 L : List Bd
 ra : Option Addr
 rc : Nat
theorem bindsM_none {st : NS} {κ sz dp : Nat → Nat} {v : Nat} : ∀ {m : Nat}, v ≤ m → bindsM st κ sz dp v = none → bindsM st κ sz dp m = none
 | 0, h, e => by
  obtain rfl : v = 0 := by omega
  exact e
 | m + 1, h, e => by
  rcases Nat.lt_or_ge v (m + 1) with q | q
  ·rw [bindsM, bindsM_none (by omega) e]
  ·obtain rfl : v = m + 1 := by omega
   exact e
set_option maxRecDepth 100000 in
theorem ppairs_any (l : List (T × T)) (w : World) (a : Option Addr) (c : Nat) (hl : IsPs w l a c) (hlz : l.length ≤ 1048576) :
  Calls Try.prog 6 #[.slice a l.length c] w (Ret fun v' w' => (∃ bs a' c' e, v' = .tuple #[.slice a' bs.length c', .int .i64 e] ∧ PairsIs true l bs e ∧ InRow eltB (fun b => w.heap.size ≤ b) w' bs a' ∧ bs.length ≤ c' ∧ c' ≤ maxLen ∧ bs.length ≤ 96) ∧ Below w.heap.size w w') := by
 skip
 refine Calls.walk (l := [.slice a l.length c]) Try.func6 rfl (by kernel_rfl) ?_
 refine WC.sub (K' := [(0, .slice a l.length c)]) ⟨rfl, trivial⟩ ?_
 refine WC.seq (WC.region (WL.asg rfl rfl rfl rfl rfl (WL.asg rfl rfl rfl rfl rfl (WL.nil (WE.next (WC.seq (WC.region (WL.mv rfl rfl rfl rfl rfl ?_))))))))
 refine WL.call rfl rfl rfl (fun za zh zC => wp_call (by kernel_rfl) rfl (hv1 (zh.ev rfl))) (psolve_any l _ a c hl hlz) ?_
 rintro v3 w1 ⟨h4, hb2⟩
 rcases h4 with ⟨hW, rfl⟩ | ⟨hW, hsv, rfl⟩ | ⟨hW, st, κ, g, mb, ms, hgo, hAk, hdn, rfl, hNS, hmbw, hM⟩
 ·refine WL.mv rfl rfl rfl rfl rfl ?_
  refine WL.val (.pointer none) rfl rfl rfl (fun za zC zh zk => ext3_0 rfl (zh.ev rfl) zk) ?_
  refine WL.val (.slice none 0 0) rfl rfl rfl (fun za zC zh zk => ext3_1 rfl (zh.ev rfl) zk) ?_
  refine WL.val (.int .i64 2) rfl rfl rfl (fun za zC zh zk => ext3_2 rfl (zh.ev rfl) zk) ?_
  refine WL.asg rfl rfl rfl rfl rfl (WL.asg rfl rfl rfl rfl rfl (WL.asg rfl rfl rfl rfl rfl (WL.nil (WE.next (WC.seq (WC.seq (WC.region (WL.mv rfl rfl rfl rfl rfl ?_))))))))
  refine WL.val (.bool (((2 : Int) != (0 : Int)))) rfl rfl rfl (fun za zC zh zk => neq_25 rfl (zh.ev rfl) (zh.ev rfl) zk) ?_
  refine WL.nil (WE.next ?_)
  refine WC.condT rfl (rfl) ?_
  refine WC.seq (WC.region (WL.mv rfl rfl rfl rfl rfl (WL.asg rfl rfl rfl rfl rfl (WL.asg rfl rfl rfl rfl rfl (WL.nil (WE.next (WC.ret (WE.thenRet (WE.ret2 rfl rfl rfl ?_)))))))))
  exact ⟨_, rfl, ⟨[], none, 0, 2, rfl, .inl ⟨hW, rfl, rfl⟩, fun i hi => by simp at hi, Nat.le_refl _, by unfold maxLen; omega, by decide⟩, hb2⟩
 ·refine WL.mv rfl rfl rfl rfl rfl ?_
  refine WL.val (.pointer none) rfl rfl rfl (fun za zC zh zk => ext3_0 rfl (zh.ev rfl) zk) ?_
  refine WL.val (.slice none 0 0) rfl rfl rfl (fun za zC zh zk => ext3_1 rfl (zh.ev rfl) zk) ?_
  refine WL.val (.int .i64 4) rfl rfl rfl (fun za zC zh zk => ext3_2 rfl (zh.ev rfl) zk) ?_
  refine WL.asg rfl rfl rfl rfl rfl (WL.asg rfl rfl rfl rfl rfl (WL.asg rfl rfl rfl rfl rfl (WL.nil (WE.next (WC.seq (WC.seq (WC.region (WL.mv rfl rfl rfl rfl rfl ?_))))))))
  refine WL.val (.bool (((4 : Int) != (0 : Int)))) rfl rfl rfl (fun za zC zh zk => neq_25 rfl (zh.ev rfl) (zh.ev rfl) zk) ?_
  refine WL.nil (WE.next ?_)
  refine WC.condT rfl (rfl) ?_
  refine WC.seq (WC.region (WL.mv rfl rfl rfl rfl rfl (WL.asg rfl rfl rfl rfl rfl (WL.asg rfl rfl rfl rfl rfl (WL.nil (WE.next (WC.ret (WE.thenRet (WE.ret2 rfl rfl rfl ?_)))))))))
  exact ⟨_, rfl, ⟨[], none, 0, 4, rfl, .inr ⟨hW, none, hsv, rfl⟩, fun i hi => by simp at hi, Nat.le_refl _, by unfold maxLen; omega, by decide⟩, hb2⟩
 ·obtain ⟨Z, U, d, hZ, hR, hN⟩ := hNS
  have hZl := hN.lt
  have hmbl := hM.lt
  have hln := hgo.len
  have hag := hgo.arg
  have hk := hgo.cl.ok
  have hNo := hgo.ok.args
  have hml := hAk.len
  have h64 : l.length ≤ 64 := by unfold wideB at hW; rw [Bool.and_eq_true, decide_eq_true_eq] at hW; exact hW.1
  have hms := hAk.meas hdn
  have hrn := hgo.run
  rw [List.take_length] at hrn
  have hsv : SolveIs true l (some (st, κ, msz ms, mdp ms)) := .ok hrn hms
  have hw1 : w.heap.size ≤ w1.heap.size := (hb2).size
  refine WL.mv rfl rfl rfl rfl rfl ?_
  refine WL.val (.pointer (some ⟨g, 0, none⟩)) rfl rfl rfl (fun za zC zh zk => ext3_0 rfl (zh.ev rfl) zk) ?_
  refine WL.val (.slice ((some ⟨mb, 0, none⟩)) st.N.length st.N.length) rfl rfl rfl (fun za zC zh zk => ext3_1 rfl (zh.ev rfl) zk) ?_
  refine WL.val (.int .i64 0) rfl rfl rfl (fun za zC zh zk => ext3_2 rfl (zh.ev rfl) zk) ?_
  refine WL.asg rfl rfl rfl rfl rfl (WL.asg rfl rfl rfl rfl rfl (WL.asg rfl rfl rfl rfl rfl (WL.nil (WE.next (WC.seq (WC.seq (WC.region (WL.mv rfl rfl rfl rfl rfl ?_))))))))
  refine WL.val (.bool (((0 : Int) != (0 : Int)))) rfl rfl rfl (fun za zC zh zk => neq_25 rfl (zh.ev rfl) (zh.ev rfl) zk) ?_
  refine WL.nil (WE.next ?_)
  refine WC.condF rfl (rfl) ?_
  refine WC.skip (WE.next (WC.seq (WC.region (WL.asg rfl rfl rfl rfl rfl (WL.nil (WE.next (WC.seq (WC.seq (WC.region (WL.mv rfl rfl rfl rfl rfl ?_))))))))))
  refine WL.val _ rfl rfl rfl (fun za zC zh zk => nilCheck_ rfl (zh.ev rfl) zk) ?_
  refine WL.val _ rfl rfl rfl (fun za zC zh zk => fld_54_1 rfl (zh.ev rfl) zk) ?_
  refine WL.val (.agg (varsC st.V).toArray) rfl rfl rfl (fun za zC zh zk => ld_vars rfl (zh.ev rfl) (fun v hv => NetX.cv hN hv) zk) ?_
  refine WL.mv rfl rfl rfl rfl rfl (WL.nil (WE.next (WC.block ?_)))
  have hr0 : RowD eltB (fun b => w1.heap.size ≤ b ∧ obk none 0 0 ≠ some b) w1 41 none 0 0 ([]) := RowD.nil
  have hC0 : Chg Z w1 w1 := .ofBelow (Below.refl _ _)
  refine WC.loop (X := VS) (fun x => 96 - x.v) (fun x => [(0, .slice a l.length c), (4, .pointer (some ⟨g, 0, none⟩)), (5, .slice ((some ⟨mb, 0, none⟩)) st.N.length st.N.length), (6, .int .i64 0), (7, .slice x.ra x.n x.rc), (18, .bool (((0 : Int) != (0 : Int)))), (23, (.agg (varsC st.V).toArray)), (24, .int .i64 (((x.v : Nat) : Int)))]) (fun x w5 => x.v ≤ 96 ∧ Reps x.U κ d ∧ bindsM st κ (msz ms) (mdp ms) x.v = some x.L ∧ (∀ q, obk x.ra x.n x.rc = some q → w1.heap.size ≤ q) ∧ x.n ≤ x.v ∧ Chg Z w1 w5 ∧ Below w.heap.size w w5 ∧ NetX (w5) g Z x.U st.N st.V ∧ MB (w5) mb ms ∧ RowD eltB (fun b => w1.heap.size ≤ b ∧ obk x.ra x.n x.rc ≠ some b) (w5) 41 x.ra x.rc x.n x.L) (⟨0, U, 0, [], none, 0⟩) ⟨rfl, rfl, rfl, rfl, rfl, rfl, rfl, rfl, trivial⟩ ?_ ?_
  ·exact ⟨Nat.zero_le _, hR, rfl, (fun q e => nomatch e), Nat.le_refl _, hC0, hb2, hN, hM, hr0⟩
  ·rintro x w5 ⟨hvx, hRx, hbx, hownx, hnv, hCx, hb6, ho7, ho8, ho9⟩
   have hwx := hCx.size
   have hnL := ho9.len
   refine WC.seq (WC.region ?_)
   refine WL.val (.bool ((decide ((((x.v : Nat) : Int) : Int) < (96 : Int))))) rfl rfl rfl (fun za zC zh zk => lss_3 rfl (zh.ev rfl) (zh.ev rfl) zk) ?_
   refine WL.nil (WE.next (WC.seq ?_))
   refine WC.cond rfl (fun h10 => ?_) (fun h10 => ?_)
   ·have h10 : (((x.v : Nat) : Int) : Int) < (96 : Int) := by simpa using h10
    refine WC.skip (WE.next (WC.seq (WC.block (WC.seq (WC.region (WL.mv rfl rfl rfl rfl rfl ?_))))))
    refine WL.val (.int .i64 ((st.V x.v : Nat) : Int)) rfl rfl rfl (fun za zC zh zk => ix_vars rfl (zh.ev rfl) (zh.ev rfl) (by omega) zk) ?_
    refine WL.asg rfl rfl rfl rfl rfl (WL.asg rfl rfl rfl rfl rfl (WL.nil (WE.next (WC.seq (WC.seq (WC.region (WL.mv rfl rfl rfl rfl rfl ?_)))))))
    refine WL.val (.bool ((((((st.V x.v) : Nat) : Int) : Int) == (0 : Int)))) rfl rfl rfl (fun za zC zh zk => eql_3 rfl (zh.ev rfl) (zh.ev rfl) zk) ?_
    refine WL.nil (WE.next ?_)
    refine WC.cond rfl (fun h11 => ?_) (fun h11 => ?_)
    ·have h11 : ((((st.V x.v) : Nat) : Int) : Int) = (0 : Int) := by simpa using h11
     have hz9 : st.V x.v = 0 := by omega
     refine WC.exit (WE.thenExit (WE.blockIs rfl (WE.next (WC.region ?_))))
     refine WL.val (.int .i64 ((((x.v + 1) : Nat) : Int))) rfl rfl rfl (fun za zC zh zk => addb_3 rfl (zh.ev rfl) (zh.ev rfl) (wrap_eq (by omega) (by omega) (by omega)) zk) ?_
     refine WL.mv rfl rfl rfl rfl rfl (WL.nil ?_)
     refine WE.round (⟨x.v + 1, x.U, x.n, x.L, x.ra, x.rc⟩) ⟨rfl, rfl, rfl, rfl, rfl, rfl, rfl, rfl, trivial⟩ ?_ ?_
     ·exact ⟨(by (try dsimp only); omega), hRx, (by show bindsM st κ (msz ms) (mdp ms) (x.v + 1) = _; rw [bindsM, hbx]; dsimp only; rw [if_pos hz9]), hownx, (by (try dsimp only); omega), hCx, hb6, ho7, ho8, ho9⟩
     ·(try dsimp only); omega
    ·have h11 : ¬ (((((st.V x.v) : Nat) : Int) : Int) = (0 : Int)) := by simpa using h11
     have hz9 : st.V x.v ≠ 0 := by omega
     have hvN := (hgo.ok.vars x.v).1
     have hvl : st.V x.v - 1 < st.N.length := by omega
     have hkl : (κ (st.V x.v - 1)) < st.N.length := hk.lt _ hvl
     have hkk : κ (κ (st.V x.v - 1)) = (κ (st.V x.v - 1)) := hk.idem _
     have hb3 := hAk.bnd _ (hdn _ hvl)
     have hb4 := ndS_le ms
     unfold capS at hb3
     refine WC.skip (WE.next (WC.seq (WC.region (WL.mv rfl rfl rfl rfl rfl ?_))))
     refine WL.val _ rfl rfl rfl (fun za zC zh zk => nilCheck_ rfl (zh.ev rfl) zk) ?_
     refine WL.val _ rfl rfl rfl (fun za zC zh zk => fld_54_0 rfl (zh.ev rfl) zk) ?_
     refine WL.mv rfl rfl rfl rfl rfl ?_
     refine WL.val (.int .i64 ((((st.V x.v - 1) : Nat) : Int))) rfl rfl rfl (fun za zC zh zk => subb_3 rfl (zh.ev rfl) (zh.ev rfl) (wrap_eq (by omega) (by omega) (by omega)) zk) ?_
     obtain ⟨S8, ua, uc, oa, oc, hP8, hPZ, _⟩ := ho7
     obtain ⟨ub, rfl, hub⟩ := hP8.ub (by omega)
     have hubZ : Z ub := hPZ ub (.inr (.inl hub))
     have hubw := hZl ub hubZ
     have hubB := (hZ ub hubZ).1
     have humb : mb ≠ ub := fun e => (hZ ub hubZ).2 e.symm
     have hb12 : Below w.heap.size w w5 := hb6
     refine WL.call rfl rfl rfl (fun za zh zC => wp_call (by kernel_rfl) rfl (hv2 (zh.ev rfl) (zh.ev rfl))) (ptop_pn κ d x.U st.N st.V g S8 ub uc oa oc (st.V x.v - 1) _ hP8 hRx hvl (by omega)) ?_
     rintro _ w17 ⟨rfl, ⟨U13, hR14, hP15⟩, hc16⟩
     have hC18 := Chg.trans hCx (Chg.mono (S' := Z) hc16 (fun b e => by rw [show b = ub from e]; exact hubZ))
     have hM19 := ho8.chg hc16 (fun e => humb e)
     have hr20 := ho9.chg hc16 (fun b q e => by have z := hownx b q; (try dsimp only at e); omega) (fun b q e => by have z := q.1; (try dsimp only at e); omega)
     have hb21 := chg_below hb12 hc16 (fun b hb e => by (try dsimp only at e); omega)
     refine WL.asg rfl rfl rfl rfl rfl (WL.nil (WE.next (WC.seq (WC.seq ?_))))
     obtain ⟨ob, A9, C9, hoa, hob, hcP⟩ := hP15.ofP (by omega)
     refine WC.region (WL.mv rfl rfl rfl rfl rfl ?_)
     refine WL.val _ rfl rfl rfl (fun za zC zh zk => nilCheck_ rfl (zh.ev rfl) zk) ?_
     refine WL.val _ rfl rfl rfl (fun za zC zh zk => fld_54_0 rfl (zh.ev rfl) zk) ?_
     refine WL.val _ rfl rfl rfl (fun za zC zh zk => fld_51_1 rfl (zh.ev rfl) zk) ?_
     refine WL.val _ rfl rfl rfl (fun za zC zh zk => ld_49 rfl (zh.ev rfl) hP15.c1 zk) ?_
     refine WL.mv rfl rfl rfl rfl rfl ?_
     refine WL.val _ rfl rfl rfl (fun za zC zh zk => ix_49 (k := (κ (st.V x.v - 1))) rfl (zh.ev rfl) hoa (zh.ev rfl) (by first | omega | (simp; omega)) zk) ?_
     refine WL.val _ rfl rfl rfl (fun za zC zh zk => fld_57_0 rfl (zh.ev rfl) zk) ?_
     refine WL.val _ rfl rfl rfl (fun za zC zh zk => ld_3 rfl (zh.ev rfl) (hcP ((κ (st.V x.v - 1))) (by first | omega | (simp; omega))).1 zk) ?_
     refine WL.mv rfl rfl rfl rfl rfl ?_
     refine WL.val (.int .i64 (((-1) - ((x.v : Nat) : Int)))) rfl rfl rfl (fun za zC zh zk => subb_3 rfl (zh.ev rfl) (zh.ev rfl) (wrap_eq (by omega) (by omega) (by omega)) zk) ?_
     refine WL.val (.bool ((((pget st.N ((κ (st.V x.v - 1)))).fn : Int) == (((-1) - ((x.v : Nat) : Int)) : Int)))) rfl rfl rfl (fun za zC zh zk => eql_3 rfl (zh.ev rfl) (zh.ev rfl) zk) ?_
     refine WL.nil (WE.sub (K' := [(0, .slice a l.length c), (4, .pointer (some ⟨g, 0, none⟩)), (5, .slice ((some ⟨mb, 0, none⟩)) st.N.length st.N.length), (6, .int .i64 0), (7, .slice x.ra x.n x.rc), (8, .int .i64 (((x.v : Nat) : Int))), (9, .int .i64 ((((st.V x.v) : Nat) : Int))), (10, .int .i64 ((((κ (st.V x.v - 1)) : Nat) : Int))), (18, .bool (((0 : Int) != (0 : Int)))), (23, (.agg (varsC st.V).toArray)), (24, .int .i64 (((x.v : Nat) : Int))), (25, .bool ((decide ((((x.v : Nat) : Int) : Int) < (96 : Int))))), (29, .bool ((((((st.V x.v) : Nat) : Int) : Int) == (0 : Int)))), (47, .bool ((((pget st.N ((κ (st.V x.v - 1)))).fn : Int) == (((-1) - ((x.v : Nat) : Int)) : Int))))]) ⟨rfl, rfl, rfl, rfl, rfl, rfl, rfl, rfl, rfl, rfl, rfl, rfl, rfl, rfl, trivial⟩ ?_)
     refine WE.next ?_
     refine WC.cond rfl (fun h22 => ?_) (fun h22 => ?_)
     ·have h22 : ((pget st.N ((κ (st.V x.v - 1)))).fn : Int) = (((-1) - ((x.v : Nat) : Int)) : Int) := by simpa using h22
      have hself : (pget st.N (κ (st.V x.v - 1))).fn = -1 - (x.v : Int) := by omega
      refine WC.exit (WE.thenExit (WE.blockIs rfl (WE.next (WC.region ?_))))
      refine WL.val (.int .i64 ((((x.v + 1) : Nat) : Int))) rfl rfl rfl (fun za zC zh zk => addb_3 rfl (zh.ev rfl) (zh.ev rfl) (wrap_eq (by omega) (by omega) (by omega)) zk) ?_
      refine WL.mv rfl rfl rfl rfl rfl (WL.nil ?_)
      have hN23 : NetX w17 g Z U13 st.N st.V := ⟨S8, _, uc, _, oc, hP15, hPZ, fun b q => Nat.lt_of_lt_of_le (hZl b q) (hC18).size⟩
      refine WE.round (⟨x.v + 1, U13, x.n, x.L, x.ra, x.rc⟩) ⟨rfl, rfl, rfl, rfl, rfl, rfl, rfl, rfl, trivial⟩ ?_ ?_
      ·exact ⟨(by (try dsimp only); omega), hR14, (by show bindsM st κ (msz ms) (mdp ms) (x.v + 1) = _; rw [bindsM, hbx]; dsimp only; rw [if_neg hz9, if_pos hself]), hownx, (by (try dsimp only); omega), hC18, hb21, hN23, hM19, hr20⟩
      ·(try dsimp only); omega
     ·have h22 : ¬ (((pget st.N ((κ (st.V x.v - 1)))).fn : Int) = (((-1) - ((x.v : Nat) : Int)) : Int)) := by simpa using h22
      have hself : ¬ (pget st.N (κ (st.V x.v - 1))).fn = -1 - (x.v : Int) := by omega
      refine WC.skip (WE.next (WC.seq (WC.seq ?_)))
      refine WC.opt [(true, .val (.slice ((some ⟨mb, 0, none⟩)) st.N.length st.N.length)), (true, .val (.int .i64 ((((κ (st.V x.v - 1)) : Nat) : Int)))), (true, .val (.pointer (some ⟨mb, 0 + ((κ (st.V x.v - 1))) * 3, none⟩))), (true, .val (.pointer (some ⟨mb, 0 + ((κ (st.V x.v - 1))) * 3, none⟩))), (true, .val (.int .i64 ((((mget ms ((κ (st.V x.v - 1)))).sz : Nat) : Int)))), (true, .val (.bool ((decide ((300 : Int) < ((((mget ms ((κ (st.V x.v - 1)))).sz : Nat) : Int) : Int)))))), (true, .val (.bool ((decide ((300 : Int) < ((((mget ms ((κ (st.V x.v - 1)))).sz : Nat) : Int) : Int)))))), ((true && !(decide ((300 : Int) < ((((mget ms ((κ (st.V x.v - 1)))).sz : Nat) : Int) : Int)))), .val (.slice ((some ⟨mb, 0, none⟩)) st.N.length st.N.length)), ((true && !(decide ((300 : Int) < ((((mget ms ((κ (st.V x.v - 1)))).sz : Nat) : Int) : Int)))), .val (.int .i64 ((((κ (st.V x.v - 1)) : Nat) : Int)))), ((true && !(decide ((300 : Int) < ((((mget ms ((κ (st.V x.v - 1)))).sz : Nat) : Int) : Int)))), .val (.pointer (some ⟨mb, 0 + ((κ (st.V x.v - 1))) * 3, none⟩))), ((true && !(decide ((300 : Int) < ((((mget ms ((κ (st.V x.v - 1)))).sz : Nat) : Int) : Int)))), .val (.pointer (some ⟨mb, 0 + ((κ (st.V x.v - 1))) * 3 + 1, none⟩))), ((true && !(decide ((300 : Int) < ((((mget ms ((κ (st.V x.v - 1)))).sz : Nat) : Int) : Int)))), .val (.int .i64 ((((mget ms ((κ (st.V x.v - 1)))).dp : Nat) : Int)))), ((true && !(decide ((300 : Int) < ((((mget ms ((κ (st.V x.v - 1)))).sz : Nat) : Int) : Int)))), .val (.bool ((decide ((30 : Int) < ((((mget ms ((κ (st.V x.v - 1)))).dp : Nat) : Int) : Int)))))), (true, .val (.bool (((decide ((300 : Int) < ((((mget ms ((κ (st.V x.v - 1)))).sz : Nat) : Int) : Int))) || (decide ((30 : Int) < ((((mget ms ((κ (st.V x.v - 1)))).dp : Nat) : Int) : Int)))))))] [(0, .slice a l.length c), (4, .pointer (some ⟨g, 0, none⟩)), (5, .slice ((some ⟨mb, 0, none⟩)) st.N.length st.N.length), (6, .int .i64 0), (7, .slice x.ra x.n x.rc), (8, .int .i64 (((x.v : Nat) : Int))), (9, .int .i64 ((((st.V x.v) : Nat) : Int))), (10, .int .i64 ((((κ (st.V x.v - 1)) : Nat) : Int))), (18, .bool (((0 : Int) != (0 : Int)))), (23, (.agg (varsC st.V).toArray)), (24, .int .i64 (((x.v : Nat) : Int))), (25, .bool ((decide ((((x.v : Nat) : Int) : Int) < (96 : Int))))), (29, .bool ((((((st.V x.v) : Nat) : Int) : Int) == (0 : Int)))), (47, .bool ((((pget st.N ((κ (st.V x.v - 1)))).fn : Int) == (((-1) - ((x.v : Nat) : Int)) : Int))))] ⟨rfl, rfl, rfl, rfl, rfl, rfl, rfl, rfl, rfl, rfl, rfl, rfl, rfl, rfl, trivial⟩ (by kernel_rfl) (by kernel_rfl) (by kernel_rfl) ?_ ?_
      ·refine ⟨⟨true, .none rfl, fun h w => optUndef h, fun zβ za zw zc => ?_⟩, ?_⟩
       ·exact wp_move rfl (zc.kn.ev rfl) ⟨_, rfl, Below.refl _ _, optDef zβ rfl⟩
       refine ⟨⟨true, .none rfl, fun h w => optUndef h, fun zβ za zw zc => ?_⟩, ?_⟩
       ·exact wp_move rfl (zc.kn.ev rfl) ⟨_, rfl, Below.refl _ _, optDef zβ rfl⟩
       refine ⟨⟨true, .none rfl, fun h w => optUndef h, fun zβ za zw zc => ?_⟩, ?_⟩
       ·exact ix_45 (k := (κ (st.V x.v - 1))) rfl ((evt za 48).trans (optVal (zc.dep 0 48 (by kernel_rfl)) rfl rfl)) rfl ((evt za 49).trans (optVal (zc.dep 1 49 (by kernel_rfl)) rfl rfl)) (by first | omega | (simp; omega)) ⟨_, rfl, Below.refl _ _, optDef zβ rfl⟩
       refine ⟨⟨true, .none rfl, fun h w => optUndef h, fun zβ za zw zc => ?_⟩, ?_⟩
       ·exact fld_59_0 rfl ((evt za 50).trans (optVal (zc.dep 2 50 (by kernel_rfl)) rfl rfl)) ⟨_, rfl, Below.refl _ _, optDef zβ rfl⟩
       refine ⟨⟨true, .none rfl, fun h w => optUndef h, fun zβ za zw zc => ?_⟩, ?_⟩
       ·exact ld_3 rfl ((evt za 51).trans (optVal (zc.dep 3 51 (by kernel_rfl)) rfl rfl)) (bkeeps zc.below _ _ (hM19.c0 (by omega))) ⟨_, rfl, Below.refl _ _, optDef zβ rfl⟩
       refine ⟨⟨true, .none rfl, fun h w => optUndef h, fun zβ za zw zc => ?_⟩, ?_⟩
       ·exact gtr_3 rfl ((evt za 52).trans (optVal (zc.dep 4 52 (by kernel_rfl)) rfl rfl)) (zc.kn.ev rfl) ⟨_, rfl, Below.refl _ _, optDef zβ rfl⟩
       refine ⟨⟨true, .none rfl, fun h w => optUndef h, fun zβ za zw zc => ?_⟩, ?_⟩
       ·exact wp_move rfl ((evt za 53).trans (optVal (zc.dep 5 53 (by kernel_rfl)) rfl rfl)) ⟨_, rfl, Below.refl _ _, optDef zβ rfl⟩
       refine ⟨⟨_, .no (c := (decide ((300 : Int) < ((((mget ms ((κ (st.V x.v - 1)))).sz : Nat) : Int) : Int)))) (d := true) rfl (fun v w h => h), fun h w => optUndef h, fun zβ za zw zc => ?_⟩, ?_⟩
       ·exact wp_move rfl (zc.kn.ev rfl) ⟨_, rfl, Below.refl _ _, optDef zβ rfl⟩
       refine ⟨⟨_, .no (c := (decide ((300 : Int) < ((((mget ms ((κ (st.V x.v - 1)))).sz : Nat) : Int) : Int)))) (d := true) rfl (fun v w h => h), fun h w => optUndef h, fun zβ za zw zc => ?_⟩, ?_⟩
       ·exact wp_move rfl (zc.kn.ev rfl) ⟨_, rfl, Below.refl _ _, optDef zβ rfl⟩
       refine ⟨⟨_, .no (c := (decide ((300 : Int) < ((((mget ms ((κ (st.V x.v - 1)))).sz : Nat) : Int) : Int)))) (d := true) rfl (fun v w h => h), fun h w => optUndef h, fun zβ za zw zc => ?_⟩, ?_⟩
       ·exact ix_45 (k := (κ (st.V x.v - 1))) rfl ((evt za 55).trans (optVal (zc.dep 7 55 (by kernel_rfl)) rfl zβ)) rfl ((evt za 56).trans (optVal (zc.dep 8 56 (by kernel_rfl)) rfl zβ)) (by first | omega | (have zz := zβ; simp only [Bool.and_eq_true, Bool.or_eq_true, Bool.true_and, Bool.not_eq_true', Bool.or_eq_false_iff, Bool.and_eq_false_iff, beq_eq_false_iff_ne, ne_eq, beq_iff_eq, decide_eq_true_eq, decide_eq_false_iff_not, bne_iff_ne, bne_eq_false_iff_eq] at zz; omega)) ⟨_, rfl, Below.refl _ _, optDef zβ rfl⟩
       refine ⟨⟨_, .no (c := (decide ((300 : Int) < ((((mget ms ((κ (st.V x.v - 1)))).sz : Nat) : Int) : Int)))) (d := true) rfl (fun v w h => h), fun h w => optUndef h, fun zβ za zw zc => ?_⟩, ?_⟩
       ·exact fld_59_1 rfl ((evt za 57).trans (optVal (zc.dep 9 57 (by kernel_rfl)) rfl zβ)) ⟨_, rfl, Below.refl _ _, optDef zβ rfl⟩
       refine ⟨⟨_, .no (c := (decide ((300 : Int) < ((((mget ms ((κ (st.V x.v - 1)))).sz : Nat) : Int) : Int)))) (d := true) rfl (fun v w h => h), fun h w => optUndef h, fun zβ za zw zc => ?_⟩, ?_⟩
       ·exact ld_3 rfl ((evt za 58).trans (optVal (zc.dep 10 58 (by kernel_rfl)) rfl zβ)) (bkeeps zc.below _ _ (hM19.c1 (by omega))) ⟨_, rfl, Below.refl _ _, optDef zβ rfl⟩
       refine ⟨⟨_, .no (c := (decide ((300 : Int) < ((((mget ms ((κ (st.V x.v - 1)))).sz : Nat) : Int) : Int)))) (d := true) rfl (fun v w h => h), fun h w => optUndef h, fun zβ za zw zc => ?_⟩, ?_⟩
       ·exact gtr_3 rfl ((evt za 59).trans (optVal (zc.dep 11 59 (by kernel_rfl)) rfl zβ)) (zc.kn.ev rfl) ⟨_, rfl, Below.refl _ _, optDef zβ rfl⟩
       refine ⟨⟨true, .none rfl, fun h w => optUndef h, fun zβ za zw zc => ?_⟩, ?_⟩
       ·exact wp_or rfl ((evt za 54).trans (optVal (zc.dep 6 54 (by kernel_rfl)) rfl rfl)) (fun hp => ((evt za 60).trans (optVal (zc.dep 12 60 (by kernel_rfl)) rfl (bMkN zβ hp)))) ⟨_, rfl, Below.refl _ _, optDef zβ rfl⟩
       exact trivial
      ·intro za w24 zh hb25 zu
       have zh := zh.cons (d := 61) (v := .bool (((decide ((300 : Int) < ((((mget ms ((κ (st.V x.v - 1)))).sz : Nat) : Int) : Int))) || (decide ((30 : Int) < ((((mget ms ((κ (st.V x.v - 1)))).dp : Nat) : Int) : Int)))))) (optVal (zu 13 61 (by kernel_rfl)) rfl rfl)
       clear zu
       refine WE.go zh ?_
       refine WE.next ?_
       refine WC.cond rfl (fun h26 => ?_) (fun h26 => ?_)
       ·have h26 : ((300 : Int) < ((((mget ms ((κ (st.V x.v - 1)))).sz : Nat) : Int) : Int)) ∨ ((30 : Int) < ((((mget ms ((κ (st.V x.v - 1)))).dp : Nat) : Int) : Int)) := by simpa using h26
        have hlong : 300 < msz ms (κ (st.V x.v - 1)) ∨ 30 < mdp ms (κ (st.V x.v - 1)) := by show 300 < (mget ms (κ (st.V x.v - 1))).sz ∨ 30 < (mget ms (κ (st.V x.v - 1))).dp; omega
        refine WC.seq (WC.region (WL.asg rfl rfl rfl rfl rfl (WL.asg rfl rfl rfl rfl rfl (WL.nil (WE.next (WC.ret (WE.thenRet (WE.blockRet (WE.thenRet (WE.thenRet (WE.blockRet (WE.thenRet (WE.ret2 rfl rfl rfl ?_)))))))))))))
        have hb27 : Below w.heap.size w w24 := (bstep hb21 hb25)
        have hbn : bindsM st κ (msz ms) (mdp ms) 96 = none := bindsM_none (v := x.v + 1) (by omega) (by rw [bindsM, hbx]; dsimp only; rw [if_neg hz9, if_neg hself, if_pos hlong])
        exact ⟨_, rfl, ⟨[], none, 0, 3, rfl, .inr ⟨hW, _, hsv, by unfold resOf; dsimp only; rw [hbn]; rfl⟩, fun i hi => by simp at hi, Nat.le_refl _, by unfold maxLen; omega, by decide⟩, hb27⟩
       ·have h26 : ¬ (((300 : Int) < ((((mget ms ((κ (st.V x.v - 1)))).sz : Nat) : Int) : Int)) ∨ ((30 : Int) < ((((mget ms ((κ (st.V x.v - 1)))).dp : Nat) : Int) : Int))) := by simpa using h26
        have hlong : ¬ (300 < msz ms (κ (st.V x.v - 1)) ∨ 30 < mdp ms (κ (st.V x.v - 1))) := by show ¬ (300 < (mget ms (κ (st.V x.v - 1))).sz ∨ 30 < (mget ms (κ (st.V x.v - 1))).dp); omega
        refine WC.skip (WE.next ?_)
        have hC28 := Chg.trans hC18 (.ofBelow hb25)
        have ho29 := hr20.below hb25
        have hCt := hC28
        have howt : ∀ q, obk x.ra x.n x.rc = some q → q < w24.heap.size := ho29.lt
        refine WC.region (WL.mv rfl rfl rfl rfl rfl (WL.mv rfl rfl rfl rfl rfl (WL.mv rfl rfl rfl rfl rfl (WL.mv rfl rfl rfl rfl rfl ?_))))
        have ho30 := hP15.below hb25
        have ho31 := hM19.below hb25
        have hb33 : Below w.heap.size w w24 := (bstep hb21 hb25)
        have hb32 : Below w.heap.size w w24 := hb33
        refine WL.call rfl rfl rfl (fun za zh zC => wp_call (by kernel_rfl) rfl (hv2 (zh.ev rfl) (zh.ev rfl))) (pterm_any κ d (msz ms) (mdp ms) st.N st.V g S8 ub uc oa oc hk hNo (by omega) (by omega) (fun i hi => hgo.sy.at_ hi) hms (mdp ms (κ (st.V x.v - 1))) U13 (κ (st.V x.v - 1)) _ (by rw [hkk]; exact Nat.le_refl _) ho30 hR14 hkl) ?_
        rintro vt34 w40 ⟨hn35, ⟨U36, hR37, hP38⟩, hc39⟩
        have hC41 := Chg.trans hC28 (Chg.mono (S' := Z) hc39 (fun b e => by rw [show b = ub from e]; exact hubZ))
        have hM42 := ho31.chg hc39 (fun e => humb e)
        have hr43 := ho29.chg hc39 (fun b q e => by have z := hownx b q; (try dsimp only at e); omega) (fun b q e => by have z := q.1; (try dsimp only at e); omega)
        have hb44 := chg_below hb32 hc39 (fun b hb e => by (try dsimp only at e); omega)
        obtain ⟨_, fa, fc, rfl, _⟩ := hn35.form
        refine WL.val (.agg #[.int .i64 (((x.v : Nat) : Int)), .int .i64 ((tmF st.N κ (mdp ms (κ (st.V x.v - 1))) (κ (st.V x.v - 1))).f), .slice fa ((tmF st.N κ (mdp ms (κ (st.V x.v - 1))) (κ (st.V x.v - 1))).args.length) fc]) rfl rfl rfl (fun za zC zh zk => build_41_0_1 rfl (zh.ev rfl) (zh.ev rfl) zk) ?_
        refine WL.step (post := NewRow w40 41 #[.int .i64 (((x.v : Nat) : Int)), .int .i64 ((tmF st.N κ (mdp ms (κ (st.V x.v - 1))) (κ (st.V x.v - 1))).f), .slice fa ((tmF st.N κ (mdp ms (κ (st.V x.v - 1))) (κ (st.V x.v - 1))).args.length) fc] 1) rfl rfl rfl (fun za zC zh zk => row_24_1 rfl (zh.ev rfl) (zk _ _ (newRow _ _ _ _))) ?_
        rintro _ w45 ⟨g46, rfl, hg47, hB48, hb49, hz50⟩
        have hl51 : w.heap.size ≤ g46 := by have z2 := (hb44).size; omega
        have hl52 : w40.heap.size ≤ g46 := by omega
        have ho53 := hr43.below hb49
        have ho54 := hP38.below hb49
        have ho55 := hM42.below hb49
        have hC56 := Chg.trans hC41 (.ofBelow hb49)
        have hb58 : Below w.heap.size w w45 := (bstep hb44 hb49)
        have hb57 : Below w.heap.size w w45 := hb58
        have hWt : w24.heap.size ≤ w45.heap.size := (Nat.le_trans hc39.size hb49.size)
        have hin9 : eltB.In (fun b => w24.heap.size ≤ b) w45 ⟨(x.v : Int), (tmF st.N κ (mdp ms (κ (st.V x.v - 1))) (κ (st.V x.v - 1)))⟩ [.int .i64 ((x.v : Nat) : Int), .int .i64 (tmF st.N κ (mdp ms (κ (st.V x.v - 1))) (κ (st.V x.v - 1))).f, .slice fa (tmF st.N κ (mdp ms (κ (st.V x.v - 1))) (κ (st.V x.v - 1))).args.length fc] := ⟨_, _, rfl, by unfold I64; (try dsimp only); omega, (InT.below hb49 hn35)⟩
        have hWt2 : w1.heap.size ≤ w24.heap.size := hCt.size
        refine WL.step (post := fun v w' => ∃ ra rc, v = .slice ra (x.n + 1) rc ∧ (RowD eltB (fun b => w1.heap.size ≤ b ∧ obk ra ((x.n + 1)) rc ≠ some b) w' 41 ra rc ((x.n + 1)) ((x.L ++ [⟨(x.v : Int), (tmF st.N κ (mdp ms (κ (st.V x.v - 1))) (κ (st.V x.v - 1)))⟩]))) ∧ Chg (fun b => obk x.ra x.n x.rc = some b) w45 w' ∧ ∀ q, obk ra ((x.n + 1)) rc = some q → w1.heap.size ≤ q) rfl rfl rfl (fun za zC zh zk => wp_appD (E := eltB) (S2 := fun b => w24.heap.size ≤ b) (y := ⟨(x.v : Int), (tmF st.N κ (mdp ms (κ (st.V x.v - 1))) (κ (st.V x.v - 1)))⟩) (size := 3) (bytes := 40) (z := .agg #[.int .i64 0, .int .i64 0, .slice none 0 0]) rfl Try.underlying24 (by kernel_rfl) rfl (by decide) rfl (zh.ev rfl) (zh.ev rfl) ho53 hB48 hin9 (fun b q q2 => by have z := howt b q2; (try dsimp only at q); omega) (by omega) (by omega) (fun ra rc w' h1 h2 h3 => zk _ _ ⟨ra, rc, rfl, h1.mono (fun b q _ => by
          obtain ⟨q1, q2⟩ := q
          rcases q1 with q1 | q1
          ·exact ⟨q1.1, fun e9 => by rcases h3 b e9 with z | z; exact q1.2 z; omega⟩
          ·(try dsimp only at q1)
           exact ⟨by omega, fun e9 => by rcases h3 b e9 with z | z; (have z2 := howt b z; omega); omega⟩) (fun b q => q.2), h2, fun q e9 => by rcases h3 q e9 with z | z; exact hownx q z; omega⟩)) ?_
        rintro _ w59 ⟨ra60, rc61, rfl, hr62, hc63, ho64⟩
        have hC65 := chg_fresh hC56 hc63 (fun b e => .inr (hownx b e))
        have hM66 := ho55.chg hc63 (fun e => by have z := hownx _ e; omega)
        have hP67 := ho54.chg hc63 (fun b q e => by have z := hownx _ e; have z2 := hZl b (hPZ b q); omega)
        have hb68 := chg_below hb57 hc63 (fun b hb e => by have z := hownx b e; omega)
        refine WL.asg rfl rfl rfl rfl rfl (WL.nil (WE.blockNormal (WE.next (WC.region ?_))))
        refine WL.val (.int .i64 ((((x.v + 1) : Nat) : Int))) rfl rfl rfl (fun za zC zh zk => addb_3 rfl (zh.ev rfl) (zh.ev rfl) (wrap_eq (by omega) (by omega) (by omega)) zk) ?_
        refine WL.mv rfl rfl rfl rfl rfl (WL.nil ?_)
        have hN69 : NetX w59 g Z U36 st.N st.V := ⟨S8, _, uc, _, oc, hP67, hPZ, fun b q => Nat.lt_of_lt_of_le (hZl b q) (hC65).size⟩
        refine WE.round (⟨x.v + 1, U36, (x.n + 1), (x.L ++ [⟨(x.v : Int), (tmF st.N κ (mdp ms (κ (st.V x.v - 1))) (κ (st.V x.v - 1)))⟩]), ra60, rc61⟩) ⟨rfl, rfl, rfl, rfl, rfl, rfl, rfl, rfl, trivial⟩ ?_ ?_
        ·exact ⟨(by (try dsimp only); omega), hR37, (by show bindsM st κ (msz ms) (mdp ms) (x.v + 1) = _; rw [bindsM, hbx]; dsimp only; rw [if_neg hz9, if_neg hself, if_neg hlong]), ho64, (by (try dsimp only); omega), hC65, hb68, hN69, hM66, hr62⟩
        ·(try dsimp only); omega
   ·have h10 : ¬ ((((x.v : Nat) : Int) : Int) < (96 : Int)) := by simpa using h10
    refine WC.exit (WE.thenExit (WE.thenExit (WE.blockIs rfl (WE.next (WC.seq (WC.region (WL.mv rfl rfl rfl rfl rfl (WL.asg rfl rfl rfl rfl rfl (WL.asg rfl rfl rfl rfl rfl (WL.nil (WE.next (WC.ret (WE.ret2 rfl rfl rfl ?_)))))))))))))
    have hv9 : x.v = 96 := by omega
    rw [hv9] at hbx
    have hrr := ho9
    have hnn := hrr.len
    have hri := hrr.inRow
    exact ⟨_, rfl, ⟨x.L, x.ra, x.rc, 0, by rw [← hnn], .inr ⟨hW, _, hsv, by unfold resOf; dsimp only; rw [hbx]; rfl⟩, hrr.inRowT.mono (by decide) (fun b q _ => by rcases q with q | q; exact Nat.le_trans hw1 q.1; exact Nat.le_trans hw1 (hownx b q)), by omega, hri.2.2, by omega⟩, hb6⟩
end Go.Proofs.Ythhgidliopohcaa

/- What variables become: the document's program. -/
namespace Go.Proofs.Ythhgidliopohcaa
open Go.RowKit Go
set_option linter.unusedVariables false
set_option linter.unusedSimpArgs false
end Go.Proofs.Ythhgidliopohcaa

/- Two terms: what variables become; whether there is a unifier: the program. -/
namespace Go.Proofs.Ythhgidliopohcaa
open Go.RowKit Go
set_option linter.unusedVariables false
set_option linter.unusedSimpArgs false
/-- Whether there is a unifier. -/
def CanIs (rv : Bool) (l : List (T × T)) (b : Bool) : Prop := (wideB l = false ∧ b = false) ∨ (wideB l = true ∧ ∃ o, SolveIs rv l o ∧ b = o.isSome)
set_option maxRecDepth 100000 in
theorem pterms_any (t s : T) (w : World) (v1 v2 : Value) (h1 : IsT w t v1) (h2 : IsT w s v2) :
  Calls Try.prog 9 #[v1, v2] w (Ret fun v' w' => (∃ bs a' c' e, v' = .tuple #[.slice a' bs.length c', .int .i64 e] ∧ PairsIs true [(t, s)] bs e ∧ InRow eltB (fun b => w.heap.size ≤ b) w' bs a' ∧ bs.length ≤ c' ∧ c' ≤ maxLen ∧ bs.length ≤ 96) ∧ Below w.heap.size w w') := by
 obtain ⟨_, a1, c1, rfl, _⟩ := h1.form
 obtain ⟨_, a2, c2, rfl, _⟩ := h2.form
 refine Calls.walk (l := [.agg #[.int .i64 t.f, .slice a1 t.args.length c1], .agg #[.int .i64 s.f, .slice a2 s.args.length c2]]) Try.func9 rfl (by kernel_rfl) ?_
 refine WC.sub (K' := [(0, .agg #[.int .i64 t.f, .slice a1 t.args.length c1]), (1, .agg #[.int .i64 s.f, .slice a2 s.args.length c2])]) ⟨rfl, rfl, trivial⟩ ?_
 refine WC.seq (WC.region ?_)
 refine WL.step (post := NewBlk w 32 #[.int .i64 t.f, .slice a1 t.args.length c1]) rfl rfl rfl (fun za zC zh zk => box_32 rfl (zh.ev rfl) (zk _ _ (newBlk _ _ _))) ?_
 rintro _ w1 ⟨g2, rfl, hg3, hB4, hb5, hz6⟩
 have hl7 : w.heap.size ≤ g2 := by omega
 refine WL.step (post := NewBlk w1 32 #[.int .i64 s.f, .slice a2 s.args.length c2]) rfl rfl rfl (fun za zC zh zk => box_32 rfl (zh.ev rfl) (zk _ _ (newBlk _ _ _))) ?_
 rintro _ w8 ⟨g9, rfl, hg10, hB11, hb12, hz13⟩
 have hl14 : g2 < g9 := by have z1 := hB4.lt; omega
 have hl15 : w.heap.size ≤ g9 := by have z2 := (hb5).size; omega
 refine WL.asg rfl rfl rfl rfl rfl (WL.asg rfl rfl rfl rfl rfl (WL.nil (WE.next (WC.seq (WC.region ?_)))))
 have hB16 := hB4.below hb12
 refine WL.val _ rfl rfl rfl (fun za zC zh zk => ld_32 rfl (zh.ev rfl) ((hB16.cell 0).trans rfl) ((hB16.cell 1).trans rfl) zk) ?_
 refine WL.val _ rfl rfl rfl (fun za zC zh zk => ld_32 rfl (zh.ev rfl) ((hB11.cell 0).trans rfl) ((hB11.cell 1).trans rfl) zk) ?_
 refine WL.val (.agg #[.int .i64 t.f, .slice a1 t.args.length c1, .int .i64 s.f, .slice a2 s.args.length c2]) rfl rfl rfl (fun za zC zh zk => build_33_0_1 rfl (zh.ev rfl) (zh.ev rfl) zk) ?_
 refine WL.step (post := NewRow w8 33 #[.int .i64 t.f, .slice a1 t.args.length c1, .int .i64 s.f, .slice a2 s.args.length c2] 1) rfl rfl rfl (fun za zC zh zk => row_22_1 rfl (zh.ev rfl) (zk _ _ (newRow _ _ _ _))) ?_
 rintro _ w17 ⟨g18, rfl, hg19, hB20, hb21, hz22⟩
 have hl23 : g2 < g18 := by have z1 := hB16.lt; omega
 have hl24 : g9 < g18 := by have z1 := hB11.lt; omega
 have hb25 : Below w.heap.size w w8 := (bstep hb5 hb12)
 have hl26 : w.heap.size ≤ g18 := by have z2 := (hb25).size; omega
 have hb27 : Below w.heap.size w w17 := (bstep hb25 hb21)
 have hb28 : Below w.heap.size w w17 := hb27
 refine WL.call rfl rfl rfl (fun za zh zC => wp_call (by kernel_rfl) rfl (hv1 (zh.ev rfl))) (ppairs_any [(t, s)] _ _ 1 (IsPs.one hB20 (h1.below hb27) (h2.below hb27)) (by simp)) ?_
 rintro _ w29 ⟨⟨bs, a9, c9, e9, rfl, hPI, hIR, hle, hcm, h96⟩, hb9⟩
 refine WL.val (.slice a9 bs.length c9) rfl rfl rfl (fun za zC zh zk => ext2_0 rfl (zh.ev rfl) zk) ?_
 refine WL.val (.int .i64 e9) rfl rfl rfl (fun za zC zh zk => ext2_1 rfl (zh.ev rfl) zk) ?_
 refine WL.asg rfl rfl rfl rfl rfl (WL.asg rfl rfl rfl rfl rfl (WL.nil (WE.next (WC.ret (WE.ret2 rfl rfl rfl ?_)))))
 have hb30 : Below w.heap.size w w29 := (bstep hb27 hb9)
 exact ⟨_, rfl, ⟨bs, a9, c9, e9, rfl, hPI, hIR.mono (by decide) (fun b q _ => Nat.le_trans hb28.size q), hle, hcm, h96⟩, hb30⟩
set_option maxRecDepth 100000 in
theorem pcan_any (t s : T) (w : World) (v1 v2 : Value) (h1 : IsT w t v1) (h2 : IsT w s v2) :
  Calls Try.prog 11 #[v1, v2] w (Ret fun v' w' => (∃ b, v' = .bool b ∧ CanIs true [(t, s)] b) ∧ Below w.heap.size w w') := by
 obtain ⟨_, a1, c1, rfl, _⟩ := h1.form
 obtain ⟨_, a2, c2, rfl, _⟩ := h2.form
 refine Calls.walk (l := [.agg #[.int .i64 t.f, .slice a1 t.args.length c1], .agg #[.int .i64 s.f, .slice a2 s.args.length c2]]) Try.func11 rfl (by kernel_rfl) ?_
 refine WC.sub (K' := [(0, .agg #[.int .i64 t.f, .slice a1 t.args.length c1]), (1, .agg #[.int .i64 s.f, .slice a2 s.args.length c2])]) ⟨rfl, rfl, trivial⟩ ?_
 refine WC.seq (WC.region ?_)
 refine WL.step (post := NewBlk w 32 #[.int .i64 t.f, .slice a1 t.args.length c1]) rfl rfl rfl (fun za zC zh zk => box_32 rfl (zh.ev rfl) (zk _ _ (newBlk _ _ _))) ?_
 rintro _ w1 ⟨g2, rfl, hg3, hB4, hb5, hz6⟩
 have hl7 : w.heap.size ≤ g2 := by omega
 refine WL.step (post := NewBlk w1 32 #[.int .i64 s.f, .slice a2 s.args.length c2]) rfl rfl rfl (fun za zC zh zk => box_32 rfl (zh.ev rfl) (zk _ _ (newBlk _ _ _))) ?_
 rintro _ w8 ⟨g9, rfl, hg10, hB11, hb12, hz13⟩
 have hl14 : g2 < g9 := by have z1 := hB4.lt; omega
 have hl15 : w.heap.size ≤ g9 := by have z2 := (hb5).size; omega
 refine WL.asg rfl rfl rfl rfl rfl (WL.nil (WE.next (WC.seq (WC.region ?_))))
 have hB16 := hB4.below hb12
 refine WL.val _ rfl rfl rfl (fun za zC zh zk => ld_32 rfl (zh.ev rfl) ((hB16.cell 0).trans rfl) ((hB16.cell 1).trans rfl) zk) ?_
 refine WL.val _ rfl rfl rfl (fun za zC zh zk => ld_32 rfl (zh.ev rfl) ((hB11.cell 0).trans rfl) ((hB11.cell 1).trans rfl) zk) ?_
 refine WL.val (.agg #[.int .i64 t.f, .slice a1 t.args.length c1, .int .i64 s.f, .slice a2 s.args.length c2]) rfl rfl rfl (fun za zC zh zk => build_33_0_1 rfl (zh.ev rfl) (zh.ev rfl) zk) ?_
 refine WL.step (post := NewRow w8 33 #[.int .i64 t.f, .slice a1 t.args.length c1, .int .i64 s.f, .slice a2 s.args.length c2] 1) rfl rfl rfl (fun za zC zh zk => row_22_1 rfl (zh.ev rfl) (zk _ _ (newRow _ _ _ _))) ?_
 rintro _ w17 ⟨g18, rfl, hg19, hB20, hb21, hz22⟩
 have hl23 : g2 < g18 := by have z1 := hB16.lt; omega
 have hl24 : g9 < g18 := by have z1 := hB11.lt; omega
 have hb25 : Below w.heap.size w w8 := (bstep hb5 hb12)
 have hl26 : w.heap.size ≤ g18 := by have z2 := (hb25).size; omega
 have hb31 : Below w.heap.size w w17 := (bstep hb25 hb21)
 refine WL.call rfl rfl rfl (fun za zh zC => wp_call (by kernel_rfl) rfl (hv1 (zh.ev rfl))) (psolve_any [(t, s)] _ _ 1 (IsPs.one hB20 (h1.below hb31) (h2.below hb31)) (by simp)) ?_
 rintro v29 w27 ⟨h30, hb28⟩
 rcases h30 with ⟨hW, rfl⟩ | ⟨hW, hsv, rfl⟩ | ⟨hW, st, κ, g, mb, ms, hgo, hAk, hdn, rfl, _⟩
 ·refine WL.mv rfl rfl rfl rfl rfl ?_
  refine WL.val (.pointer none) rfl rfl rfl (fun za zC zh zk => ext3_0 rfl (zh.ev rfl) zk) ?_
  refine WL.val (.slice none 0 0) rfl rfl rfl (fun za zC zh zk => ext3_1 rfl (zh.ev rfl) zk) ?_
  refine WL.val (.int .i64 2) rfl rfl rfl (fun za zC zh zk => ext3_2 rfl (zh.ev rfl) zk) ?_
  refine WL.asg rfl rfl rfl rfl rfl (WL.asg rfl rfl rfl rfl rfl (WL.asg rfl rfl rfl rfl rfl (WL.nil (WE.next (WC.seq (WC.region (WL.mv rfl rfl rfl rfl rfl ?_)))))))
  refine WL.val (.bool (((2 : Int) == (0 : Int)))) rfl rfl rfl (fun za zC zh zk => eql_25 rfl (zh.ev rfl) (zh.ev rfl) zk) ?_
  refine WL.asg rfl rfl rfl rfl rfl (WL.nil (WE.next (WC.ret (WE.ret1 rfl rfl ?_))))
  have hb32 : Below w.heap.size w w27 := (bstep hb31 hb28)
  exact ⟨_, rfl, ⟨false, rfl, .inl ⟨hW, rfl⟩⟩, hb32⟩
 ·refine WL.mv rfl rfl rfl rfl rfl ?_
  refine WL.val (.pointer none) rfl rfl rfl (fun za zC zh zk => ext3_0 rfl (zh.ev rfl) zk) ?_
  refine WL.val (.slice none 0 0) rfl rfl rfl (fun za zC zh zk => ext3_1 rfl (zh.ev rfl) zk) ?_
  refine WL.val (.int .i64 4) rfl rfl rfl (fun za zC zh zk => ext3_2 rfl (zh.ev rfl) zk) ?_
  refine WL.asg rfl rfl rfl rfl rfl (WL.asg rfl rfl rfl rfl rfl (WL.asg rfl rfl rfl rfl rfl (WL.nil (WE.next (WC.seq (WC.region (WL.mv rfl rfl rfl rfl rfl ?_)))))))
  refine WL.val (.bool (((4 : Int) == (0 : Int)))) rfl rfl rfl (fun za zC zh zk => eql_25 rfl (zh.ev rfl) (zh.ev rfl) zk) ?_
  refine WL.asg rfl rfl rfl rfl rfl (WL.nil (WE.next (WC.ret (WE.ret1 rfl rfl ?_))))
  have hb33 : Below w.heap.size w w27 := (bstep hb31 hb28)
  exact ⟨_, rfl, ⟨false, rfl, .inr ⟨hW, none, hsv, rfl⟩⟩, hb33⟩
 ·refine WL.mv rfl rfl rfl rfl rfl ?_
  refine WL.val (.pointer (some ⟨g, 0, none⟩)) rfl rfl rfl (fun za zC zh zk => ext3_0 rfl (zh.ev rfl) zk) ?_
  refine WL.val (.slice ((some ⟨mb, 0, none⟩)) st.N.length st.N.length) rfl rfl rfl (fun za zC zh zk => ext3_1 rfl (zh.ev rfl) zk) ?_
  refine WL.val (.int .i64 0) rfl rfl rfl (fun za zC zh zk => ext3_2 rfl (zh.ev rfl) zk) ?_
  refine WL.asg rfl rfl rfl rfl rfl (WL.asg rfl rfl rfl rfl rfl (WL.asg rfl rfl rfl rfl rfl (WL.nil (WE.next (WC.seq (WC.region (WL.mv rfl rfl rfl rfl rfl ?_)))))))
  refine WL.val (.bool (((0 : Int) == (0 : Int)))) rfl rfl rfl (fun za zC zh zk => eql_25 rfl (zh.ev rfl) (zh.ev rfl) zk) ?_
  refine WL.asg rfl rfl rfl rfl rfl (WL.nil (WE.next (WC.ret (WE.ret1 rfl rfl ?_))))
  have hb34 : Below w.heap.size w w27 := (bstep hb31 hb28)
  have hrn := hgo.run
  rw [List.take_length] at hrn
  exact ⟨_, rfl, ⟨true, rfl, .inr ⟨hW, some (st, κ, msz ms, mdp ms), .ok hrn (hAk.meas hdn), rfl⟩⟩, hb34⟩
end Go.Proofs.Ythhgidliopohcaa

/- Two terms: what variables become; whether there is a unifier: the document. -/
namespace Go.Proofs.Ythhgidliopohcaa
open Go.RowKit Go
set_option linter.unusedVariables false
set_option linter.unusedSimpArgs false
end Go.Proofs.Ythhgidliopohcaa

/- The program's answer and the document's are one; what the document says of two terms. -/
namespace Go.Proofs.Ythhgidliopohcaa
open Go.RowKit Go
set_option linter.unusedVariables false
set_option linter.unusedSimpArgs false
theorem PairsIs.det {rv rv' : Bool} {l : List (T × T)} {bs bs' : List Bd} {e e' : Int} (h : PairsIs rv l bs e) (h' : PairsIs rv' l bs' e') : bs = bs' ∧ e = e' := by
  rcases h with ⟨h1, rfl, rfl⟩ | ⟨h1, o, h2, h3⟩
  · rcases h' with ⟨_, rfl, rfl⟩ | ⟨k1, _⟩
    · exact ⟨rfl, rfl⟩
    · rw [h1] at k1; cases k1
  · rcases h' with ⟨k1, _⟩ | ⟨k1, o', k2, k3⟩
    · rw [h1] at k1; cases k1
    · have z := (solve_alike h2 k2).1
      rw [h3, k3] at z
      exact Prod.mk.inj z
theorem CanIs.det {rv rv' : Bool} {l : List (T × T)} {b b' : Bool} (h : CanIs rv l b) (h' : CanIs rv' l b') : b = b' := by
  rcases h with ⟨h1, rfl⟩ | ⟨h1, o, h2, rfl⟩
  · rcases h' with ⟨_, rfl⟩ | ⟨k1, _⟩
    · rfl
    · rw [h1] at k1; cases k1
  · rcases h' with ⟨k1, _⟩ | ⟨k1, o', k2, rfl⟩
    · rw [h1] at k1; cases k1
    · have z := (solve_alike h2 k2).2
      cases o with
      | none => rw [z.1 rfl]
      | some p =>
        cases o' with
        | none => cases z.2 rfl
        | some q => rfl
/-! ### What the document says of two terms -/
def wkF : T := .mk 3 [.mk (-1) [], .mk 1 []]
def wkH : T := .mk 3 [.mk 2 [.mk (-2) []], .mk (-2) []]
def wkX : T := .mk (-1) []
def wkG : T := .mk 2 [.mk (-1) []]
theorem wk_put1 : (wkF.put ⟨[], fun _ => 0⟩) = (⟨[⟨-1, []⟩, ⟨1, []⟩, ⟨3, [0, 1]⟩], NS.setV (fun _ => 0) 0 1⟩, 2) := by
  simp [wkF, T.put, T.putL, NS.var, vnum]
theorem wk_put2 : (wkH.put ⟨[⟨-1, []⟩, ⟨1, []⟩, ⟨3, [0, 1]⟩], NS.setV (fun _ => 0) 0 1⟩) = (⟨[⟨-1, []⟩, ⟨1, []⟩, ⟨3, [0, 1]⟩, ⟨-2, []⟩, ⟨2, [3]⟩, ⟨3, [4, 3]⟩], NS.setV (NS.setV (fun _ => 0) 0 1) 1 4⟩, 5) := by
  simp [wkH, T.put, T.putL, NS.var, vnum, NS.setV]
def wkN : List Pt := [⟨-1, []⟩, ⟨1, []⟩, ⟨3, [0, 1]⟩, ⟨-2, []⟩, ⟨2, [3]⟩, ⟨3, [4, 3]⟩]
def wkK : Nat → Nat := mrg (mrg (mrg id 5 2) 3 1) 0 4
theorem wk_run : Run true wkN [(2, 5)] id (some wkK) :=
  .step (by decide) (show _ = some (mrg id 5 2, [(0, 4), (1, 3)]) from rfl) (.step (by decide) (show _ = some (mrg (mrg id 5 2) 3 1, []) from rfl) (.step (by decide) (show _ = some (wkK, []) from rfl) (.nil _)))
def wkS : Nat → Nat := fun i => [0, 1, 4, 0, 2, 0].getD i 0
def wkD : Nat → Nat := fun i => [0, 1, 3, 0, 2, 0].getD i 0
theorem wk_solve : SolveIs true [(wkF, wkH)] (some (⟨wkN, NS.setV (NS.setV (fun _ => 0) 0 1) 1 4⟩, wkK, wkS, wkD)) := by
  refine .ok (.cons (κ' := wkK) ?_ ?_) ⟨?_, ?_⟩
  · rw [wk_put1, wk_put2]; exact wk_run
  · rw [wk_put1, wk_put2]; exact .nil _ _
  · show ∀ i, i < 6 → wkS (wkK i) = szF wkK wkS (pget wkN (wkK i)).args
    decide
  · show ∀ i, i < 6 → wkD (wkK i) = dpF wkK wkD (pget wkN (wkK i)).args
    decide
theorem wk_binds : bindsM ⟨wkN, NS.setV (NS.setV (fun _ => 0) 0 1) 1 4⟩ wkK wkS wkD 96 = some [⟨0, .mk 2 [.mk 1 []]⟩, ⟨1, .mk 1 []⟩] := by
  have key : ∀ n, bindsM ⟨wkN, NS.setV (NS.setV (fun _ => 0) 0 1) 1 4⟩ wkK wkS wkD (n + 2) = some [⟨0, .mk 2 [.mk 1 []]⟩, ⟨1, .mk 1 []⟩] := fun n => by
    induction n with
    | zero => rfl
    | succ n ih =>
      rw [bindsM, ih]
      show (if NS.setV (NS.setV (fun _ => 0) 0 1) 1 4 (n + 2) = 0 then _ else _) = _
      rw [if_pos (by unfold NS.setV; rw [if_neg (by omega), if_neg (by omega)])]
  exact key 94
theorem wk_wide : wideB [(wkF, wkH)] = true := by decide
theorem wk_pairs {bs : List Bd} {e : Int} (h : PairsIs true [(wkF, wkH)] bs e) : bs = [⟨0, .mk 2 [.mk 1 []]⟩, ⟨1, .mk 1 []⟩] ∧ e = 0 :=
  h.det (rv' := true) (.inr ⟨wk_wide, _, wk_solve, by unfold resOf; (try dsimp only); rw [wk_binds]; rfl⟩)
theorem wk_can {b : Bool} (h : CanIs true [(wkF, wkH)] b) : b = true := h.det (rv' := true) (.inr ⟨wk_wide, _, wk_solve, rfl⟩)
theorem wk_put3 : (wkX.put ⟨[], fun _ => 0⟩) = (⟨[⟨-1, []⟩], NS.setV (fun _ => 0) 0 1⟩, 0) := by simp [wkX, T.put, NS.var, vnum]
theorem wk_put4 : (wkG.put ⟨[⟨-1, []⟩], NS.setV (fun _ => 0) 0 1⟩) = (⟨[⟨-1, []⟩, ⟨2, [0]⟩], NS.setV (fun _ => 0) 0 1⟩, 1) := by simp [wkG, T.put, T.putL, NS.var, vnum, NS.setV]
theorem wk_none {bs : List Bd} {e : Int} (h : PairsIs true [(wkX, wkG)] bs e) : e = 4 := by
  have hs : SolveIs true [(wkX, wkG)] none := by
    refine .cyc (st := ⟨[⟨-1, []⟩, ⟨2, [0]⟩], NS.setV (fun _ => 0) 0 1⟩) (κ := mrg id 0 1) (.cons (κ' := mrg id 0 1) ?_ ?_) (fun sz dp hm => ?_)
    · rw [wk_put3, wk_put4]
      exact .step (by decide) (show _ = some (mrg id 0 1, []) from rfl) (.nil _)
    · rw [wk_put3, wk_put4]; exact .nil _ _
    · have z := hm.lt (i := 1) (a := 0) (by decide) (by decide)
      exact absurd z (Nat.lt_irrefl _)
  exact (h.det (rv' := true) (.inr ⟨by decide, _, hs, rfl⟩)).2
end Go.Proofs.Ythhgidliopohcaa

/- Terms compared, as a plain function. -/
namespace Go.Proofs.Ythhgidliopohcaa
namespace T
mutual
def same : T → T → Bool
  | .mk f l, .mk g k => (f == g) && sameL l k
def sameL : List T → List T → Bool
  | [], [] => true
  | a :: r, b :: q => same a b && sameL r q
  | [], _ :: _ => false
  | _ :: _, [] => false
end
mutual
theorem same_iff : ∀ (s t : T), same s t = true ↔ s = t
  | .mk f l, .mk g k => by
    rw [same, Bool.and_eq_true, sameL_iff l k, beq_iff_eq]
    simp
theorem sameL_iff : ∀ (l k : List T), sameL l k = true ↔ l = k
  | [], [] => by simp [sameL]
  | a :: r, b :: q => by rw [sameL, Bool.and_eq_true, same_iff a b, sameL_iff r q]; simp
  | [], _ :: _ => by simp [sameL]
  | _ :: _, [] => by simp [sameL]
end
theorem same_refl (s : T) : same s s = true := (same_iff s s).2 rfl
mutual
def cmp : T → T → Int
  | .mk f l, .mk g k => if f ≠ g then (if f < 0 ∧ g < 0 then (if g < f then -1 else 1) else if f < g then -1 else 1) else cmpL l k
def cmpL : List T → List T → Int
  | [], [] => 0
  | a :: r, b :: q => if cmp a b = 0 then cmpL r q else cmp a b
  | [], _ :: _ => -1
  | _ :: _, [] => 1
end
mutual
theorem cmp_zero : ∀ (s t : T), cmp s t = 0 ↔ s = t
  | .mk f l, .mk g k => by
    rw [cmp]
    have h := cmpL_zero l k
    by_cases hfg : f = g
    · subst hfg; simp [h]
    · rw [if_pos (by simpa using hfg)]
      simp only [T.mk.injEq, hfg, false_and, iff_false]
      (repeat' split) <;> simp
theorem cmpL_zero : ∀ (l k : List T), cmpL l k = 0 ↔ l = k
  | [], [] => by simp [cmpL]
  | a :: r, b :: q => by
    rw [cmpL]
    have h1 := cmp_zero a b
    have h2 := cmpL_zero r q
    by_cases h : cmp a b = 0
    · rw [if_pos h, h2, h1.1 h]; simp
    · rw [if_neg h]
      simp only [h, false_iff, List.cons.injEq, not_and]
      intro e; exact absurd (h1.2 e) h
  | [], _ :: _ => by simp [cmpL]
  | _ :: _, [] => by simp [cmpL]
end
theorem cmp_same (s t : T) : if same s t = true then cmp s t = 0 else ¬ cmp s t = 0 := by
  by_cases h : s = t
  · rw [if_pos ((same_iff s t).2 h)]; exact (cmp_zero s t).2 h
  · rw [if_neg (fun e => h ((same_iff s t).1 e))]; exact fun e => h ((cmp_zero s t).1 e)
theorem cmpL_drop (l q : List T) (k : Nat) (h : k < l.length) (h' : k < q.length) : cmpL (l.drop k) (q.drop k) = if cmp l[k] q[k] = 0 then cmpL (l.drop (k + 1)) (q.drop (k + 1)) else cmp l[k] q[k] := by
  rw [List.drop_eq_getElem_cons h, List.drop_eq_getElem_cons h', cmpL]
theorem cmpL_long (l q : List T) (k : Nat) (h : k < l.length) (h' : q.length ≤ k) : cmpL (l.drop k) (q.drop k) = 1 := by
  rw [List.drop_eq_getElem_cons h, List.drop_eq_nil_of_le h', cmpL]
theorem cmpL_short (l q : List T) (h : l.length < q.length) : cmpL (l.drop l.length) (q.drop l.length) = -1 := by
  rw [List.drop_eq_getElem_cons h, List.drop_eq_nil_of_le (Nat.le_refl _), cmpL]
theorem cmpL_end (l q : List T) (h : q.length ≤ l.length) : cmpL (l.drop l.length) (q.drop l.length) = 0 := by
  rw [List.drop_eq_nil_of_le h, List.drop_eq_nil_of_le (Nat.le_refl _), cmpL]
end T
end Go.Proofs.Ythhgidliopohcaa

/- Terms that are the same: the program's way. -/
namespace Go.Proofs.Ythhgidliopohcaa
open Go.RowKit Go.Sort Go
end Go.Proofs.Ythhgidliopohcaa

/- Terms compared and found the same: the document's way. -/
namespace Go.Proofs.Ythhgidliopohcaa
open Go.RowKit Go.Sort Go
set_option maxHeartbeats 400000 in
theorem compare_any (s : T) : ∀ (t : T) (w : World) (v u : Value), IsT w s v → IsT w t u →
    Calls Try.prog 33 #[v, u] w fun e w' => e = .returned (.int .i64 (T.cmp s t)) ∧ Below w.heap.size w w' := by
  induction s using T.ind with
  | h f l ih =>
  intro t w v u hv hu
  obtain ⟨g, q⟩ := t
  obtain ⟨⟨hf1, hf2⟩, a, c, rfl, hc, hm, hl⟩ := hv
  obtain ⟨⟨hg1, hg2⟩, a', c', rfl, hc', hm', hq⟩ := hu
  unfold maxLen at hm hm'
  by_cases hfg : f = g
  · have E := Lib.hid (show T.cmp (.mk f l) (.mk g q) = T.cmpL l q by rw [T.cmp, if_neg (by simpa using hfg)])
    have hne : (f != g) = false := by simpa using hfg
    subst hfg
    go_enter Try.func33, Try.ntmps33
    go_wp2_with fail
    go_loopw [5] (fun i wr => ∃ (k : Nat), k ≤ l.length ∧ k ≤ q.length ∧ i = .int .i64 k ∧ Hid (T.cmpL l q = T.cmpL (l.drop k) (q.drop k)) ∧ Below w.heap.size w wr ∧ Box wr w.heap.size [.int .i64 f, .slice a l.length c] ∧ Box wr (w.heap.size + 1) [.int .i64 f, .slice a' q.length c']) (fun i _ => l.length - (intOf i).toNat)
    case atStart => exact ⟨0, Nat.zero_le _, Nat.zero_le _, rfl, rfl, balloc2 _ _ _, (Box.new _ _ _).alloc _, by have := Box.new (w.alloc (.cells #[.int .i64 f, .slice a l.length c] 32)) [.int .i64 f, .slice a' q.length c'] 32; simpa using this⟩
    case round =>
      obtain ⟨k, hk, hkq, rfl, hx, hw, hB1, hB2⟩ := hrel
      obtain ⟨s0, s1⟩ := hB1.two
      obtain ⟨t0, t1⟩ := hB2.two
      by_cases hlt : k < l.length
      · by_cases hlq : k < q.length
        · obtain ⟨b1, o1, a1, c1, rfl, g1, g2, h3⟩ := hl.at_ hw k hlt
          obtain ⟨b2, o2, a2, c2, rfl, g3, g4, h4⟩ := hq.at_ hw k hlq
          have IH := fun w v u => ih l[k] (List.getElem_mem hlt) q[k] w v u
          have q5 := T.cmpL_drop l q k hlt hlq
          have k0 : (0 : Int) ≤ (k : Int) := by omega
          have k1 : (k : Int) < (l.length : Int) := by omega
          have k2 : (k : Int) < (q.length : Int) := by omega
          have r0 := cell_regrown s1
          have r1 := cell_regrown t1
          have r2 := cell_regrown g1
          have r3 := cell_regrown g2
          have r4 := cell_regrown g3
          have r5 := cell_regrown g4
          have Hh3 := Lib.hid h3
          have Hh4 := Lib.hid h4
          have HhB1 := Lib.hid hB1
          have HhB2 := Lib.hid hB2
          have Hhw := Lib.hid hw
          have Hq5 := Lib.hid q5
          have Hhx := Lib.hid hx
          clear h3 h4 hB1 hB2 hw q5 hx
          clear ih hl hq
          by_cases hz : T.cmp l[k] q[k] = 0
          · rw [hz] at IH
            have Hz := Lib.hid hz
            clear hz
            go_wp2_with fail
            refine wp_region_quiet_below (by kernel_rfl) (by kernel_rfl) ?_
            repeat (quiet_step (exact Calls.regrown_of (IH _ _ _ (Hh3.out.below (below_regrown _ _ _)) (Hh4.out.below (below_regrown _ _ _)))))
            refine wpQuiet_nil ?_
            intro _ hw'
            obtain ⟨⟨dq, osq⟩, hw''⟩ := hw'
            subst hw''
            have hbq := below_regrown wr dq osq
            generalize grow (redrawn wr dq) osq = wq at hbq ⊢
            go_wp2_with fail
            go_roundw
            case rel => exact ⟨k + 1, by omega, by omega, by go_num, by unfold Hid; rw [Hhx.out, Hq5.out, if_pos Hz.out], bstep Hhw.out hbq, HhB1.out.below hbq, HhB2.out.below hbq⟩
            case measure => simp [intOf]; omega
          · have hzb : (T.cmp l[k] q[k] != 0) = true := by simpa using hz
            have Hz := Lib.hid hz
            clear hz
            go_wp2_with fail
            refine wp_region_quiet_below (by kernel_rfl) (by kernel_rfl) ?_
            repeat (quiet_step (exact Calls.regrown_of (IH _ _ _ (Hh3.out.below (below_regrown _ _ _)) (Hh4.out.below (below_regrown _ _ _)))))
            refine wpQuiet_nil ?_
            intro _ hw'
            obtain ⟨⟨dq, osq⟩, hw''⟩ := hw'
            subst hw''
            have hbq := below_regrown wr dq osq
            generalize grow (redrawn wr dq) osq = wq at hbq ⊢
            go_wp2_with fail
            go_ret
            exact ⟨rint (by rw [E.out, Hhx.out, Hq5.out, if_neg Hz.out]), bstep Hhw.out hbq⟩
        · have Q := Lib.hid (show T.cmpL (l.drop k) (q.drop k) = 1 from T.cmpL_long l q k hlt (by omega))
          have Hhw := Lib.hid hw
          have Hhx := Lib.hid hx
          clear hw hx
          clear ih hl hq
          go_wp2_with fail
          go_ret
          exact ⟨rint (by rw [E.out, Hhx.out, Q.out]), Hhw.out⟩
      · obtain rfl : k = l.length := by omega
        by_cases hlq : l.length < q.length
        · have Q := Lib.hid (show T.cmpL (l.drop l.length) (q.drop l.length) = -1 from T.cmpL_short l q hlq)
          have Hhw := Lib.hid hw
          have Hhx := Lib.hid hx
          clear hw hx
          clear ih hl hq
          go_wp2_with fail
          go_ret
          exact ⟨rint (by rw [E.out, Hhx.out, Q.out]), Hhw.out⟩
        · have Q := Lib.hid (show T.cmpL (l.drop l.length) (q.drop l.length) = 0 from T.cmpL_end l q (by omega))
          have Hhw := Lib.hid hw
          have Hhx := Lib.hid hx
          clear hw hx
          clear ih hl hq
          go_wp2_with fail
          go_ret
          exact ⟨rint (by rw [E.out, Hhx.out, Q.out]), Hhw.out⟩
  · have hne : (f != g) = true := by simpa using hfg
    by_cases hf : f < 0
    · by_cases hg : g < 0
      · by_cases hlt : g < f
        · have E := Lib.hid (show T.cmp (.mk f l) (.mk g q) = -1 by rw [T.cmp, if_pos hfg, if_pos ⟨hf, hg⟩, if_pos hlt])
          go_enter Try.func33, Try.ntmps33
          go_wp2_with fail
          go_ret
          exact ⟨rint E.out, balloc2 _ _ _⟩
        · have E := Lib.hid (show T.cmp (.mk f l) (.mk g q) = 1 by rw [T.cmp, if_pos hfg, if_pos ⟨hf, hg⟩, if_neg hlt])
          go_enter Try.func33, Try.ntmps33
          go_wp2_with fail
          go_ret
          exact ⟨rint E.out, balloc2 _ _ _⟩
      · have hlt : f < g := by omega
        have E := Lib.hid (show T.cmp (.mk f l) (.mk g q) = -1 by rw [T.cmp, if_pos hfg, if_neg (by omega), if_pos hlt])
        go_enter Try.func33, Try.ntmps33
        go_wp2_with fail
        go_ret
        exact ⟨rint E.out, balloc2 _ _ _⟩
    · by_cases hlt : f < g
      · have E := Lib.hid (show T.cmp (.mk f l) (.mk g q) = -1 by rw [T.cmp, if_pos hfg, if_neg (by omega), if_pos hlt])
        go_enter Try.func33, Try.ntmps33
        go_wp2_with fail
        go_ret
        exact ⟨rint E.out, balloc2 _ _ _⟩
      · have E := Lib.hid (show T.cmp (.mk f l) (.mk g q) = 1 by rw [T.cmp, if_pos hfg, if_neg (by omega), if_neg hlt])
        go_enter Try.func33, Try.ntmps33
        go_wp2_with fail
        go_ret
        exact ⟨rint E.out, balloc2 _ _ _⟩
theorem rsame_any (s t : T) (w : World) (v u : Value) (hv : IsT w s v) (hu : IsT w t u) :
    Calls Try.prog 18 #[v, u] w fun e w' => e = .returned (.bool (T.same s t)) ∧ Below w.heap.size w w' := by
  obtain ⟨_, a, c, rfl, hc, hm, _⟩ := hv.form
  obtain ⟨_, a', c', rfl, hc', hm', _⟩ := hu.form
  unfold maxLen at hm hm'
  have E := T.cmp_same s t
  have C := fun w v u => compare_any s t w v u
  cases hs : T.same s t with
  | true =>
    rw [hs, if_pos rfl] at E
    rw [E] at C
    have Hhv := Lib.hid hv
    have Hhu := Lib.hid hu
    clear hv hu
    clear hs E
    go_enter Try.func18, Try.ntmps18
    go_wp2_with (go_at_call 33; refine (C _ _ _ (Hhv.out.below (balloc2 _ _ _)) (Hhu.out.below (balloc2 _ _ _))).mono ?_; rintro e w' ⟨rfl, hb'⟩)
    go_ret
    exact ⟨rfl, bstep (balloc2 _ _ _) hb'⟩
  | false =>
    rw [hs] at E
    have E' : (T.cmp s t == 0) = false := by simpa using E
    have Hhv := Lib.hid hv
    have Hhu := Lib.hid hu
    clear hv hu
    clear hs E
    go_enter Try.func18, Try.ntmps18
    go_wp2_with (go_at_call 33; refine (C _ _ _ (Hhv.out.below (balloc2 _ _ _)) (Hhu.out.below (balloc2 _ _ _))).mono ?_; rintro e w' ⟨rfl, hb'⟩)
    go_ret
    exact ⟨rfl, bstep (balloc2 _ _ _) hb'⟩
end Go.Proofs.Ythhgidliopohcaa

/- Terms, literals, clauses that are built in a region: what is known of each. -/
namespace Go.Proofs.Ythhgidliopohcaa
open Go.RowKit Go
set_option linter.unusedVariables false
set_option linter.unusedSimpArgs false
/-- The value is a row of terms. -/
def RowT (l : List T) (v : Value) (w : World) : Prop := ∃ (a : Option Addr) (c : Nat), v = .slice a l.length c ∧ l.length ≤ c ∧ c ≤ maxLen ∧ IsTs w l a 0
theorem RowT.below {l : List T} {v : Value} {w w' : World} (hb : Below w.heap.size w w') (h : RowT l v w) : RowT l v w' := by
  obtain ⟨a, c, e, h1, h2, h3⟩ := h
  exact ⟨a, c, e, h1, h2, h3.below hb⟩
theorem RowT.nil {w : World} : RowT [] (.slice none 0 0) w := ⟨none, 0, rfl, Nat.le_refl _, Nat.zero_le _, trivial⟩
/-- The value is a clause. -/
def RowC (l : List Li) (v : Value) (w : World) : Prop := ∃ (a : Option Addr) (c : Nat), v = .slice a l.length c ∧ IsCl w l a c
theorem RowC.below {l : List Li} {v : Value} {w w' : World} (hb : Below w.heap.size w w') (h : RowC l v w) : RowC l v w' := by
  obtain ⟨a, c, e, h1⟩ := h
  exact ⟨a, c, e, h1.below hb⟩
theorem isT_mk {w : World} {f : Int} {l : List T} {a : Option Addr} {n c : Nat} (hf : I64 f) (h : RowT l (.slice a n c) w) : IsT w (.mk f l) (.agg #[.int .i64 f, .slice a n c]) := by
  obtain ⟨a', c', e, h1, h2, h3⟩ := h
  simp only [Value.slice.injEq] at e
  obtain ⟨rfl, rfl, rfl⟩ := e
  exact ⟨hf, _, _, rfl, h1, h2, h3⟩
theorem isT_lf {w : World} {f : Int} (hf : -9223372036854775808 ≤ f ∧ f ≤ 9223372036854775807) : IsT w (.mk f []) (.agg #[.int .i64 f, .slice none 0 0]) := isT_mk hf RowT.nil
end Go.Proofs.Ythhgidliopohcaa

/- Substitutions compared; the example that every law shows. -/
namespace Go.Proofs.Ythhgidliopohcaa
open Go.RowKit Go
set_option linter.unusedVariables false
set_option linter.unusedSimpArgs false
instance : DecidableEq T := fun s t => decidable_of_iff _ (T.same_iff s t)
instance : DecidableEq Bd := fun x y => decidable_of_iff (x.var = y.var ∧ x.t = y.t) (by cases x; cases y; simp)
/-- So far they are the same. -/
def EqTo (a b : List Bd) (k : Nat) : Prop := ∀ i, i < k → dget a i = dget b i
theorem bd_eq {x y : Bd} (h1 : x.var = y.var) (h2 : T.same x.t y.t = true) : x = y := by
 obtain ⟨v, t⟩ := x; obtain ⟨u, s⟩ := y
 have := (T.same_iff t s).1 h2
 simp only at h1 this
 rw [h1, this]
theorem EqTo.step {a b : List Bd} {k : Nat} (h : EqTo a b k) (h1 : (dget a k).var = (dget b k).var) (h2 : T.same (dget a k).t (dget b k).t = true) : EqTo a b (k + 1) := fun i hi => by
 rcases Nat.lt_or_ge i k with q | q
 ·exact h i q
 ·obtain rfl : i = k := by omega
  exact bd_eq h1 h2
theorem can_wk {w : World} {v1 v2 : Value} (h1 : IsT w wkF v1) (h2 : IsT w wkH v2) : Calls Try.prog 11 #[v1, v2] w (Ret fun v' w' => v' = .bool true ∧ Below w.heap.size w w') := by
 refine (pcan_any wkF wkH w v1 v2 h1 h2).mono ?_
 rintro e w' ⟨v, rfl, ⟨b, rfl, hb⟩, h⟩
 exact ⟨_, rfl, by rw [wk_can hb], h⟩
theorem wk_facts {bs : List Bd} {e : Int} (h : PairsIs true [(wkF, wkH)] bs e) : e = 0 ∧ bs.length = 2 ∧ (dget bs 0).t.f = 2 ∧ (dget bs 1).t.f = 1 := by
 obtain ⟨rfl, rfl⟩ := wk_pairs h
 exact ⟨rfl, rfl, rfl, rfl⟩
set_option maxRecDepth 100000 in
theorem wakes_any (w : World) : Calls Try.prog 13 #[] w (Ret fun v' w' => v' = .bool true ∧ Below w.heap.size w w') := by
 skip
 refine Calls.walk (l := []) Try.func13 rfl (by kernel_rfl) ?_
 refine WC.sub (K' := []) trivial ?_
 refine WC.seq (WC.region (WL.asg rfl rfl rfl rfl rfl (WL.nil (WE.next (WC.seq (WC.region ?_))))))
 refine WL.val (.agg #[.int .i64 ((-2)), .slice none 0 0]) rfl rfl rfl (fun za zC zh zk => build_32_0 rfl (zh.ev rfl) zk) ?_
 refine WL.step (post := NewRow w 32 #[.int .i64 ((-2)), .slice none 0 0] 1) rfl rfl rfl (fun za zC zh zk => row_30_1 rfl (zh.ev rfl) (zk _ _ (newRow _ _ _ _))) ?_
 rintro _ w1 ⟨g2, rfl, hg3, hB4, hb5, hz6⟩
 have hl7 : w.heap.size ≤ g2 := by omega
 refine WL.val (.agg #[.int .i64 2, .slice ((some ⟨g2, 0, none⟩)) 1 1]) rfl rfl rfl (fun za zC zh zk => build_32_0_1 rfl (zh.ev rfl) (zh.ev rfl) zk) ?_
 refine WL.step (post := NewBlk w1 32 #[.int .i64 0, .slice none 0 0]) rfl rfl rfl (fun za zC zh zk => alloc_32 rfl (zk _ _ (newBlk _ _ _))) ?_
 rintro _ w8 ⟨g9, rfl, hg10, hB11, hb12, hz13⟩
 have hl14 : g2 < g9 := by have z1 := hB4.lt; omega
 have hl15 : w.heap.size ≤ g9 := by have z2 := (hb5).size; omega
 refine WL.step (post := fun _ w' => Upd g9 w8 w' ∧ Blk w' g9 32 #[.int .i64 2, .slice ((some ⟨g2, 0, none⟩)) 1 1]) rfl rfl rfl (fun za zC zh zk => st_32 rfl (zh.ev rfl) (zh.ev rfl) rfl rfl hB11 (by first | decide | simp) (fun v => zk v _ ⟨(Upd.at_ _ _ _ _).trans (Upd.at_ _ _ _ _), (hB11.set_ 0 _).set_ 1 _⟩)) ?_
 rintro v19 w16 ⟨hu17, hB18⟩
 have hb20 : Below w.heap.size w w8 := (bstep hb5 hb12)
 have hb21 := upd_below hb20 hu17 (by omega)
 have hB22 := hB4.below hb12
 have hB23 := upd_blk hB22 hu17 (by omega)
 refine WL.nil (WE.next (WC.seq (WC.region ?_)))
 refine WL.val (.agg #[.int .i64 ((-1)), .slice none 0 0]) rfl rfl rfl (fun za zC zh zk => build_32_0 rfl (zh.ev rfl) zk) ?_
 refine WL.val (.agg #[.int .i64 1, .slice none 0 0]) rfl rfl rfl (fun za zC zh zk => build_32_0 rfl (zh.ev rfl) zk) ?_
 refine WL.step (post := NewRow w16 32 #[.int .i64 ((-1)), .slice none 0 0, .int .i64 1, .slice none 0 0] 2) rfl rfl rfl (fun za zC zh zk => row_30_2 rfl (zh.ev rfl) (zh.ev rfl) (zk _ _ (newRow _ _ _ _))) ?_
 rintro _ w24 ⟨g25, rfl, hg26, hB27, hb28, hz29⟩
 have hl30 : g2 < g25 := by have z1 := hB23.lt; omega
 have hl31 : g9 < g25 := by have z1 := hB18.lt; omega
 have hl32 : w.heap.size ≤ g25 := by have z2 := (hb21).size; omega
 refine WL.val (.agg #[.int .i64 3, .slice ((some ⟨g25, 0, none⟩)) 2 2]) rfl rfl rfl (fun za zC zh zk => build_32_0_1 rfl (zh.ev rfl) (zh.ev rfl) zk) ?_
 refine WL.step (post := NewBlk w24 32 #[.int .i64 0, .slice none 0 0]) rfl rfl rfl (fun za zC zh zk => alloc_32 rfl (zk _ _ (newBlk _ _ _))) ?_
 rintro _ w33 ⟨g34, rfl, hg35, hB36, hb37, hz38⟩
 have hl39 : g2 < g34 := by have z1 := hB23.lt; have z2 := (hb28).size; omega
 have hl40 : g9 < g34 := by have z1 := hB18.lt; have z2 := (hb28).size; omega
 have hl41 : g25 < g34 := by have z1 := hB27.lt; omega
 have hb42 : Below w.heap.size w w24 := (bstep hb21 hb28)
 have hl43 : w.heap.size ≤ g34 := by have z2 := (hb42).size; omega
 refine WL.step (post := fun _ w' => Upd g34 w33 w' ∧ Blk w' g34 32 #[.int .i64 3, .slice ((some ⟨g25, 0, none⟩)) 2 2]) rfl rfl rfl (fun za zC zh zk => st_32 rfl (zh.ev rfl) (zh.ev rfl) rfl rfl hB36 (by first | decide | simp) (fun v => zk v _ ⟨(Upd.at_ _ _ _ _).trans (Upd.at_ _ _ _ _), (hB36.set_ 0 _).set_ 1 _⟩)) ?_
 rintro v47 w44 ⟨hu45, hB46⟩
 have hb48 : Below w.heap.size w w33 := (bstep hb42 hb37)
 have hb49 := upd_below hb48 hu45 (by omega)
 have hb51 : Below w16.heap.size w16 w33 := (bstep hb28 hb37)
 have hB50 := hB23.below hb51
 have hB52 := upd_blk hB50 hu45 (by omega)
 have hB53 := hB18.below hb51
 have hB54 := upd_blk hB53 hu45 (by omega)
 have hB55 := hB27.below hb37
 have hB56 := upd_blk hB55 hu45 (by omega)
 refine WL.nil (WE.next (WC.seq (WC.region ?_)))
 refine WL.val _ rfl rfl rfl (fun za zC zh zk => ld_32 rfl (zh.ev rfl) ((hB54.cell 0).trans rfl) ((hB54.cell 1).trans rfl) zk) ?_
 refine WL.val (.agg #[.int .i64 ((-2)), .slice none 0 0]) rfl rfl rfl (fun za zC zh zk => build_32_0 rfl (zh.ev rfl) zk) ?_
 refine WL.step (post := NewRow w44 32 #[.int .i64 2, .slice ((some ⟨g2, 0, none⟩)) 1 1, .int .i64 ((-2)), .slice none 0 0] 2) rfl rfl rfl (fun za zC zh zk => row_30_2 rfl (zh.ev rfl) (zh.ev rfl) (zk _ _ (newRow _ _ _ _))) ?_
 rintro _ w57 ⟨g58, rfl, hg59, hB60, hb61, hz62⟩
 have hl63 : g2 < g58 := by have z1 := hB52.lt; omega
 have hl64 : g9 < g58 := by have z1 := hB54.lt; omega
 have hl65 : g25 < g58 := by have z1 := hB56.lt; omega
 have hl66 : g34 < g58 := by have z1 := hB46.lt; omega
 have hl67 : w.heap.size ≤ g58 := by have z2 := (hb49).size; omega
 refine WL.val (.agg #[.int .i64 3, .slice ((some ⟨g58, 0, none⟩)) 2 2]) rfl rfl rfl (fun za zC zh zk => build_32_0_1 rfl (zh.ev rfl) (zh.ev rfl) zk) ?_
 refine WL.step (post := NewBlk w57 32 #[.int .i64 0, .slice none 0 0]) rfl rfl rfl (fun za zC zh zk => alloc_32 rfl (zk _ _ (newBlk _ _ _))) ?_
 rintro _ w68 ⟨g69, rfl, hg70, hB71, hb72, hz73⟩
 have hl74 : g2 < g69 := by have z1 := hB52.lt; have z2 := (hb61).size; omega
 have hl75 : g9 < g69 := by have z1 := hB54.lt; have z2 := (hb61).size; omega
 have hl76 : g25 < g69 := by have z1 := hB56.lt; have z2 := (hb61).size; omega
 have hl77 : g34 < g69 := by have z1 := hB46.lt; have z2 := (hb61).size; omega
 have hl78 : g58 < g69 := by have z1 := hB60.lt; omega
 have hb79 : Below w.heap.size w w57 := (bstep hb49 hb61)
 have hl80 : w.heap.size ≤ g69 := by have z2 := (hb79).size; omega
 refine WL.step (post := fun _ w' => Upd g69 w68 w' ∧ Blk w' g69 32 #[.int .i64 3, .slice ((some ⟨g58, 0, none⟩)) 2 2]) rfl rfl rfl (fun za zC zh zk => st_32 rfl (zh.ev rfl) (zh.ev rfl) rfl rfl hB71 (by first | decide | simp) (fun v => zk v _ ⟨(Upd.at_ _ _ _ _).trans (Upd.at_ _ _ _ _), (hB71.set_ 0 _).set_ 1 _⟩)) ?_
 rintro v84 w81 ⟨hu82, hB83⟩
 have hb85 : Below w.heap.size w w68 := (bstep hb79 hb72)
 have hb86 := upd_below hb85 hu82 (by omega)
 have hb88 : Below w44.heap.size w44 w68 := (bstep hb61 hb72)
 have hB87 := hB52.below hb88
 have hB89 := upd_blk hB87 hu82 (by omega)
 have hB90 := hB54.below hb88
 have hB91 := upd_blk hB90 hu82 (by omega)
 have hB92 := hB56.below hb88
 have hB93 := upd_blk hB92 hu82 (by omega)
 have hB94 := hB46.below hb88
 have hB95 := upd_blk hB94 hu82 (by omega)
 have hB96 := hB60.below hb72
 have hB97 := upd_blk hB96 hu82 (by omega)
 refine WL.nil (WE.next (WC.seq (WC.region ?_)))
 refine WL.val _ rfl rfl rfl (fun za zC zh zk => ld_32 rfl (zh.ev rfl) ((hB95.cell 0).trans rfl) ((hB95.cell 1).trans rfl) zk) ?_
 refine WL.val _ rfl rfl rfl (fun za zC zh zk => ld_32 rfl (zh.ev rfl) ((hB83.cell 0).trans rfl) ((hB83.cell 1).trans rfl) zk) ?_
 have hT98 : IsT w81 wkF (.agg #[.int .i64 3, .slice ((some ⟨g25, 0, none⟩)) 2 2]) := (isT_mk (by unfold I64; decide) ⟨_, _, rfl, Nat.le_refl _, by unfold maxLen; decide, ⟨⟨_, 0, _, _, rfl, (hB93.cell _).trans rfl, (hB93.cell _).trans rfl, (isT_lf (by decide))⟩, ⟨⟨_, 0, _, _, rfl, (hB93.cell _).trans rfl, (hB93.cell _).trans rfl, (isT_lf (by decide))⟩, trivial⟩⟩⟩)
 have hT99 : IsT w81 wkH (.agg #[.int .i64 3, .slice ((some ⟨g58, 0, none⟩)) 2 2]) := (isT_mk (by unfold I64; decide) ⟨_, _, rfl, Nat.le_refl _, by unfold maxLen; decide, ⟨⟨_, 0, _, _, rfl, (hB97.cell _).trans rfl, (hB97.cell _).trans rfl, (isT_mk (by unfold I64; decide) ⟨_, _, rfl, Nat.le_refl _, by unfold maxLen; decide, ⟨⟨_, 0, _, _, rfl, (hB89.cell _).trans rfl, (hB89.cell _).trans rfl, (isT_lf (by decide))⟩, trivial⟩⟩)⟩, ⟨⟨_, 0, _, _, rfl, (hB97.cell _).trans rfl, (hB97.cell _).trans rfl, (isT_lf (by decide))⟩, trivial⟩⟩⟩)
 refine WL.call rfl rfl rfl (fun za zh zC => wp_call (by kernel_rfl) rfl (hv2 (zh.ev rfl) (zh.ev rfl))) (pterms_any wkF wkH _ _ _ hT98 hT99) ?_
 rintro _ w101 ⟨⟨bsc1, rac1, rcc1, ec1, rfl, hPc1, hRc1, _⟩, hb100⟩
 refine WL.mv rfl rfl rfl rfl rfl ?_
 refine WL.val (.slice rac1 bsc1.length rcc1) rfl rfl rfl (fun za zC zh zk => ext2_0 rfl (zh.ev rfl) zk) ?_
 refine WL.val (.int .i64 ec1) rfl rfl rfl (fun za zC zh zk => ext2_1 rfl (zh.ev rfl) zk) ?_
 refine WL.asg rfl rfl rfl rfl rfl (WL.asg rfl rfl rfl rfl rfl ?_)
 refine WL.nil (WE.sub (K' := [(0, .bool false), (1, .pointer (some ⟨g9, 0, none⟩)), (2, .pointer (some ⟨g34, 0, none⟩)), (3, .pointer (some ⟨g69, 0, none⟩)), (4, .slice rac1 bsc1.length rcc1), (5, .int .i64 ec1)]) ⟨rfl, rfl, rfl, rfl, rfl, rfl, trivial⟩ ?_)
 refine WE.next (WC.seq ?_)
 obtain ⟨rfl, hbl, hb0, hb1⟩ := wk_facts hPc1
 refine WC.region ?_
 refine WL.val (.agg #[.int .i64 ((-1)), .slice none 0 0]) rfl rfl rfl (fun za zC zh zk => build_32_0 rfl (zh.ev rfl) zk) ?_
 refine WL.val (.agg #[.int .i64 ((-1)), .slice none 0 0]) rfl rfl rfl (fun za zC zh zk => build_32_0 rfl (zh.ev rfl) zk) ?_
 refine WL.step (post := NewRow w101 32 #[.int .i64 ((-1)), .slice none 0 0] 1) rfl rfl rfl (fun za zC zh zk => row_30_1 rfl (zh.ev rfl) (zk _ _ (newRow _ _ _ _))) ?_
 rintro _ w102 ⟨g103, rfl, hg104, hB105, hb106, hz107⟩
 have hl108 : g2 < g103 := by have z1 := hB89.lt; have z2 := (hb100).size; omega
 have hl109 : g9 < g103 := by have z1 := hB91.lt; have z2 := (hb100).size; omega
 have hl110 : g25 < g103 := by have z1 := hB93.lt; have z2 := (hb100).size; omega
 have hl111 : g34 < g103 := by have z1 := hB95.lt; have z2 := (hb100).size; omega
 have hl112 : g58 < g103 := by have z1 := hB97.lt; have z2 := (hb100).size; omega
 have hl113 : g69 < g103 := by have z1 := hB83.lt; have z2 := (hb100).size; omega
 have hb114 : Below w.heap.size w w101 := (bstep hb86 hb100)
 have hl115 : w.heap.size ≤ g103 := by have z2 := (hb114).size; omega
 refine WL.val (.agg #[.int .i64 2, .slice ((some ⟨g103, 0, none⟩)) 1 1]) rfl rfl rfl (fun za zC zh zk => build_32_0_1 rfl (zh.ev rfl) (zh.ev rfl) zk) ?_
 have hT116 : IsT w102 wkX (.agg #[.int .i64 ((-1)), .slice none 0 0]) := (isT_lf (by decide))
 have hT117 : IsT w102 wkG (.agg #[.int .i64 2, .slice ((some ⟨g103, 0, none⟩)) 1 1]) := (isT_mk (by unfold I64; decide) ⟨_, _, rfl, Nat.le_refl _, by unfold maxLen; decide, ⟨⟨_, 0, _, _, rfl, (hB105.cell _).trans rfl, (hB105.cell _).trans rfl, (isT_lf (by decide))⟩, trivial⟩⟩)
 refine WL.call rfl rfl rfl (fun za zh zC => wp_call (by kernel_rfl) rfl (hv2 (zh.ev rfl) (zh.ev rfl))) (pterms_any wkX wkG _ _ _ hT116 hT117) ?_
 rintro _ w119 ⟨⟨bsc2, rac2, rcc2, ec2, rfl, hPc2, hRc2, _⟩, hb118⟩
 refine WL.mv rfl rfl rfl rfl rfl ?_
 refine WL.val (.slice rac2 bsc2.length rcc2) rfl rfl rfl (fun za zC zh zk => ext2_0 rfl (zh.ev rfl) zk) ?_
 refine WL.val (.int .i64 ec2) rfl rfl rfl (fun za zC zh zk => ext2_1 rfl (zh.ev rfl) zk) ?_
 refine WL.asg rfl rfl rfl rfl rfl (WL.asg rfl rfl rfl rfl rfl (WL.nil (WE.next (WC.seq ?_))))
 obtain rfl := wk_none hPc2
 have hb122 : Below w81.heap.size w81 w119 := (bstep (bstep hb100 hb106) hb118)
 have hB121 := hB93.below hb122
 have hT120 : IsT w119 wkF (.agg #[.int .i64 3, .slice ((some ⟨g25, 0, none⟩)) 2 2]) := (isT_mk (by unfold I64; decide) ⟨_, _, rfl, Nat.le_refl _, by unfold maxLen; decide, ⟨⟨_, 0, _, _, rfl, (hB121.cell _).trans rfl, (hB121.cell _).trans rfl, (isT_lf (by decide))⟩, ⟨⟨_, 0, _, _, rfl, (hB121.cell _).trans rfl, (hB121.cell _).trans rfl, (isT_lf (by decide))⟩, trivial⟩⟩⟩)
 have hB124 := hB97.below hb122
 have hB125 := hB89.below hb122
 have hT123 : IsT w119 wkH (.agg #[.int .i64 3, .slice ((some ⟨g58, 0, none⟩)) 2 2]) := (isT_mk (by unfold I64; decide) ⟨_, _, rfl, Nat.le_refl _, by unfold maxLen; decide, ⟨⟨_, 0, _, _, rfl, (hB124.cell _).trans rfl, (hB124.cell _).trans rfl, (isT_mk (by unfold I64; decide) ⟨_, _, rfl, Nat.le_refl _, by unfold maxLen; decide, ⟨⟨_, 0, _, _, rfl, (hB125.cell _).trans rfl, (hB125.cell _).trans rfl, (isT_lf (by decide))⟩, trivial⟩⟩)⟩, ⟨⟨_, 0, _, _, rfl, (hB124.cell _).trans rfl, (hB124.cell _).trans rfl, (isT_lf (by decide))⟩, trivial⟩⟩⟩)
 obtain ⟨b126, o127, A128, C129, ha130, hc131⟩ := InRow.openB hRc1
 have hb132 : Below w101.heap.size w101 w119 := (bstep hb106 hb118)
 have hB133 := hB95.below hb122
 have hB134 := hB83.below hb122
 refine WC.opt [(true, .val (.int .i64 0)), (true, .val (.bool (((0 : Int) == (0 : Int))))), (true, .val (.bool (((0 : Int) == (0 : Int))))), ((true && ((0 : Int) == (0 : Int))), .val (.slice rac1 bsc1.length rcc1)), ((true && ((0 : Int) == (0 : Int))), .val (.int .i64 (((bsc1.length : Nat) : Int)))), ((true && ((0 : Int) == (0 : Int))), .val (.bool (((((bsc1.length : Nat) : Int) : Int) == (2 : Int))))), (true, .val (.bool ((((0 : Int) == (0 : Int)) && ((((bsc1.length : Nat) : Int) : Int) == (2 : Int)))))), (true, .val (.bool ((((0 : Int) == (0 : Int)) && ((((bsc1.length : Nat) : Int) : Int) == (2 : Int)))))), ((true && (((0 : Int) == (0 : Int)) && ((((bsc1.length : Nat) : Int) : Int) == (2 : Int)))), .val (.slice rac1 bsc1.length rcc1)), ((true && (((0 : Int) == (0 : Int)) && ((((bsc1.length : Nat) : Int) : Int) == (2 : Int)))), .val (.pointer (some ⟨b126, o127 + 0 * 3, none⟩))), ((true && (((0 : Int) == (0 : Int)) && ((((bsc1.length : Nat) : Int) : Int) == (2 : Int)))), .val (.pointer (some ⟨b126, o127 + 0 * 3 + 1, none⟩))), ((true && (((0 : Int) == (0 : Int)) && ((((bsc1.length : Nat) : Int) : Int) == (2 : Int)))), .val (.pointer (some ⟨b126, o127 + 0 * 3 + 1, none⟩))), ((true && (((0 : Int) == (0 : Int)) && ((((bsc1.length : Nat) : Int) : Int) == (2 : Int)))), .val (.int .i64 ((dget bsc1 0).t.f))), ((true && (((0 : Int) == (0 : Int)) && ((((bsc1.length : Nat) : Int) : Int) == (2 : Int)))), .val (.bool ((((dget bsc1 0).t.f : Int) == (2 : Int))))), (true, .val (.bool (((((0 : Int) == (0 : Int)) && ((((bsc1.length : Nat) : Int) : Int) == (2 : Int))) && (((dget bsc1 0).t.f : Int) == (2 : Int)))))), (true, .val (.bool (((((0 : Int) == (0 : Int)) && ((((bsc1.length : Nat) : Int) : Int) == (2 : Int))) && (((dget bsc1 0).t.f : Int) == (2 : Int)))))), ((true && ((((0 : Int) == (0 : Int)) && ((((bsc1.length : Nat) : Int) : Int) == (2 : Int))) && (((dget bsc1 0).t.f : Int) == (2 : Int)))), .val (.slice rac1 bsc1.length rcc1)), ((true && ((((0 : Int) == (0 : Int)) && ((((bsc1.length : Nat) : Int) : Int) == (2 : Int))) && (((dget bsc1 0).t.f : Int) == (2 : Int)))), .val (.pointer (some ⟨b126, o127 + 1 * 3, none⟩))), ((true && ((((0 : Int) == (0 : Int)) && ((((bsc1.length : Nat) : Int) : Int) == (2 : Int))) && (((dget bsc1 0).t.f : Int) == (2 : Int)))), .val (.pointer (some ⟨b126, o127 + 1 * 3 + 1, none⟩))), ((true && ((((0 : Int) == (0 : Int)) && ((((bsc1.length : Nat) : Int) : Int) == (2 : Int))) && (((dget bsc1 0).t.f : Int) == (2 : Int)))), .val (.pointer (some ⟨b126, o127 + 1 * 3 + 1, none⟩))), ((true && ((((0 : Int) == (0 : Int)) && ((((bsc1.length : Nat) : Int) : Int) == (2 : Int))) && (((dget bsc1 0).t.f : Int) == (2 : Int)))), .val (.int .i64 ((dget bsc1 1).t.f))), ((true && ((((0 : Int) == (0 : Int)) && ((((bsc1.length : Nat) : Int) : Int) == (2 : Int))) && (((dget bsc1 0).t.f : Int) == (2 : Int)))), .val (.bool ((((dget bsc1 1).t.f : Int) == (1 : Int))))), (true, .val (.bool ((((((0 : Int) == (0 : Int)) && ((((bsc1.length : Nat) : Int) : Int) == (2 : Int))) && (((dget bsc1 0).t.f : Int) == (2 : Int))) && (((dget bsc1 1).t.f : Int) == (1 : Int)))))), (true, .val (.bool ((((((0 : Int) == (0 : Int)) && ((((bsc1.length : Nat) : Int) : Int) == (2 : Int))) && (((dget bsc1 0).t.f : Int) == (2 : Int))) && (((dget bsc1 1).t.f : Int) == (1 : Int)))))), ((true && (((((0 : Int) == (0 : Int)) && ((((bsc1.length : Nat) : Int) : Int) == (2 : Int))) && (((dget bsc1 0).t.f : Int) == (2 : Int))) && (((dget bsc1 1).t.f : Int) == (1 : Int)))), .val (.int .i64 4)), ((true && (((((0 : Int) == (0 : Int)) && ((((bsc1.length : Nat) : Int) : Int) == (2 : Int))) && (((dget bsc1 0).t.f : Int) == (2 : Int))) && (((dget bsc1 1).t.f : Int) == (1 : Int)))), .val (.bool (((4 : Int) == (4 : Int))))), (true, .val (.bool (((((((0 : Int) == (0 : Int)) && ((((bsc1.length : Nat) : Int) : Int) == (2 : Int))) && (((dget bsc1 0).t.f : Int) == (2 : Int))) && (((dget bsc1 1).t.f : Int) == (1 : Int))) && ((4 : Int) == (4 : Int)))))), (true, .val (.bool (((((((0 : Int) == (0 : Int)) && ((((bsc1.length : Nat) : Int) : Int) == (2 : Int))) && (((dget bsc1 0).t.f : Int) == (2 : Int))) && (((dget bsc1 1).t.f : Int) == (1 : Int))) && ((4 : Int) == (4 : Int)))))), ((true && ((((((0 : Int) == (0 : Int)) && ((((bsc1.length : Nat) : Int) : Int) == (2 : Int))) && (((dget bsc1 0).t.f : Int) == (2 : Int))) && (((dget bsc1 1).t.f : Int) == (1 : Int))) && ((4 : Int) == (4 : Int)))), .val (.agg #[.int .i64 3, .slice ((some ⟨g25, 0, none⟩)) 2 2])), ((true && ((((((0 : Int) == (0 : Int)) && ((((bsc1.length : Nat) : Int) : Int) == (2 : Int))) && (((dget bsc1 0).t.f : Int) == (2 : Int))) && (((dget bsc1 1).t.f : Int) == (1 : Int))) && ((4 : Int) == (4 : Int)))), .val (.agg #[.int .i64 3, .slice ((some ⟨g58, 0, none⟩)) 2 2])), ((true && ((((((0 : Int) == (0 : Int)) && ((((bsc1.length : Nat) : Int) : Int) == (2 : Int))) && (((dget bsc1 0).t.f : Int) == (2 : Int))) && (((dget bsc1 1).t.f : Int) == (1 : Int))) && ((4 : Int) == (4 : Int)))), .val (.bool true)), (true, .val (.bool ((((((((0 : Int) == (0 : Int)) && ((((bsc1.length : Nat) : Int) : Int) == (2 : Int))) && (((dget bsc1 0).t.f : Int) == (2 : Int))) && (((dget bsc1 1).t.f : Int) == (1 : Int))) && ((4 : Int) == (4 : Int))) && true)))), (true, .val (.bool ((((((((0 : Int) == (0 : Int)) && ((((bsc1.length : Nat) : Int) : Int) == (2 : Int))) && (((dget bsc1 0).t.f : Int) == (2 : Int))) && (((dget bsc1 1).t.f : Int) == (1 : Int))) && ((4 : Int) == (4 : Int))) && true))))] [(1, .pointer (some ⟨g9, 0, none⟩)), (2, .pointer (some ⟨g34, 0, none⟩)), (3, .pointer (some ⟨g69, 0, none⟩)), (4, .slice rac1 bsc1.length rcc1), (5, .int .i64 0), (7, .int .i64 4)] ⟨rfl, rfl, rfl, rfl, rfl, rfl, trivial⟩ (by kernel_rfl) (by kernel_rfl) (by kernel_rfl) ?_ ?_
 ·refine ⟨⟨true, .none rfl, fun h w => optUndef h, fun zβ za zw zc => ?_⟩, ?_⟩
  ·exact wp_move rfl (zc.kn.ev rfl) ⟨_, rfl, Below.refl _ _, optDef zβ rfl⟩
  refine ⟨⟨true, .none rfl, fun h w => optUndef h, fun zβ za zw zc => ?_⟩, ?_⟩
  ·exact eql_25 rfl ((evt za 33).trans (optVal (zc.dep 0 33 (by kernel_rfl)) rfl rfl)) (zc.kn.ev rfl) ⟨_, rfl, Below.refl _ _, optDef zβ rfl⟩
  refine ⟨⟨true, .none rfl, fun h w => optUndef h, fun zβ za zw zc => ?_⟩, ?_⟩
  ·exact wp_move rfl ((evt za 34).trans (optVal (zc.dep 1 34 (by kernel_rfl)) rfl rfl)) ⟨_, rfl, Below.refl _ _, optDef zβ rfl⟩
  refine ⟨⟨_, .yes (c := ((0 : Int) == (0 : Int))) (d := true) rfl (fun v w h => h), fun h w => optUndef h, fun zβ za zw zc => ?_⟩, ?_⟩
  ·exact wp_move rfl (zc.kn.ev rfl) ⟨_, rfl, Below.refl _ _, optDef zβ rfl⟩
  refine ⟨⟨_, .yes (c := ((0 : Int) == (0 : Int))) (d := true) rfl (fun v w h => h), fun h w => optUndef h, fun zβ za zw zc => ?_⟩, ?_⟩
  ·exact len_24 rfl ((evt za 36).trans (optVal (zc.dep 3 36 (by kernel_rfl)) rfl zβ)) ⟨_, rfl, Below.refl _ _, optDef zβ rfl⟩
  refine ⟨⟨_, .yes (c := ((0 : Int) == (0 : Int))) (d := true) rfl (fun v w h => h), fun h w => optUndef h, fun zβ za zw zc => ?_⟩, ?_⟩
  ·exact eql_3 rfl ((evt za 37).trans (optVal (zc.dep 4 37 (by kernel_rfl)) rfl zβ)) (zc.kn.ev rfl) ⟨_, rfl, Below.refl _ _, optDef zβ rfl⟩
  refine ⟨⟨true, .none rfl, fun h w => optUndef h, fun zβ za zw zc => ?_⟩, ?_⟩
  ·exact wp_and rfl ((evt za 35).trans (optVal (zc.dep 2 35 (by kernel_rfl)) rfl rfl)) (fun hp => ((evt za 38).trans (optVal (zc.dep 5 38 (by kernel_rfl)) rfl (bMk zβ hp)))) ⟨_, rfl, Below.refl _ _, optDef zβ rfl⟩
  refine ⟨⟨true, .none rfl, fun h w => optUndef h, fun zβ za zw zc => ?_⟩, ?_⟩
  ·exact wp_move rfl ((evt za 39).trans (optVal (zc.dep 6 39 (by kernel_rfl)) rfl rfl)) ⟨_, rfl, Below.refl _ _, optDef zβ rfl⟩
  refine ⟨⟨_, .yes (c := (((0 : Int) == (0 : Int)) && ((((bsc1.length : Nat) : Int) : Int) == (2 : Int)))) (d := true) rfl (fun v w h => h), fun h w => optUndef h, fun zβ za zw zc => ?_⟩, ?_⟩
  ·exact wp_move rfl (zc.kn.ev rfl) ⟨_, rfl, Below.refl _ _, optDef zβ rfl⟩
  refine ⟨⟨_, .yes (c := (((0 : Int) == (0 : Int)) && ((((bsc1.length : Nat) : Int) : Int) == (2 : Int)))) (d := true) rfl (fun v w h => h), fun h w => optUndef h, fun zβ za zw zc => ?_⟩, ?_⟩
  ·exact ix_24 (k := 0) rfl ((evt za 41).trans (optVal (zc.dep 8 41 (by kernel_rfl)) rfl zβ)) (ha130 0 (by first | omega | (have zz := zβ; simp only [Bool.and_eq_true, Bool.or_eq_true, Bool.true_and, Bool.not_eq_true', Bool.or_eq_false_iff, Bool.and_eq_false_iff, beq_eq_false_iff_ne, ne_eq, beq_iff_eq, decide_eq_true_eq, decide_eq_false_iff_not, bne_iff_ne, bne_eq_false_iff_eq] at zz; omega))) (zc.kn.ev rfl) (by first | omega | (have zz := zβ; simp only [Bool.and_eq_true, Bool.or_eq_true, Bool.true_and, Bool.not_eq_true', Bool.or_eq_false_iff, Bool.and_eq_false_iff, beq_eq_false_iff_ne, ne_eq, beq_iff_eq, decide_eq_true_eq, decide_eq_false_iff_not, bne_iff_ne, bne_eq_false_iff_eq] at zz; omega)) ⟨_, rfl, Below.refl _ _, optDef zβ rfl⟩
  refine ⟨⟨_, .yes (c := (((0 : Int) == (0 : Int)) && ((((bsc1.length : Nat) : Int) : Int) == (2 : Int)))) (d := true) rfl (fun v w h => h), fun h w => optUndef h, fun zβ za zw zc => ?_⟩, ?_⟩
  ·exact fld_41_1 rfl ((evt za 42).trans (optVal (zc.dep 9 42 (by kernel_rfl)) rfl zβ)) ⟨_, rfl, Below.refl _ _, optDef zβ rfl⟩
  refine ⟨⟨_, .yes (c := (((0 : Int) == (0 : Int)) && ((((bsc1.length : Nat) : Int) : Int) == (2 : Int)))) (d := true) rfl (fun v w h => h), fun h w => optUndef h, fun zβ za zw zc => ?_⟩, ?_⟩
  ·exact fld_32_0 rfl ((evt za 43).trans (optVal (zc.dep 10 43 (by kernel_rfl)) rfl zβ)) ⟨_, rfl, Below.refl _ _, optDef zβ rfl⟩
  refine ⟨⟨_, .yes (c := (((0 : Int) == (0 : Int)) && ((((bsc1.length : Nat) : Int) : Int) == (2 : Int)))) (d := true) rfl (fun v w h => h), fun h w => optUndef h, fun zβ za zw zc => ?_⟩, ?_⟩
  ·exact ld_3 rfl ((evt za 44).trans (optVal (zc.dep 11 44 (by kernel_rfl)) rfl zβ)) (bkeeps (bstep hb132 zc.below) _ _ (hc131 0 (by first | omega | (have zz := zβ; simp only [Bool.and_eq_true, Bool.or_eq_true, Bool.true_and, Bool.not_eq_true', Bool.or_eq_false_iff, Bool.and_eq_false_iff, beq_eq_false_iff_ne, ne_eq, beq_iff_eq, decide_eq_true_eq, decide_eq_false_iff_not, bne_iff_ne, bne_eq_false_iff_eq] at zz; omega))).2.1) ⟨_, rfl, Below.refl _ _, optDef zβ rfl⟩
  refine ⟨⟨_, .yes (c := (((0 : Int) == (0 : Int)) && ((((bsc1.length : Nat) : Int) : Int) == (2 : Int)))) (d := true) rfl (fun v w h => h), fun h w => optUndef h, fun zβ za zw zc => ?_⟩, ?_⟩
  ·exact eql_3 rfl ((evt za 45).trans (optVal (zc.dep 12 45 (by kernel_rfl)) rfl zβ)) (zc.kn.ev rfl) ⟨_, rfl, Below.refl _ _, optDef zβ rfl⟩
  refine ⟨⟨true, .none rfl, fun h w => optUndef h, fun zβ za zw zc => ?_⟩, ?_⟩
  ·exact wp_and rfl ((evt za 40).trans (optVal (zc.dep 7 40 (by kernel_rfl)) rfl rfl)) (fun hp => ((evt za 46).trans (optVal (zc.dep 13 46 (by kernel_rfl)) rfl (bMk zβ hp)))) ⟨_, rfl, Below.refl _ _, optDef zβ rfl⟩
  refine ⟨⟨true, .none rfl, fun h w => optUndef h, fun zβ za zw zc => ?_⟩, ?_⟩
  ·exact wp_move rfl ((evt za 47).trans (optVal (zc.dep 14 47 (by kernel_rfl)) rfl rfl)) ⟨_, rfl, Below.refl _ _, optDef zβ rfl⟩
  refine ⟨⟨_, .yes (c := ((((0 : Int) == (0 : Int)) && ((((bsc1.length : Nat) : Int) : Int) == (2 : Int))) && (((dget bsc1 0).t.f : Int) == (2 : Int)))) (d := true) rfl (fun v w h => h), fun h w => optUndef h, fun zβ za zw zc => ?_⟩, ?_⟩
  ·exact wp_move rfl (zc.kn.ev rfl) ⟨_, rfl, Below.refl _ _, optDef zβ rfl⟩
  refine ⟨⟨_, .yes (c := ((((0 : Int) == (0 : Int)) && ((((bsc1.length : Nat) : Int) : Int) == (2 : Int))) && (((dget bsc1 0).t.f : Int) == (2 : Int)))) (d := true) rfl (fun v w h => h), fun h w => optUndef h, fun zβ za zw zc => ?_⟩, ?_⟩
  ·exact ix_24 (k := 1) rfl ((evt za 49).trans (optVal (zc.dep 16 49 (by kernel_rfl)) rfl zβ)) (ha130 1 (by first | omega | (have zz := zβ; simp only [Bool.and_eq_true, Bool.or_eq_true, Bool.true_and, Bool.not_eq_true', Bool.or_eq_false_iff, Bool.and_eq_false_iff, beq_eq_false_iff_ne, ne_eq, beq_iff_eq, decide_eq_true_eq, decide_eq_false_iff_not, bne_iff_ne, bne_eq_false_iff_eq] at zz; omega))) (zc.kn.ev rfl) (by first | omega | (have zz := zβ; simp only [Bool.and_eq_true, Bool.or_eq_true, Bool.true_and, Bool.not_eq_true', Bool.or_eq_false_iff, Bool.and_eq_false_iff, beq_eq_false_iff_ne, ne_eq, beq_iff_eq, decide_eq_true_eq, decide_eq_false_iff_not, bne_iff_ne, bne_eq_false_iff_eq] at zz; omega)) ⟨_, rfl, Below.refl _ _, optDef zβ rfl⟩
  refine ⟨⟨_, .yes (c := ((((0 : Int) == (0 : Int)) && ((((bsc1.length : Nat) : Int) : Int) == (2 : Int))) && (((dget bsc1 0).t.f : Int) == (2 : Int)))) (d := true) rfl (fun v w h => h), fun h w => optUndef h, fun zβ za zw zc => ?_⟩, ?_⟩
  ·exact fld_41_1 rfl ((evt za 50).trans (optVal (zc.dep 17 50 (by kernel_rfl)) rfl zβ)) ⟨_, rfl, Below.refl _ _, optDef zβ rfl⟩
  refine ⟨⟨_, .yes (c := ((((0 : Int) == (0 : Int)) && ((((bsc1.length : Nat) : Int) : Int) == (2 : Int))) && (((dget bsc1 0).t.f : Int) == (2 : Int)))) (d := true) rfl (fun v w h => h), fun h w => optUndef h, fun zβ za zw zc => ?_⟩, ?_⟩
  ·exact fld_32_0 rfl ((evt za 51).trans (optVal (zc.dep 18 51 (by kernel_rfl)) rfl zβ)) ⟨_, rfl, Below.refl _ _, optDef zβ rfl⟩
  refine ⟨⟨_, .yes (c := ((((0 : Int) == (0 : Int)) && ((((bsc1.length : Nat) : Int) : Int) == (2 : Int))) && (((dget bsc1 0).t.f : Int) == (2 : Int)))) (d := true) rfl (fun v w h => h), fun h w => optUndef h, fun zβ za zw zc => ?_⟩, ?_⟩
  ·exact ld_3 rfl ((evt za 52).trans (optVal (zc.dep 19 52 (by kernel_rfl)) rfl zβ)) (bkeeps (bstep hb132 zc.below) _ _ (hc131 1 (by first | omega | (have zz := zβ; simp only [Bool.and_eq_true, Bool.or_eq_true, Bool.true_and, Bool.not_eq_true', Bool.or_eq_false_iff, Bool.and_eq_false_iff, beq_eq_false_iff_ne, ne_eq, beq_iff_eq, decide_eq_true_eq, decide_eq_false_iff_not, bne_iff_ne, bne_eq_false_iff_eq] at zz; omega))).2.1) ⟨_, rfl, Below.refl _ _, optDef zβ rfl⟩
  refine ⟨⟨_, .yes (c := ((((0 : Int) == (0 : Int)) && ((((bsc1.length : Nat) : Int) : Int) == (2 : Int))) && (((dget bsc1 0).t.f : Int) == (2 : Int)))) (d := true) rfl (fun v w h => h), fun h w => optUndef h, fun zβ za zw zc => ?_⟩, ?_⟩
  ·exact eql_3 rfl ((evt za 53).trans (optVal (zc.dep 20 53 (by kernel_rfl)) rfl zβ)) (zc.kn.ev rfl) ⟨_, rfl, Below.refl _ _, optDef zβ rfl⟩
  refine ⟨⟨true, .none rfl, fun h w => optUndef h, fun zβ za zw zc => ?_⟩, ?_⟩
  ·exact wp_and rfl ((evt za 48).trans (optVal (zc.dep 15 48 (by kernel_rfl)) rfl rfl)) (fun hp => ((evt za 54).trans (optVal (zc.dep 21 54 (by kernel_rfl)) rfl (bMk zβ hp)))) ⟨_, rfl, Below.refl _ _, optDef zβ rfl⟩
  refine ⟨⟨true, .none rfl, fun h w => optUndef h, fun zβ za zw zc => ?_⟩, ?_⟩
  ·exact wp_move rfl ((evt za 55).trans (optVal (zc.dep 22 55 (by kernel_rfl)) rfl rfl)) ⟨_, rfl, Below.refl _ _, optDef zβ rfl⟩
  refine ⟨⟨_, .yes (c := (((((0 : Int) == (0 : Int)) && ((((bsc1.length : Nat) : Int) : Int) == (2 : Int))) && (((dget bsc1 0).t.f : Int) == (2 : Int))) && (((dget bsc1 1).t.f : Int) == (1 : Int)))) (d := true) rfl (fun v w h => h), fun h w => optUndef h, fun zβ za zw zc => ?_⟩, ?_⟩
  ·exact wp_move rfl (zc.kn.ev rfl) ⟨_, rfl, Below.refl _ _, optDef zβ rfl⟩
  refine ⟨⟨_, .yes (c := (((((0 : Int) == (0 : Int)) && ((((bsc1.length : Nat) : Int) : Int) == (2 : Int))) && (((dget bsc1 0).t.f : Int) == (2 : Int))) && (((dget bsc1 1).t.f : Int) == (1 : Int)))) (d := true) rfl (fun v w h => h), fun h w => optUndef h, fun zβ za zw zc => ?_⟩, ?_⟩
  ·exact eql_25 rfl ((evt za 57).trans (optVal (zc.dep 24 57 (by kernel_rfl)) rfl zβ)) (zc.kn.ev rfl) ⟨_, rfl, Below.refl _ _, optDef zβ rfl⟩
  refine ⟨⟨true, .none rfl, fun h w => optUndef h, fun zβ za zw zc => ?_⟩, ?_⟩
  ·exact wp_and rfl ((evt za 56).trans (optVal (zc.dep 23 56 (by kernel_rfl)) rfl rfl)) (fun hp => ((evt za 58).trans (optVal (zc.dep 25 58 (by kernel_rfl)) rfl (bMk zβ hp)))) ⟨_, rfl, Below.refl _ _, optDef zβ rfl⟩
  refine ⟨⟨true, .none rfl, fun h w => optUndef h, fun zβ za zw zc => ?_⟩, ?_⟩
  ·exact wp_move rfl ((evt za 59).trans (optVal (zc.dep 26 59 (by kernel_rfl)) rfl rfl)) ⟨_, rfl, Below.refl _ _, optDef zβ rfl⟩
  refine ⟨⟨_, .yes (c := ((((((0 : Int) == (0 : Int)) && ((((bsc1.length : Nat) : Int) : Int) == (2 : Int))) && (((dget bsc1 0).t.f : Int) == (2 : Int))) && (((dget bsc1 1).t.f : Int) == (1 : Int))) && ((4 : Int) == (4 : Int)))) (d := true) rfl (fun v w h => h), fun h w => optUndef h, fun zβ za zw zc => ?_⟩, ?_⟩
  ·exact ld_32 rfl (zc.kn.ev rfl) (bkeeps zc.below _ _ ((hB133.cell 0).trans rfl)) (bkeeps zc.below _ _ ((hB133.cell 1).trans rfl)) ⟨_, rfl, Below.refl _ _, optDef zβ rfl⟩
  refine ⟨⟨_, .yes (c := ((((((0 : Int) == (0 : Int)) && ((((bsc1.length : Nat) : Int) : Int) == (2 : Int))) && (((dget bsc1 0).t.f : Int) == (2 : Int))) && (((dget bsc1 1).t.f : Int) == (1 : Int))) && ((4 : Int) == (4 : Int)))) (d := true) rfl (fun v w h => h), fun h w => optUndef h, fun zβ za zw zc => ?_⟩, ?_⟩
  ·exact ld_32 rfl (zc.kn.ev rfl) (bkeeps zc.below _ _ ((hB134.cell 0).trans rfl)) (bkeeps zc.below _ _ ((hB134.cell 1).trans rfl)) ⟨_, rfl, Below.refl _ _, optDef zβ rfl⟩
  refine ⟨⟨_, .yes (c := ((((((0 : Int) == (0 : Int)) && ((((bsc1.length : Nat) : Int) : Int) == (2 : Int))) && (((dget bsc1 0).t.f : Int) == (2 : Int))) && (((dget bsc1 1).t.f : Int) == (1 : Int))) && ((4 : Int) == (4 : Int)))) (d := true) rfl (fun v w h => h), fun h w => optUndef h, fun zβ za zw zc => ?_⟩, ?_⟩
  ·exact wp_call (by kernel_rfl) rfl (hv2 ((evt za 61).trans (optVal (zc.dep 28 61 (by kernel_rfl)) rfl zβ)) ((evt za 62).trans (optVal (zc.dep 29 62 (by kernel_rfl)) rfl zβ))) (can_wk (hT120.below zc.below) (hT123.below zc.below)) (fun v w' h => ⟨v, rfl, h.2, optDef zβ h.1⟩)
  refine ⟨⟨true, .none rfl, fun h w => optUndef h, fun zβ za zw zc => ?_⟩, ?_⟩
  ·exact wp_and rfl ((evt za 60).trans (optVal (zc.dep 27 60 (by kernel_rfl)) rfl rfl)) (fun hp => ((evt za 63).trans (optVal (zc.dep 30 63 (by kernel_rfl)) rfl (bMk zβ hp)))) ⟨_, rfl, Below.refl _ _, optDef zβ rfl⟩
  refine ⟨⟨true, .none rfl, fun h w => optUndef h, fun zβ za zw zc => ?_⟩, ?_⟩
  ·exact wp_assign rfl ((evt za 64).trans (optVal (zc.dep 31 64 (by kernel_rfl)) rfl rfl)) ⟨_, rfl, Below.refl _ _, optDef zβ rfl⟩
  exact trivial
 ·intro za w135 zh hb136 zu
  have zh := zh.cons (d := 0) (v := .bool ((((((((0 : Int) == (0 : Int)) && ((((bsc1.length : Nat) : Int) : Int) == (2 : Int))) && (((dget bsc1 0).t.f : Int) == (2 : Int))) && (((dget bsc1 1).t.f : Int) == (1 : Int))) && ((4 : Int) == (4 : Int))) && true))) (optVal (zu 32 0 (by kernel_rfl)) rfl rfl)
  clear zu
  refine WE.go zh ?_
  refine WE.next (WC.ret (WE.ret1 rfl rfl ?_))
  have hb137 : Below w.heap.size w w135 := (bstep (bstep hb86 hb122) hb136)
  exact ⟨_, rfl, by simp [hbl, hb0, hb1], hb137⟩
end Go.Proofs.Ythhgidliopohcaa

/- Unifiers, plain: what joining comes to is the most general one, and which one it is does not hang on the order. -/
namespace Go.Proofs.Ythhgidliopohcaa
set_option linter.unusedVariables false
set_option linter.unusedSimpArgs false
/-! ### Terms whose variables stand alone; what a function makes of them -/
def tv (v : Nat) : T := .mk (-1 - (v : Int)) []
mutual
def T.prp : T → Prop
  | .mk f l => if f < 0 then l = [] else T.prpL l
def T.prpL : List T → Prop
  | [] => True
  | t :: r => t.prp ∧ T.prpL r
end
theorem prpL_mem : ∀ {l : List T}, T.prpL l ↔ ∀ t ∈ l, t.prp
  | [] => by simp [T.prpL]
  | t :: r => by rw [T.prpL, prpL_mem (l := r)]; simp
mutual
def T.apv (θ : Nat → T) : T → T
  | .mk f l => if f < 0 then θ (vnum f) else .mk f (T.apvL θ l)
def T.apvL (θ : Nat → T) : List T → List T
  | [] => []
  | t :: r => t.apv θ :: T.apvL θ r
end
theorem apvL_map (θ : Nat → T) : ∀ l : List T, T.apvL θ l = l.map (T.apv θ)
  | [] => rfl
  | t :: r => by rw [T.apvL, apvL_map θ r]; rfl
theorem vnum_tv (v : Nat) : vnum (-1 - (v : Int)) = v := by unfold vnum; omega
theorem tv_vnum {f : Int} (h : f < 0) : tv (vnum f) = .mk f [] := by unfold tv vnum; congr 1; omega
theorem apv_tv (θ : Nat → T) (v : Nat) : (tv v).apv θ = θ v := by unfold tv; rw [T.apv, if_pos (by omega), vnum_tv]
theorem apv_var {θ : Nat → T} {f : Int} {l : List T} (h : f < 0) : (T.mk f l).apv θ = θ (vnum f) := by rw [T.apv, if_pos h]
theorem apv_sym {θ : Nat → T} {f : Int} {l : List T} (h : ¬ f < 0) : (T.mk f l).apv θ = .mk f (l.map (T.apv θ)) := by rw [T.apv, if_neg h, apvL_map]
mutual
theorem low_prp {m : Int} : ∀ {t : T}, t.low m = true → t.prp
  | .mk f l, h => by
    rw [T.low] at h; rw [T.prp]
    by_cases hf : f < 0
    · rw [if_pos hf] at h ⊢
      rw [Bool.and_eq_true, decide_eq_true_eq, decide_eq_true_eq] at h
      exact List.eq_nil_of_length_eq_zero h.2
    · rw [if_neg hf] at h ⊢
      exact lowL_prp h
theorem lowL_prp {m : Int} : ∀ {l : List T}, T.lowL m l = true → T.prpL l
  | [], _ => trivial
  | t :: r, h => by
    rw [T.lowL, Bool.and_eq_true] at h
    exact ⟨low_prp h.1, lowL_prp h.2⟩
end
mutual
theorem apv_apv (σ θ : Nat → T) : ∀ t : T, (t.apv σ).apv θ = t.apv (fun v => (σ v).apv θ)
  | .mk f l => by
    by_cases hf : f < 0
    · rw [apv_var hf, apv_var hf]
    · rw [apv_sym hf, apv_sym hf, apv_sym hf, ← apvL_map, ← apvL_map, ← apvL_map, apvL_apvL σ θ l]
theorem apvL_apvL (σ θ : Nat → T) : ∀ l : List T, T.apvL θ (T.apvL σ l) = T.apvL (fun v => (σ v).apv θ) l
  | [] => rfl
  | t :: r => by rw [T.apvL, T.apvL, T.apvL, apv_apv σ θ t, apvL_apvL σ θ r]
end
-- what stands where in a net
mutual
def T.rep (N : List Pt) (V : Nat → Nat) : T → Nat → Prop
  | .mk f l, i => i < N.length ∧ (pget N i).fn = f ∧ if f < 0 then l = [] ∧ V (vnum f) = i + 1 else T.repL N V l (pget N i).args
def T.repL (N : List Pt) (V : Nat → Nat) : List T → List Nat → Prop
  | [], [] => True
  | t :: r, a :: q => t.rep N V a ∧ T.repL N V r q
  | [], _ :: _ => False
  | _ :: _, [] => False
end
mutual
theorem rep_ext {N M : List Pt} {V V' : Nat → Nat} (hV : ∀ v, V v ≠ 0 → V' v = V v) : ∀ {t : T} {i : Nat}, t.rep N V i → t.rep (N ++ M) V' i
  | .mk f l, i, h => by
    rw [T.rep] at h ⊢
    obtain ⟨h1, h2, h3⟩ := h
    refine ⟨by rw [List.length_append]; omega, by rw [pget_app h1]; exact h2, ?_⟩
    by_cases hf : f < 0
    · rw [if_pos hf] at h3 ⊢
      exact ⟨h3.1, by rw [hV _ (by omega)]; exact h3.2⟩
    · rw [if_neg hf] at h3 ⊢
      rw [pget_app h1]; exact repL_ext hV h3
theorem repL_ext {N M : List Pt} {V V' : Nat → Nat} (hV : ∀ v, V v ≠ 0 → V' v = V v) : ∀ {l : List T} {q : List Nat}, T.repL N V l q → T.repL (N ++ M) V' l q
  | [], [], _ => trivial
  | t :: r, a :: q, h => by rw [T.repL] at h ⊢; exact ⟨rep_ext hV h.1, repL_ext hV h.2⟩
  | [], _ :: _, h => by rw [T.repL] at h; exact h.elim
  | _ :: _, [], h => by rw [T.repL] at h; exact h.elim
end
/-- A variable has one part. -/
def VarOne (st : NS) : Prop := ∀ i, i < st.N.length → (pget st.N i).fn < 0 → st.V (vnum (pget st.N i).fn) = i + 1
theorem PutOk.rep {st st' : NS} {m : Nat} (h : PutOk st st' m) {t : T} {i : Nat} (hr : t.rep st.N st.V i) : t.rep st'.N st'.V i := by
  obtain ⟨M, e⟩ := h.ext
  rw [e]; exact rep_ext h.keep hr
theorem PutOk.repL {st st' : NS} {m : Nat} (h : PutOk st st' m) {l : List T} {q : List Nat} (hr : T.repL st.N st.V l q) : T.repL st'.N st'.V l q := by
  obtain ⟨M, e⟩ := h.ext
  rw [e]; exact repL_ext h.keep hr
mutual
theorem put_rep : ∀ (t : T) (st : NS), NetOk st → VarOne st → t.prp → VarOne (t.put st).1 ∧ t.rep (t.put st).1.N (t.put st).1.V (t.put st).2
  | .mk f l, st, hs, ho, hp => by
    rw [T.prp] at hp
    by_cases hf : f < 0
    · rw [if_pos hf] at hp
      subst hp
      obtain ⟨k1, k2, k3, k4⟩ := var_ok hs hf
      have e : (T.mk f []).put st = st.var f := by rw [T.put, if_pos hf]
      rw [e]
      refine ⟨?_, ?_⟩
      · unfold NS.var
        by_cases c : st.V (vnum f) ≠ 0
        · rw [if_pos c]; exact ho
        · rw [if_neg c]
          intro i hi hn
          show NS.setV st.V (vnum f) (st.N.length + 1) (vnum (pget (st.N ++ [(⟨f, []⟩ : Pt)]) i).fn) = i + 1
          have hi2 : i < (st.N ++ [(⟨f, []⟩ : Pt)]).length := hi
          rw [List.length_append] at hi2
          have hi3 : i < st.N.length + 1 := hi2
          by_cases hl : i < st.N.length
          · rw [pget_app hl]
            have hn2 : (pget st.N i).fn < 0 := by have z : (pget (st.N ++ [(⟨f, []⟩ : Pt)]) i).fn < 0 := hn; rwa [pget_app hl] at z
            have z := ho i hl hn2
            unfold NS.setV
            rw [if_neg (fun q => by rw [q] at z; omega)]
            exact z
          · obtain rfl : i = st.N.length := by omega
            rw [pget_new]
            unfold NS.setV; rw [if_pos rfl]
      · rw [T.rep, if_pos hf]
        exact ⟨k2, k3, rfl, k4⟩
    · rw [if_neg hf] at hp
      obtain ⟨a, b⟩ := putL_rep l st hs ho hp
      obtain ⟨c, d, e⟩ := putL_ok l st hs
      have e2 : (T.mk f l).put st = (⟨(T.putL l st).1.N ++ [⟨f, (T.putL l st).2⟩], (T.putL l st).1.V⟩, (T.putL l st).1.N.length) := by rw [T.put, if_neg hf]
      rw [e2]
      refine ⟨fun i hi hn => ?_, ?_⟩
      · have hi2 : i < ((T.putL l st).1.N ++ [(⟨f, (T.putL l st).2⟩ : Pt)]).length := hi
        rw [List.length_append] at hi2
        have hi3 : i < (T.putL l st).1.N.length + 1 := hi2
        have hn2 : (pget ((T.putL l st).1.N ++ [(⟨f, (T.putL l st).2⟩ : Pt)]) i).fn < 0 := hn
        show (T.putL l st).1.V (vnum (pget ((T.putL l st).1.N ++ [(⟨f, (T.putL l st).2⟩ : Pt)]) i).fn) = i + 1
        by_cases hl : i < (T.putL l st).1.N.length
        · rw [pget_app hl] at hn2 ⊢; exact a i hl hn2
        · obtain rfl : i = (T.putL l st).1.N.length := by omega
          rw [pget_new] at hn2; exact absurd hn2 hf
      · rw [T.rep, if_neg hf]
        refine ⟨by simp, by rw [pget_new], ?_⟩
        rw [pget_new]
        exact repL_ext (fun _ _ => rfl) b
theorem putL_rep : ∀ (l : List T) (st : NS), NetOk st → VarOne st → T.prpL l → VarOne (T.putL l st).1 ∧ T.repL (T.putL l st).1.N (T.putL l st).1.V l (T.putL l st).2
  | [], st, hs, ho, _ => by rw [T.putL]; exact ⟨ho, trivial⟩
  | t :: r, st, hs, ho, hp => by
    obtain ⟨a, b⟩ := put_rep t st hs ho hp.1
    obtain ⟨p1, _⟩ := put_ok t st hs
    obtain ⟨c, d⟩ := putL_rep r _ p1.ok a hp.2
    obtain ⟨q1, _⟩ := putL_ok r _ p1.ok
    rw [T.putL]
    exact ⟨c, by rw [T.repL]; exact ⟨q1.rep b, d⟩⟩
end
/-! ### Parts, unfolded -/
theorem map_mem {β : Type} {f g : Nat → β} : ∀ {l : List Nat}, (∀ a ∈ l, f a = g a) → l.map f = l.map g
  | [], _ => rfl
  | x :: r, h => by rw [List.map_cons, List.map_cons, h x (by simp), map_mem (fun a q => h a (List.mem_cons_of_mem _ q))]
/-- Parts below others, by a measure. -/
structure Mu (N : List Pt) (κ μ : Nat → Nat) : Prop where
  ok : KOk N κ
  nok : NOk N
  lt : ∀ i, i < N.length → ∀ a ∈ (pget N (κ i)).args, μ (κ a) < μ (κ i)
theorem Mu.arg {N : List Pt} {κ μ : Nat → Nat} (h : Mu N κ μ) {i a : Nat} (hi : i < N.length) (ha : a ∈ (pget N (κ i)).args) : a < N.length := by
  have l := h.ok.lt i hi
  have := (h.nok _ l).1 _ ha
  omega
def unf {α : Type} (N : List Pt) (κ : Nat → Nat) (F : Pt → List α → α) (z : α) : Nat → Nat → α
  | 0, _ => z
  | n + 1, i => F (pget N (κ i)) ((pget N (κ i)).args.map (unf N κ F z n))
section
variable {α : Type} {N : List Pt} {κ μ : Nat → Nat} {F : Pt → List α → α} {z : α}
theorem unf_rep (hk : KOk N κ) (n i : Nat) : unf N κ F z n (κ i) = unf N κ F z n i := by
  cases n with
  | zero => rfl
  | succ n => rw [unf, unf, hk.idem]
theorem unf_same (n : Nat) {i j : Nat} (h : κ i = κ j) : unf N κ F z n i = unf N κ F z n j := by
  cases n with
  | zero => rfl
  | succ n => rw [unf, unf, h]
theorem unf_stable (h : Mu N κ μ) : ∀ (n m i : Nat), i < N.length → μ (κ i) < n → μ (κ i) < m → unf N κ F z n i = unf N κ F z m i
  | 0, _, _, _, h1, _ => absurd h1 (Nat.not_lt_zero _)
  | _ + 1, 0, _, _, _, h2 => absurd h2 (Nat.not_lt_zero _)
  | n + 1, m + 1, i, hi, h1, h2 => by
    rw [unf, unf]
    congr 1
    exact map_mem (fun a ha => by have := h.lt i hi a ha; exact unf_stable h n m a (h.arg hi ha) (by omega) (by omega))
def unU (N : List Pt) (κ μ : Nat → Nat) (F : Pt → List α → α) (z : α) (i : Nat) : α := unf N κ F z (μ (κ i) + 1) i
theorem unU_eq (h : Mu N κ μ) {i : Nat} (hi : i < N.length) : unU N κ μ F z i = F (pget N (κ i)) ((pget N (κ i)).args.map (unU N κ μ F z)) := by
  unfold unU
  rw [unf]
  congr 1
  exact map_mem (fun a ha => by have := h.lt i hi a ha; exact unf_stable h _ _ a (h.arg hi ha) this (Nat.lt_succ_self _))
theorem unU_same {i j : Nat} (h : κ i = κ j) : unU N κ μ F z i = unU N κ μ F z j := by unfold unU; rw [h]; exact unf_same _ h
theorem unU_at (h : Mu N κ μ) {n i : Nat} (hi : i < N.length) (hn : μ (κ i) < n) : unf N κ F z n i = unU N κ μ F z i := unf_stable h _ _ i hi hn (Nat.lt_succ_self _)
end
def mkT (p : Pt) (l : List T) : T := .mk p.fn l
theorem tmF_unf (N : List Pt) (κ : Nat → Nat) : ∀ (n i : Nat), tmF N κ n i = unf N κ mkT (.mk 0 []) n i
  | 0, _ => rfl
  | n + 1, i => by
    rw [tmF, unf, mkT]
    congr 1
    exact map_mem (fun a _ => tmF_unf N κ n a)
def tmU (N : List Pt) (κ μ : Nat → Nat) : Nat → T := unU N κ μ mkT (.mk 0 [])
section
variable {N : List Pt} {κ μ : Nat → Nat}
theorem tmU_eq (h : Mu N κ μ) {i : Nat} (hi : i < N.length) : tmU N κ μ i = .mk (pget N (κ i)).fn ((pget N (κ i)).args.map (tmU N κ μ)) := unU_eq h hi
theorem tmU_var (h : Mu N κ μ) {i : Nat} (hi : i < N.length) (hf : (pget N (κ i)).fn < 0) : tmU N κ μ i = .mk (pget N (κ i)).fn [] := by
  rw [tmU_eq h hi, (h.nok _ (h.ok.lt i hi)).2 hf]; rfl
theorem mu_ind (h : Mu N κ μ) {P : Nat → Prop} (step : ∀ i, i < N.length → (∀ a ∈ (pget N (κ i)).args, P a) → P i) : ∀ i, i < N.length → P i := by
  have key : ∀ n i, i < N.length → μ (κ i) < n → P i := fun n => by
    induction n with
    | zero => intro i _ h1; exact absurd h1 (Nat.not_lt_zero _)
    | succ n ih => exact fun i hi h1 => step i hi (fun a ha => ih a (h.arg hi ha) (by have := h.lt i hi a ha; omega))
  exact fun i hi => key _ i hi (Nat.lt_succ_self _)
theorem tmU_prp (h : Mu N κ μ) : ∀ i, i < N.length → (tmU N κ μ i).prp := mu_ind h (fun i hi ih => by
  by_cases hf : (pget N (κ i)).fn < 0
  · rw [tmU_var h hi hf, T.prp, if_pos hf]
  · rw [tmU_eq h hi, T.prp, if_neg hf, prpL_mem]
    intro t ht
    obtain ⟨a, ha, rfl⟩ := List.mem_map.1 ht
    exact ih a ha)
end
/-! ### Sizes, depths -/
theorem foldl_sz (cap : Nat) : ∀ (l : List Nat) (g s : Nat → Nat) (A x : Nat), x = min A cap → (∀ a ∈ l, g a = min (s a) cap) → l.foldl (fun n a => min (n + g a) cap) x = min (A + (l.map s).sum) cap
  | [], g, s, A, x, h, _ => by simpa using h
  | a :: r, g, s, A, x, h, hg => by
    rw [List.foldl_cons, foldl_sz cap r g s (A + s a) _ (by rw [h, hg a (by simp)]; omega) (fun b q => hg b (List.mem_cons_of_mem _ q))]
    rw [List.map_cons, List.sum_cons]
    omega
theorem sizeL_sum : ∀ l : List T, T.sizeL l = (l.map T.size).sum
  | [] => rfl
  | t :: r => by rw [T.sizeL, sizeL_sum r]; rfl
theorem foldl_dp : ∀ (l : List Nat) (g : Nat → T) (d : Nat → Nat) (x : Nat), (∀ a ∈ l, d a = (g a).dep) → l.foldl (fun n a => max n (d a + 1)) x = max x (if l = [] then 0 else T.depL (l.map g) + 1)
  | [], g, d, x, _ => by simp
  | a :: r, g, d, x, h => by
    rw [List.foldl_cons, foldl_dp r g d _ (fun b q => h b (List.mem_cons_of_mem _ q)), h a (by simp)]
    rw [if_neg (show ¬ (a :: r = []) by simp), List.map_cons, T.depL]
    by_cases hr : r = []
    · subst hr; simp [T.depL]
    · rw [if_neg hr]; omega
section
variable {N : List Pt} {κ sz dp : Nat → Nat}
theorem Meas.pos (h : Meas N κ sz dp) {i : Nat} (hi : i < N.length) : 1 ≤ dp (κ i) := by
  rw [h.dp i hi]; exact (dpF_ge κ dp _ 1).1
theorem Meas.mu (hk : KOk N κ) (hN : NOk N) (h : Meas N κ sz dp) : Mu N κ (fun i => dp i - 1) := ⟨hk, hN, fun i hi a ha => by
  have l := hk.lt i hi
  have la : a < N.length := by have := (hN _ l).1 _ ha; omega
  have h1 := h.lt hi ha
  have h2 := h.pos la
  show dp (κ a) - 1 < dp (κ i) - 1
  omega⟩
theorem Meas.is (hk : KOk N κ) (hN : NOk N) (h : Meas N κ sz dp) : ∀ i, i < N.length → sz (κ i) = min (tmU N κ (fun i => dp i - 1) i).size capS ∧ dp (κ i) = (tmU N κ (fun i => dp i - 1) i).dep := by
  have hm := h.mu hk hN
  refine mu_ind hm (fun i hi ih => ?_)
  rw [tmU_eq hm hi, T.size, T.dep, sizeL_sum, List.map_map]
  constructor
  · rw [h.sz i hi]; unfold szF
    exact foldl_sz capS _ (fun a => sz (κ a)) (T.size ∘ tmU N κ (fun i => dp i - 1)) 1 1 (by unfold capS; omega) (fun a ha => (ih a ha).1)
  · rw [h.dp i hi]; unfold dpF
    rw [foldl_dp _ (tmU N κ (fun i => dp i - 1)) (fun a => dp (κ a)) 1 (fun a ha => (ih a ha).2)]
    split
    · rename_i e; rw [e]; simp [T.depL]
    · omega
end
end Go.Proofs.Ythhgidliopohcaa

/- Unifiers, plain: every unifier comes of what joining leaves; if there is one, joining does not clash and nothing stands in itself. -/
namespace Go.Proofs.Ythhgidliopohcaa
set_option linter.unusedVariables false
set_option linter.unusedSimpArgs false
/-- What a part becomes by a function of variables. -/
def pvF (N : List Pt) (θ : Nat → T) : Nat → Nat → T
  | 0, _ => .mk 0 []
  | n + 1, i => if (pget N i).fn < 0 then θ (vnum (pget N i).fn) else .mk (pget N i).fn ((pget N i).args.map (pvF N θ n))
section
variable {N M : List Pt} {θ : Nat → T}
theorem pvF_stable (hN : NOk N) : ∀ (n m i : Nat), i < N.length → i < n → i < m → pvF N θ n i = pvF N θ m i
  | 0, _, _, _, h1, _ => absurd h1 (Nat.not_lt_zero _)
  | _ + 1, 0, _, _, _, h2 => absurd h2 (Nat.not_lt_zero _)
  | n + 1, m + 1, i, hi, h1, h2 => by
    rw [pvF, pvF]
    split
    · rfl
    · congr 1
      exact map_mem (fun a ha => by have := (hN i hi).1 a ha; exact pvF_stable hN n m a (by omega) (by omega) (by omega))
def pv (N : List Pt) (θ : Nat → T) (i : Nat) : T := pvF N θ (i + 1) i
theorem pv_var {i : Nat} (h : (pget N i).fn < 0) : pv N θ i = θ (vnum (pget N i).fn) := by unfold pv; rw [pvF, if_pos h]
theorem pv_sym (hN : NOk N) {i : Nat} (hi : i < N.length) (h : ¬ (pget N i).fn < 0) : pv N θ i = .mk (pget N i).fn ((pget N i).args.map (pv N θ)) := by
  unfold pv; rw [pvF, if_neg h]
  congr 1
  exact map_mem (fun a ha => by have := (hN i hi).1 a ha; exact pvF_stable hN _ _ a (by omega) (by omega) (by omega))
theorem pvF_app (hN : NOk N) : ∀ (n i : Nat), i < N.length → pvF (N ++ M) θ n i = pvF N θ n i
  | 0, _, _ => rfl
  | n + 1, i, hi => by
    rw [pvF, pvF, pget_app hi]
    split
    · rfl
    · congr 1
      exact map_mem (fun a ha => by have := (hN i hi).1 a ha; exact pvF_app hN n a (by omega))
theorem pv_app (hN : NOk N) {i : Nat} (hi : i < N.length) : pv (N ++ M) θ i = pv N θ i := pvF_app hN _ _ hi
mutual
theorem rep_pv {V : Nat → Nat} (hN : NOk N) : ∀ (t : T) (i : Nat), t.rep N V i → pv N θ i = t.apv θ
  | .mk f l, i, h => by
    rw [T.rep] at h
    obtain ⟨h1, h2, h3⟩ := h
    by_cases hf : f < 0
    · rw [pv_var (by rw [h2]; exact hf), apv_var hf, h2]
    · rw [if_neg hf] at h3
      rw [pv_sym hN h1 (by rw [h2]; exact hf), apv_sym hf, h2, repL_pv hN l _ h3]
theorem repL_pv {V : Nat → Nat} (hN : NOk N) : ∀ (l : List T) (q : List Nat), T.repL N V l q → q.map (pv N θ) = l.map (T.apv θ)
  | [], [], _ => rfl
  | t :: r, a :: q, h => by
    rw [T.repL] at h
    rw [List.map_cons, List.map_cons, rep_pv hN t a h.1, repL_pv hN r q h.2]
  | [], _ :: _, h => by rw [T.repL] at h; exact h.elim
  | _ :: _, [], h => by rw [T.repL] at h; exact h.elim
end
/-- Parts that become the same. -/
def SP (N : List Pt) (θ : Nat → T) (i j : Nat) : Prop := i = j ∨ (i < N.length ∧ j < N.length ∧ pv N θ i = pv N θ j)
theorem map_get {f : Nat → T} {l m : List Nat} (h : l.map f = m.map f) : l.length = m.length ∧ ∀ k, k < l.length → f (aget l k) = f (aget m k) := by
  have hl : l.length = m.length := by have := congrArg List.length h; simpa using this
  refine ⟨hl, fun k hk => ?_⟩
  have e := congrArg (fun x => x[k]?) h
  simp only [List.getElem?_map] at e
  rw [List.getElem?_eq_getElem hk, List.getElem?_eq_getElem (show k < m.length by omega)] at e
  rw [aget_lt hk, aget_lt (by omega)]
  simpa using e
theorem SP.cld (hN : NOk N) : Cld N (SP N θ) := by
  refine ⟨⟨fun i => .inl rfl, fun {i j} h => ?_, fun {i j k} h1 h2 => ?_⟩, fun {i j} h h0 h1 => ?_⟩
  · rcases h with rfl | ⟨a, b, c⟩
    · exact .inl rfl
    · exact .inr ⟨b, a, c.symm⟩
  · rcases h1 with rfl | ⟨a, b, c⟩
    · exact h2
    · rcases h2 with rfl | ⟨d, e, f⟩
      · exact .inr ⟨a, b, c⟩
      · exact .inr ⟨a, e, c.trans f⟩
  · rcases h with rfl | ⟨a, b, c⟩
    · exact ⟨rfl, rfl, fun _ _ => .inl rfl⟩
    · rw [pv_sym hN a (by omega), pv_sym hN b (by omega)] at c
      obtain ⟨c1, c2⟩ := T.mk.inj c
      obtain ⟨c3, c4⟩ := map_get c2
      refine ⟨c1, c3, fun k hk => .inr ⟨?_, ?_, c4 k hk⟩⟩
      · have := (hN i a).1 _ (aget_mem hk); omega
      · have := (hN j b).1 _ (aget_mem (show k < (pget N j).args.length by omega)); omega
end
/-- All pairs become the same. -/
def Unif (θ : Nat → T) (l : List (T × T)) : Prop := ∀ p ∈ l, p.1.apv θ = p.2.apv θ
def PrpPs (l : List (T × T)) : Prop := ∀ p ∈ l, p.1.prp ∧ p.2.prp
/-- What joining leaves, so far: the pairs that were joined are the same; each unifier has it. -/
theorem nrun_unif {rv : Bool} {l : List (T × T)} {st : NS} {κ : Nat → Nat} {o : Option (NS × (Nat → Nat))} (h : NRun rv l st κ o) : NetOk st → VarOne st → KCl st.N κ → PrpPs l →
    (∀ st' κ', o = some (st', κ') → NetOk st' ∧ VarOne st' ∧ KCl st'.N κ' ∧ (∃ M, st'.N = st.N ++ M) ∧ (∀ v, st.V v ≠ 0 → st'.V v = st.V v) ∧ (∀ i j, κ i = κ j → κ' i = κ' j) ∧ ∀ p ∈ l, ∃ i j, p.1.rep st'.N st'.V i ∧ p.2.rep st'.N st'.V j ∧ κ' i = κ' j) ∧
    (∀ θ, Unif θ l → (∀ i j, κ i = κ j → SP st.N θ i j) → ∃ st' κ', o = some (st', κ') ∧ ∀ i j, κ' i = κ' j → SP st'.N θ i j) := by
  have two : ∀ (a b : T) (st : NS) (κ : Nat → Nat), NetOk st → VarOne st → KCl st.N κ → a.prp → b.prp → NetOk (b.put (a.put st).1).1 ∧ VarOne (b.put (a.put st).1).1 ∧ KCl (b.put (a.put st).1).1.N κ ∧ PutOk st (b.put (a.put st).1).1 (a.size + b.size) ∧ a.rep (b.put (a.put st).1).1.N (b.put (a.put st).1).1.V (a.put st).2 ∧ b.rep (b.put (a.put st).1).1.N (b.put (a.put st).1).1.V (b.put (a.put st).1).2 ∧ InR (b.put (a.put st).1).1.N [((a.put st).2, (b.put (a.put st).1).2)] := fun a b st κ hs ho hk ha hb => by
    obtain ⟨p1, p2⟩ := put_ok a st hs
    obtain ⟨q1, q2⟩ := put_ok b _ p1.ok
    obtain ⟨r1, r2⟩ := put_rep a st hs ho ha
    obtain ⟨s1, s2⟩ := put_rep b _ p1.ok r1 hb
    obtain ⟨M, e⟩ := p1.ext
    obtain ⟨M2, e2⟩ := q1.ext
    refine ⟨q1.ok, s1, by rw [e2, e]; exact hk.grow.grow, p1.trans q1, q1.rep r2, s2, fun p hp => ?_⟩
    obtain rfl := List.mem_singleton.1 hp
    exact ⟨Nat.lt_of_lt_of_le p2 q1.le, q2⟩
  have inv : ∀ {N : List Pt} {κ : Nat → Nat} {todo : List (Nat × Nat)}, Inv N κ [] → Inv N κ todo := fun h p q hp hq e h0 h1 => by
    obtain ⟨z1, z2, z3⟩ := h p q hp hq e h0 h1
    exact ⟨z1, z2, fun S hS hκ ht => z3 S hS hκ (fun x hx => by simp at hx)⟩
  -- what unifiers have stays so when the net grows
  have grow : ∀ {st st' : NS} {m : Nat} {κ : Nat → Nat} {θ : Nat → T}, NetOk st → PutOk st st' m → (∀ i j, κ i = κ j → SP st.N θ i j) → ∀ i j, κ i = κ j → SP st'.N θ i j := fun {st st' m κ θ} hs hp h i j e => by
    obtain ⟨M, eM⟩ := hp.ext
    rcases h i j e with z | ⟨z1, z2, z3⟩
    · exact .inl z
    · refine .inr ⟨by rw [eM, List.length_append]; omega, by rw [eM, List.length_append]; omega, ?_⟩
      rw [eM, pv_app hs.args z1, pv_app hs.args z2]; exact z3
  induction h with
  | nil st κ =>
    intro hs ho hk _
    exact ⟨fun st' κ' e => by cases e; exact ⟨hs, ho, hk, ⟨[], by simp⟩, fun _ _ => rfl, fun _ _ e => e, fun p hp => by simp at hp⟩, fun θ _ h => ⟨st, κ, rfl, h⟩⟩
  | @fail a b r st κ h1 =>
    intro hs ho hk hp
    obtain ⟨k1, k2, k3, k4, k5, k6, k7⟩ := two a b st κ hs ho hk (hp (a, b) (by simp)).1 (hp (a, b) (by simp)).2
    refine ⟨fun _ _ e => (nomatch e), fun θ hu h => ?_⟩
    obtain ⟨κ', e, _⟩ := (h1.ok k1.args k3.ok k7 (inv k3.inv)).2 (SP _ θ) (SP.cld k1.args) (grow hs k4 h) (fun p hp2 => by
      obtain rfl := List.mem_singleton.1 hp2
      refine .inr ⟨(k7 _ (by simp)).1, (k7 _ (by simp)).2, ?_⟩
      rw [rep_pv k1.args a _ k5, rep_pv k1.args b _ k6]
      exact hu (a, b) (by simp))
    cases e
  | @cons a b r st κ κ' o h1 _ ih =>
    intro hs ho hk hp
    obtain ⟨k1, k2, k3, k4, k5, k6, k7⟩ := two a b st κ hs ho hk (hp (a, b) (by simp)).1 (hp (a, b) (by simp)).2
    obtain ⟨m1, m2⟩ := h1.ok k1.args k3.ok k7 (inv k3.inv)
    obtain ⟨n1, n2, n3, n4⟩ := m1 κ' rfl
    obtain ⟨p1, p2⟩ := ih k1 k2 ⟨n1, n2⟩ (fun p q => hp p (List.mem_cons_of_mem _ q))
    refine ⟨fun st' κ2 e => ?_, fun θ hu h => ?_⟩
    · obtain ⟨q1, q2, q3, ⟨M, q4⟩, q5, q6, q7⟩ := p1 st' κ2 e
      obtain ⟨M0, e0⟩ := k4.ext
      have keep : ∀ {t : T} {i : Nat}, t.rep (b.put (a.put st).1).1.N (b.put (a.put st).1).1.V i → t.rep st'.N st'.V i := fun h => by rw [q4]; exact rep_ext q5 h
      refine ⟨q1, q2, q3, ⟨M0 ++ M, by rw [q4, e0, List.append_assoc]⟩, fun v hv => by have z := k4.keep v hv; rw [q5 v (by rw [z]; exact hv), z], fun i j e => q6 _ _ (n3 _ _ e), fun p hpm => ?_⟩
      rcases List.mem_cons.1 hpm with rfl | hpm
      · exact ⟨_, _, keep k5, keep k6, q6 _ _ (n4 _ (List.mem_singleton.2 rfl))⟩
      · exact q7 p hpm
    · obtain ⟨κ3, e3, hS⟩ := m2 (SP _ θ) (SP.cld k1.args) (grow hs k4 h) (fun p hp2 => by
        obtain rfl := List.mem_singleton.1 hp2
        refine .inr ⟨(k7 _ (by simp)).1, (k7 _ (by simp)).2, ?_⟩
        rw [rep_pv k1.args a _ k5, rep_pv k1.args b _ k6]
        exact hu (a, b) (by simp))
      obtain rfl := Option.some.inj e3
      exact p2 θ (fun p q => hu p (List.mem_cons_of_mem _ q)) hS
theorem varOne0 : VarOne ⟨[], fun _ => 0⟩ := fun i hi => by simp at hi
/-- What all variables become. -/
def sgV (st : NS) (κ μ : Nat → Nat) (v : Nat) : T := if st.V v = 0 then tv v else tmU st.N κ μ (st.V v - 1)
section
variable {st : NS} {κ μ : Nat → Nat}
theorem sgV_part (hs : NetOk st) (ho : VarOne st) (h : Mu st.N κ μ) {i : Nat} (hi : i < st.N.length) (hf : (pget st.N i).fn < 0) : sgV st κ μ (vnum (pget st.N i).fn) = tmU st.N κ μ i := by
  have e := ho i hi hf
  unfold sgV
  rw [if_neg (by omega), e, Nat.add_sub_cancel]
mutual
theorem rep_sg (hs : NetOk st) (ho : VarOne st) (h : Mu st.N κ μ) : ∀ (t : T) (i : Nat), t.rep st.N st.V i → (∀ a, a < st.N.length → 0 ≤ (pget st.N a).fn → tmU st.N κ μ a = .mk (pget st.N a).fn ((pget st.N a).args.map (tmU st.N κ μ))) → t.apv (sgV st κ μ) = tmU st.N κ μ i
  | .mk f l, i, hr, hc => by
    rw [T.rep] at hr
    obtain ⟨h1, h2, h3⟩ := hr
    by_cases hf : f < 0
    · rw [apv_var hf, ← h2]; exact sgV_part hs ho h h1 (by omega)
    · rw [if_neg hf] at h3
      rw [apv_sym hf, hc i h1 (by omega), h2, repL_sg hs ho h l _ h3 hc]
theorem repL_sg (hs : NetOk st) (ho : VarOne st) (h : Mu st.N κ μ) : ∀ (l : List T) (q : List Nat), T.repL st.N st.V l q → (∀ a, a < st.N.length → 0 ≤ (pget st.N a).fn → tmU st.N κ μ a = .mk (pget st.N a).fn ((pget st.N a).args.map (tmU st.N κ μ))) → l.map (T.apv (sgV st κ μ)) = q.map (tmU st.N κ μ)
  | [], [], _, _ => rfl
  | t :: r, a :: q, hr, hc => by
    rw [T.repL] at hr
    rw [List.map_cons, List.map_cons, rep_sg hs ho h t a hr.1 hc, repL_sg hs ho h r q hr.2 hc]
  | [], _ :: _, hr, _ => by rw [T.repL] at hr; exact hr.elim
  | _ :: _, [], hr, _ => by rw [T.repL] at hr; exact hr.elim
end
/-- A part with a symbol becomes that symbol of what its own arguments become. -/
theorem tmU_own (hk : KCl st.N κ) (h : Mu st.N κ μ) (a : Nat) (ha : a < st.N.length) (h0 : 0 ≤ (pget st.N a).fn) : tmU st.N κ μ a = .mk (pget st.N a).fn ((pget st.N a).args.map (tmU st.N κ μ)) := by
  rw [tmU_eq h ha]
  have h1 : 0 ≤ (pget st.N (κ a)).fn := by
    by_cases q : (pget st.N (κ a)).fn < 0
    · have := hk.ok.top a q; omega
    · omega
  obtain ⟨z1, z2, z3⟩ := (hk.cld h.nok).dec (i := κ a) (j := a) (hk.ok.idem a) h1 h0
  rw [z1]
  congr 1
  exact map_pair _ _ _ _ z2 (fun k hk2 => unU_same (z3 k hk2))
end
end Go.Proofs.Ythhgidliopohcaa

/- Unifiers, plain: the most general one, and that there is but one. -/
namespace Go.Proofs.Ythhgidliopohcaa
set_option linter.unusedVariables false
set_option linter.unusedSimpArgs false
/-- The most general unifier: of variables that hang together the least stands. -/
structure Mgu (l : List (T × T)) (σ : Nat → T) : Prop where
  unif : Unif σ l
  most : ∀ θ, Unif θ l → ∀ v, θ v = (σ v).apv θ
  prp : ∀ v, (σ v).prp
  low : ∀ v x, σ v = tv x → x ≤ v
  idem : ∀ v (n : Nat), (σ v).hasV (n : Int) → σ n = tv n
def bindsS (σ : Nat → T) : Nat → Option (List Bd)
  | 0 => some []
  | v + 1 => match bindsS σ v with
    | none => none
    | some s => if (σ v).f = -1 - (v : Int) then some s else if 300 < (σ v).size ∨ 30 < (σ v).dep then none else some (s ++ [⟨(v : Int), σ v⟩])
theorem mem_le_sum : ∀ {l : List Nat} {x : Nat}, x ∈ l → x ≤ l.sum
  | y :: r, x, h => by
    rw [List.sum_cons]
    rcases List.mem_cons.1 h with rfl | h
    · omega
    · have := mem_le_sum h; omega
theorem tv_inj {v x : Nat} (h : tv v = tv x) : v = x := by unfold tv at h; have := (T.mk.inj h).1; omega
theorem prp_var {t : T} (h : t.prp) (hf : t.f < 0) : t = tv (vnum t.f) := by
  obtain ⟨f, l⟩ := t
  rw [T.prp, if_pos (show f < 0 from hf)] at h
  subst h
  exact (tv_vnum (show f < 0 from hf)).symm
section
variable {st : NS} {κ μ : Nat → Nat} {θ : Nat → T}
theorem tmU_ap (h : Mu st.N κ μ) (hS : ∀ i j, κ i = κ j → SP st.N θ i j) : ∀ i, i < st.N.length → (tmU st.N κ μ i).apv θ = pv st.N θ i := by
  have hr : ∀ i, i < st.N.length → pv st.N θ (κ i) = pv st.N θ i := fun i hi => by
    rcases hS (κ i) i (h.ok.idem i) with e | ⟨_, _, e⟩
    · rw [e]
    · exact e
  refine mu_ind h (fun i hi ih => ?_)
  have l := h.ok.lt i hi
  rw [← hr i hi]
  by_cases hf : (pget st.N (κ i)).fn < 0
  · rw [tmU_var h hi hf, apv_var hf, pv_var hf]
  · rw [tmU_eq h hi, apv_sym hf, pv_sym h.nok l hf, List.map_map]
    congr 1
    exact map_mem (fun a ha => ih a ha)
theorem sg_most (hs : NetOk st) (h : Mu st.N κ μ) (hS : ∀ i j, κ i = κ j → SP st.N θ i j) (v : Nat) : θ v = (sgV st κ μ v).apv θ := by
  unfold sgV
  by_cases c : st.V v = 0
  · rw [if_pos c, apv_tv]
  · rw [if_neg c]
    obtain ⟨a, b⟩ := hs.vars v
    have hb := b c
    rw [tmU_ap h hS _ (by omega), pv_var (by rw [hb]; omega), hb, vnum_tv]
theorem sg_mgu {l : List (T × T)} (hs : NetOk st) (ho : VarOne st) (hk : KCl st.N κ) (h : Mu st.N κ μ) (hl : ∀ p ∈ l, ∃ i j, p.1.rep st.N st.V i ∧ p.2.rep st.N st.V j ∧ κ i = κ j) (hm : ∀ θ, Unif θ l → ∀ i j, κ i = κ j → SP st.N θ i j) : Mgu l (sgV st κ μ) := by
  refine ⟨fun p hp => ?_, fun θ hu v => sg_most hs h (hm θ hu) v, fun v => ?_, fun v x e => ?_, fun v n hh => ?_⟩
  · obtain ⟨i, j, h1, h2, h3⟩ := hl p hp
    rw [rep_sg hs ho h _ _ h1 (tmU_own hk h), rep_sg hs ho h _ _ h2 (tmU_own hk h)]
    exact unU_same h3
  · unfold sgV
    by_cases c : st.V v = 0
    · rw [if_pos c]; unfold tv; rw [T.prp, if_pos (by omega)]
    · rw [if_neg c]; have := (hs.vars v).1; exact tmU_prp h _ (by omega)
  · unfold sgV at e
    by_cases c : st.V v = 0
    · rw [if_pos c] at e; have := tv_inj e; omega
    · rw [if_neg c] at e
      obtain ⟨a, b⟩ := hs.vars v
      have hb := b c
      have hi : st.V v - 1 < st.N.length := by omega
      rw [tmU_eq h hi] at e
      have e1 := (T.mk.inj e).1
      have := hk.ok.top (st.V v - 1) (by rw [e1]; omega)
      omega
  · have key : ∀ i, i < st.N.length → (tmU st.N κ μ i).hasV (n : Int) → sgV st κ μ n = tv n := mu_ind h (fun i hi ih hh => by
      have l := h.ok.lt i hi
      by_cases hf : (pget st.N (κ i)).fn < 0
      · rw [tmU_var h hi hf, T.hasV] at hh
        rcases hh with ⟨_, hh⟩ | hh
        · have e := ho (κ i) l hf
          have en : vnum (pget st.N (κ i)).fn = n := by unfold vnum; omega
          have z := sgV_part hs ho h l hf
          rw [en] at z
          rw [z, show tmU st.N κ μ (κ i) = tmU st.N κ μ i from unU_same (h.ok.idem i), tmU_var h hi hf]
          unfold tv; congr 1; omega
        · simp [T.hasVL] at hh
      · rw [tmU_eq h hi, T.hasV] at hh
        rcases hh with ⟨hh, _⟩ | hh
        · exact absurd hh hf
        · obtain ⟨t, ht, hh⟩ := hasVL_mem.1 hh
          obtain ⟨a, ha, rfl⟩ := List.mem_map.1 ht
          exact ih a ha hh)
    unfold sgV at hh
    by_cases c : st.V v = 0
    · rw [if_pos c] at hh
      unfold tv at hh
      rw [T.hasV] at hh
      rcases hh with ⟨_, hh⟩ | hh
      · obtain rfl : n = v := by omega
        unfold sgV; rw [if_pos c]
      · simp [T.hasVL] at hh
    · rw [if_neg c] at hh
      have := (hs.vars v).1
      exact key _ (by omega) hh
theorem binds_sg {sz dp : Nat → Nat} (hs : NetOk st) (hk : KOk st.N κ) (h : Meas st.N κ sz dp) : ∀ v, bindsM st κ sz dp v = bindsS (sgV st κ (fun i => dp i - 1)) v
  | 0 => rfl
  | v + 1 => by
    rw [bindsM, bindsS, binds_sg hs hk h v]
    cases bindsS (sgV st κ (fun i => dp i - 1)) v with
    | none => rfl
    | some s =>
      (try dsimp only)
      by_cases c : st.V v = 0
      · rw [if_pos c, if_pos]
        unfold sgV; rw [if_pos c]; rfl
      · rw [if_neg c]
        have hv := (hs.vars v).1
        have hi : st.V v - 1 < st.N.length := by omega
        have hm := h.mu hk hs.args
        have e : sgV st κ (fun i => dp i - 1) v = tmU st.N κ (fun i => dp i - 1) (st.V v - 1) := by unfold sgV; rw [if_neg c]
        obtain ⟨k1, k2⟩ := h.is hk hs.args _ hi
        have e1 : (tmU st.N κ (fun i => dp i - 1) (st.V v - 1)).f = (pget st.N (κ (st.V v - 1))).fn := by rw [tmU_eq hm hi]; rfl
        have e2 : tmF st.N κ (dp (κ (st.V v - 1))) (κ (st.V v - 1)) = tmU st.N κ (fun i => dp i - 1) (st.V v - 1) := by
          rw [tmF_unf, unf_rep hk]
          have := h.pos hi
          exact unU_at hm hi (by show dp (κ (st.V v - 1)) - 1 < _; omega)
        rw [e, e1, e2, k1, k2]
        by_cases c2 : (pget st.N (κ (st.V v - 1))).fn = -1 - (v : Int)
        · rw [if_pos c2, if_pos c2]
        · rw [if_neg c2, if_neg c2]
          by_cases c3 : 300 < (tmU st.N κ (fun i => dp i - 1) (st.V v - 1)).size ∨ 30 < (tmU st.N κ (fun i => dp i - 1) (st.V v - 1)).dep
          · rw [if_pos c3, if_pos (by unfold capS; omega)]
          · rw [if_neg c3, if_neg (by unfold capS; omega)]
/-- A unifier measures parts: nothing stands in itself. -/
theorem unif_meas (hs : NetOk st) (hk : KOk st.N κ) (hS : ∀ i j, κ i = κ j → SP st.N θ i j) : ∃ sz dp, Meas st.N κ sz dp := by
  have hr : ∀ i, i < st.N.length → pv st.N θ (κ i) = pv st.N θ i := fun i hi => by
    rcases hS (κ i) i (hk.idem i) with e | ⟨_, _, e⟩
    · rw [e]
    · exact e
  have hm : Mu st.N κ (fun i => (pv st.N θ i).size) := ⟨hk, hs.args, fun i hi a ha => by
    have l := hk.lt i hi
    have la : a < st.N.length := by have := (hs.args _ l).1 _ ha; omega
    have hf : ¬ (pget st.N (κ i)).fn < 0 := fun q => by rw [(hs.args _ l).2 q] at ha; simp at ha
    show (pv st.N θ (κ a)).size < (pv st.N θ (κ i)).size
    rw [hr a la, pv_sym hs.args l hf, T.size, sizeL_sum, List.map_map]
    have : (pv st.N θ a).size ≤ (((pget st.N (κ i)).args.map (T.size ∘ pv st.N θ))).sum := mem_le_sum (List.mem_map.2 ⟨a, ha, rfl⟩)
    omega⟩
  refine ⟨unU st.N κ (fun i => (pv st.N θ i).size) (fun _ l => l.foldl (fun n d => min (n + d) capS) 1) 0, unU st.N κ (fun i => (pv st.N θ i).size) (fun _ l => l.foldl (fun n d => max n (d + 1)) 1) 0, fun i hi => ?_, fun i hi => ?_⟩
  · have l := hk.lt i hi
    rw [unU_eq hm l, hk.idem, List.foldl_map]
    unfold szF
    congr 1
    funext n a
    rw [unU_same (hk.idem a)]
  · have l := hk.lt i hi
    rw [unU_eq hm l, hk.idem, List.foldl_map]
    unfold dpF
    congr 1
    funext n a
    rw [unU_same (hk.idem a)]
end
theorem solve_some {rv : Bool} {l : List (T × T)} {st : NS} {κ sz dp : Nat → Nat} (h : SolveIs rv l (some (st, κ, sz, dp))) (hp : PrpPs l) : ∃ σ, Mgu l σ ∧ resOf (some (st, κ, sz, dp)) = resB (bindsS σ 96) := by
  cases h with
  | ok h1 hm =>
    obtain ⟨k1, k2⟩ := nrun_unif h1 net0_ok varOne0 kcl0 hp
    obtain ⟨m1, m2, m3, _, _, _, m4⟩ := k1 st κ rfl
    refine ⟨sgV st κ (fun i => dp i - 1), sg_mgu m1 m2 m3 (hm.mu m3.ok m1.args) m4 (fun θ hu => ?_), ?_⟩
    · obtain ⟨st', κ', e, hS⟩ := k2 θ hu (fun i j e => .inl e)
      cases e
      exact hS
    · unfold resOf
      (try dsimp only)
      rw [binds_sg m1 m3.ok hm]
theorem solve_none {rv : Bool} {l : List (T × T)} (h : SolveIs rv l none) (hp : PrpPs l) (θ : Nat → T) : ¬ Unif θ l := fun hu => by
  cases h with
  | clash h1 =>
    obtain ⟨_, _, e, _⟩ := (nrun_unif h1 net0_ok varOne0 kcl0 hp).2 θ hu (fun i j e => .inl e)
    cases e
  | cyc h1 hc =>
    obtain ⟨k1, k2⟩ := nrun_unif h1 net0_ok varOne0 kcl0 hp
    obtain ⟨st', κ', e, hS⟩ := k2 θ hu (fun i j e => .inl e)
    cases e
    obtain ⟨m1, m2, m3, _⟩ := k1 _ _ rfl
    obtain ⟨sz, dp, hm⟩ := unif_meas m1 m3.ok hS
    exact hc sz dp hm
/-! ### There is but one -/
theorem wide_prp {l : List (T × T)} (h : wideB l = true) : PrpPs l := fun p hp => by
  unfold wideB at h
  rw [Bool.and_eq_true, List.all_eq_true] at h
  have z := h.2 p hp
  rw [Bool.and_eq_true] at z
  exact ⟨low_prp (small_low z.1).2, low_prp (small_low z.2).2⟩
theorem pairs_facts {rv : Bool} {l : List (T × T)} {bs : List Bd} {e : Int} (h : PairsIs rv l bs e) : (wideB l = false ∧ bs = [] ∧ e = 2) ∨ (wideB l = true ∧ (∀ θ, ¬ Unif θ l) ∧ bs = [] ∧ e = 4) ∨ (wideB l = true ∧ ∃ σ, Mgu l σ ∧ ((bindsS σ 96 = none ∧ bs = [] ∧ e = 3) ∨ (bindsS σ 96 = some bs ∧ e = 0))) := by
  rcases h with h | ⟨hW, o, h1, h2⟩
  · exact .inl h
  · cases o with
    | none =>
      have e2 := Prod.mk.inj h2
      exact .inr (.inl ⟨hW, solve_none h1 (wide_prp hW), e2.1.symm, e2.2.symm⟩)
    | some q =>
      obtain ⟨st, κ, sz, dp⟩ := q
      obtain ⟨σ, hσ, e⟩ := solve_some h1 (wide_prp hW)
      rw [e] at h2
      refine .inr (.inr ⟨hW, σ, hσ, ?_⟩)
      cases hb : bindsS σ 96 with
      | none => rw [hb] at h2; have e2 := Prod.mk.inj h2; exact .inl ⟨rfl, e2.1.symm, e2.2.symm⟩
      | some s => rw [hb] at h2; have e2 := Prod.mk.inj h2; exact .inr ⟨by rw [← e2.1], e2.2.symm⟩
end Go.Proofs.Ythhgidliopohcaa

namespace Go.Proofs.Ythhgidliopohcaa
open Go.RowKit Go
set_option linter.unusedVariables false
set_option linter.unusedSimpArgs false
set_option maxRecDepth 100000
theorem box_41 {w : World} {a : Act} {K : Act → World → Prop} {Q : Exit → Act → World → Prop} {o : Oper} {x : Operand} {c0 c1 c2 : Value} (ho : o.op = .box 41 x) (hx : a.eval x = .agg #[c0, c1, c2]) (hK : K (a.put o.dst (.pointer (some ⟨w.heap.size, 0, none⟩))) (w.alloc (.cells #[c0, c1, c2] 41))) : o.wp Try.prog a w K Q := by
  unfold Oper.wp execOp
  simp only [ho, hx]
  go_simp
  exact hK
theorem ld_41 {w : World} {a : Act} {K : Act → World → Prop} {Q : Exit → Act → World → Prop} {o : Oper} {x : Operand} {b p : Nat} {c0 c1 c2 : Value} (ho : o.op = .load 41 x) (hx : a.eval x = .pointer (some ⟨b, p, none⟩)) (h0 : w.cell? ⟨b, p, none⟩ = some c0) (h1 : w.cell? ⟨b, p + 1, none⟩ = some c1) (h2 : w.cell? ⟨b, p + 2, none⟩ = some c2) (hK : K (a.put o.dst (.agg #[c0, c1, c2])) w) : o.wp Try.prog a w K Q := by
  unfold Oper.wp execOp
  simp only [ho, hx]
  go_simp
  exact hK
theorem alloc_41 {w : World} {a : Act} {K : Act → World → Prop} {Q : Exit → Act → World → Prop} {o : Oper} (ho : o.op = .alloc 41) (hK : K (a.put o.dst (.pointer (some ⟨w.heap.size, 0, none⟩))) (w.alloc (.cells #[.int .i64 0, .int .i64 0, .slice none 0 0] 41))) : o.wp Try.prog a w K Q := by
  unfold Oper.wp execOp
  simp only [ho]
  go_simp
  exact hK
theorem st_41 {w : World} {a : Act} {K : Act → World → Prop} {Q : Exit → Act → World → Prop} {o : Oper} {x y : Operand} {g p : Nat} {ty : TypeId} {cs : Array Value} {c0 c1 c2 : Value} (ho : o.op = .store 41 x y) (hx : a.eval x = .pointer (some ⟨g, p, none⟩)) (hy : a.eval y = .agg #[c0, c1, c2]) (k0 : c0.oneCell' = true) (k1 : c1.oneCell' = true) (k2 : c2.oneCell' = true) (hB : Blk w g ty cs) (hp : p + 2 < cs.size) (hK : ∀ v, K (a.put o.dst v) (((w.setCell ⟨g, p, none⟩ c0).setCell ⟨g, p + 1, none⟩ c1).setCell ⟨g, p + 2, none⟩ c2)) : o.wp Try.prog a w K Q := by
  have h0 := (hB.cell (p)).trans (Array.getElem?_eq_getElem (by first | omega | (simp; omega)))
  have f0 := hB.frozen (p)
  have hB := hB.set_ (p) c0
  have h1 := (hB.cell (p + 1)).trans (Array.getElem?_eq_getElem (by first | omega | (simp; omega)))
  have f1 := hB.frozen (p + 1)
  have hB := hB.set_ (p + 1) c1
  have h2 := (hB.cell (p + 2)).trans (Array.getElem?_eq_getElem (by first | omega | (simp; omega)))
  have f2 := hB.frozen (p + 2)
  have s0 := fun w a m => run_store Try.prog w a c0 m k0
  have s1 := fun w a m => run_store Try.prog w a c1 m k1
  have s2 := fun w a m => run_store Try.prog w a c2 m k2
  clear hB
  unfold Oper.wp execOp
  simp only [ho, hx, hy]
  go_simp
  exact hK _
theorem box_24 {w : World} {a : Act} {K : Act → World → Prop} {Q : Exit → Act → World → Prop} {o : Oper} {x : Operand} {c0a : Option Addr} {c0n c0c : Nat} (ho : o.op = .box 24 x) (hx : a.eval x = .slice c0a c0n c0c) (hK : K (a.put o.dst (.pointer (some ⟨w.heap.size, 0, none⟩))) (w.alloc (.cells #[.slice c0a c0n c0c] 24))) : o.wp Try.prog a w K Q := by
  unfold Oper.wp execOp
  simp only [ho, hx]
  go_simp
  exact hK
theorem ld_24 {w : World} {a : Act} {K : Act → World → Prop} {Q : Exit → Act → World → Prop} {o : Oper} {x : Operand} {p : Addr} {v : Value} (ho : o.op = .load 24 x) (hx : a.eval x = .pointer (some p)) (hc : w.cell? p = some v) (hK : K (a.put o.dst (v)) w) : o.wp Try.prog a w K Q := by
  unfold Oper.wp execOp
  simp only [ho, hx]
  go_simp
  exact hK
theorem neqp_76 {w : World} {a : Act} {K : Act → World → Prop} {Q : Exit → Act → World → Prop} {o : Oper} {x y : Operand} {p : Addr} (ho : o.op = .binOp .neq 76 x y 76) (hx : a.eval x = .pointer (some p)) (hy : a.eval y = .pointer none) (hK : K (a.put o.dst (.bool true)) w) : o.wp Try.prog a w K Q := by
  unfold Oper.wp execOp
  simp only [ho, hx, hy]
  go_simp
  exact hK
theorem neqn_76 {w : World} {a : Act} {K : Act → World → Prop} {Q : Exit → Act → World → Prop} {o : Oper} {x y : Operand} (ho : o.op = .binOp .neq 76 x y 76) (hx : a.eval x = .pointer none) (hy : a.eval y = .pointer none) (hK : K (a.put o.dst (.bool false)) w) : o.wp Try.prog a w K Q := by
  unfold Oper.wp execOp
  simp only [ho, hx, hy]
  go_simp
  exact hK
theorem build_32_ {w : World} {a : Act} {K : Act → World → Prop} {Q : Exit → Act → World → Prop} {o : Oper}   (ho : o.op = .build 32 #[])  (hK : K (a.put o.dst (.agg #[.int .i64 0, .slice none 0 0])) w) : o.wp Try.prog a w K Q := by
  unfold Oper.wp execOp
  simp only [ho, List.map_toArray, List.map_cons, List.map_nil, ]
  go_simp
  exact hK
theorem len_23 {w : World} {a : Act} {K : Act → World → Prop} {Q : Exit → Act → World → Prop} {o : Oper} {x : Operand} {r : Option Addr} {n c : Nat} (ho : o.op = .call { callee := .builtin .len, args := #[x], argTypes := #[23] }) (hx : a.eval x = .slice r n c) (hK : K (a.put o.dst (.int .i64 n)) w) : o.wp Try.prog a w K Q := by
  unfold Oper.wp execOp
  simp only [ho, resolve, List.map_toArray, List.map_cons, List.map_nil, hx]
  go_simp
  exact hK
theorem quob_3 {w : World} {a : Act} {K : Act → World → Prop} {Q : Exit → Act → World → Prop} {o : Oper} {x y : Operand} {m n r : Int} (ho : o.op = .binOp .quo 3 x y 3) (hx : a.eval x = .int .i64 m) (hy : a.eval y = .int .i64 n) (h0 : ¬ n = 0) (hr : IntKind.i64.wrap (m.tdiv n) = r) (hK : K (a.put o.dst (.int .i64 r)) w) : o.wp Try.prog a w K Q := by
  subst hr
  unfold Oper.wp execOp
  simp only [ho, hx, hy]
  go_simp
  exact hK
theorem ix_23 {w : World} {a : Act} {K : Act → World → Prop} {Q : Exit → Act → World → Prop} {o : Oper} {x y : Operand} {r : Option Addr} {b p n c k : Nat} (ho : o.op = .indexAddr 23 x y) (hx : a.eval x = .slice r n c) (hr : r = some ⟨b, p, none⟩) (hy : a.eval y = .int .i64 (k : Int)) (hk : k < n) (hK : K (a.put o.dst (.pointer (some ⟨b, p + k * 3, none⟩))) w) : o.wp Try.prog a w K Q := by
  subst hr
  have h0 : (0 : Int) ≤ (k : Int) := by omega
  have h1 : (k : Int) < (n : Int) := by omega
  unfold Oper.wp execOp
  simp only [ho, hx, hy]
  go_simp
  exact hK
end Go.Proofs.Ythhgidliopohcaa
