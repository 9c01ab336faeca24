/- Arguments of a law, opened: rows of pairs of terms. -/
import Derived.Test.YthhgidliopohcaaUNTi
import Derived.Test.YthhgidliopohcaaUNTa
import Derived.WalkKit
import Derived.ProofKit
import Derived.JoinedCond
import Derived.OpenShut
import Derived.Test.YthhgidliopohcaaUNTe

/- UnifyTells: the program and the document tell the same. -/
namespace Go.Proofs.Ythhgidliopohcaa
open Go.RowKit Go
set_option linter.unusedVariables false
set_option linter.unusedSimpArgs false
set_option maxRecDepth 100000 in
theorem tells_any (l : List (T × T)) (w : World) (a : Option Addr) (c : Nat) (hl : IsPs w l a c) (hlz : l.length ≤ 1048576) (hsz : ∀ k, k < l.length → (prget l k).1.size ≤ 4294967296 ∧ (prget l k).2.size ≤ 4294967296) :
  Calls Try.prog 3 #[.slice a l.length c] w (Ret fun v' w' => v' = .bool true ∧ Below w.heap.size w w') := by
 skip
 refine Calls.walk (l := [.slice a l.length c]) Try.func3 rfl (by kernel_rfl) ?_
 refine WC.sub (K' := [(0, .slice a l.length c)]) ⟨rfl, trivial⟩ ?_
 refine WC.seq (WC.region (WL.asg rfl rfl rfl rfl rfl (WL.nil (WE.next (WC.seq (WC.region (WL.mv rfl rfl rfl rfl rfl ?_)))))))
 refine WL.call rfl rfl rfl (fun za zh zC => wp_call (by kernel_rfl) rfl (hv1 (zh.ev rfl))) (ppairs_any l _ a c hl hlz) ?_
 rintro _ w1 ⟨⟨bsp, rap, rcp, ep, rfl, hPp, hRp, hlep, hcmp, h96p⟩, hbnp⟩
 refine WL.mv rfl rfl rfl rfl rfl ?_
 refine WL.val (.slice rap bsp.length rcp) rfl rfl rfl (fun za zC zh zk => ext2_0 rfl (zh.ev rfl) zk) ?_
 refine WL.val (.int .i64 ep) rfl rfl rfl (fun za zC zh zk => ext2_1 rfl (zh.ev rfl) zk) ?_
 refine WL.asg rfl rfl rfl rfl rfl (WL.asg rfl rfl rfl rfl rfl (WL.nil (WE.next (WC.seq (WC.region (WL.mv rfl rfl rfl rfl rfl ?_))))))
 refine WL.call rfl rfl rfl (fun za zh zC => wp_call (by kernel_rfl) rfl (hv1 (zh.ev rfl))) (rpairs_any l _ a c (hl.below hbnp) hlz hsz) ?_
 rintro _ w2 ⟨⟨bsr, rar, rcr, er, rfl, hPr, hRr, hler, hcmr, h96r⟩, hbnr⟩
 refine WL.mv rfl rfl rfl rfl rfl ?_
 refine WL.val (.slice rar bsr.length rcr) rfl rfl rfl (fun za zC zh zk => ext2_0 rfl (zh.ev rfl) zk) ?_
 refine WL.val (.int .i64 er) rfl rfl rfl (fun za zC zh zk => ext2_1 rfl (zh.ev rfl) zk) ?_
 refine WL.asg rfl rfl rfl rfl rfl (WL.asg rfl rfl rfl rfl rfl (WL.nil (WE.next (WC.seq (WC.seq ?_)))))
 refine WC.opt [(true, .val (.int .i64 ep)), (true, .val (.int .i64 er)), (true, .val (.bool (((ep : Int) != (er : Int))))), (true, .val (.bool (((ep : Int) != (er : Int))))), ((true && !((ep : Int) != (er : Int))), .val (.slice rap bsp.length rcp)), ((true && !((ep : Int) != (er : Int))), .val (.slice rar bsr.length rcr)), ((true && !((ep : Int) != (er : Int))), .val (.bool ((subSame bsp bsr)))), ((true && !((ep : Int) != (er : Int))), .val (.bool ((!(subSame bsp bsr))))), (true, .val (.bool ((((ep : Int) != (er : Int)) || (!(subSame bsp bsr))))))] [(0, .slice a l.length c), (2, .bool false), (3, .slice rap bsp.length rcp), (4, .int .i64 ep), (5, .slice rar bsr.length rcr), (6, .int .i64 er)] ⟨rfl, rfl, rfl, rfl, rfl, rfl, trivial⟩ (by kernel_rfl) (by kernel_rfl) (by kernel_rfl) ?_ ?_
 ·refine ⟨⟨true, .none rfl, fun h w => optUndef h, fun zβ za zw zc => ?_⟩, ?_⟩
  ·exact wp_move rfl (zc.kn.ev rfl) ⟨_, rfl, Below.refl _ _, optDef zβ rfl⟩
  refine ⟨⟨true, .none rfl, fun h w => optUndef h, fun zβ za zw zc => ?_⟩, ?_⟩
  ·exact wp_move rfl (zc.kn.ev rfl) ⟨_, rfl, Below.refl _ _, optDef zβ rfl⟩
  refine ⟨⟨true, .none rfl, fun h w => optUndef h, fun zβ za zw zc => ?_⟩, ?_⟩
  ·exact neq_25 rfl ((evt za 18).trans (optVal (zc.dep 0 18 (by kernel_rfl)) rfl rfl)) ((evt za 19).trans (optVal (zc.dep 1 19 (by kernel_rfl)) rfl rfl)) ⟨_, rfl, Below.refl _ _, optDef zβ rfl⟩
  refine ⟨⟨true, .none rfl, fun h w => optUndef h, fun zβ za zw zc => ?_⟩, ?_⟩
  ·exact wp_move rfl ((evt za 20).trans (optVal (zc.dep 2 20 (by kernel_rfl)) rfl rfl)) ⟨_, rfl, Below.refl _ _, optDef zβ rfl⟩
  refine ⟨⟨_, .no (c := ((ep : Int) != (er : Int))) (d := true) rfl (fun v w h => h), fun h w => optUndef h, fun zβ za zw zc => ?_⟩, ?_⟩
  ·exact wp_move rfl (zc.kn.ev rfl) ⟨_, rfl, Below.refl _ _, optDef zβ rfl⟩
  refine ⟨⟨_, .no (c := ((ep : Int) != (er : Int))) (d := true) rfl (fun v w h => h), fun h w => optUndef h, fun zβ za zw zc => ?_⟩, ?_⟩
  ·exact wp_move rfl (zc.kn.ev rfl) ⟨_, rfl, Below.refl _ _, optDef zβ rfl⟩
  refine ⟨⟨_, .no (c := ((ep : Int) != (er : Int))) (d := true) rfl (fun v w h => h), fun h w => optUndef h, fun zβ za zw zc => ?_⟩, ?_⟩
  ·exact wp_call (by kernel_rfl) rfl (hv2 ((evt za 22).trans (optVal (zc.dep 4 22 (by kernel_rfl)) rfl zβ)) ((evt za 23).trans (optVal (zc.dep 5 23 (by kernel_rfl)) rfl zβ))) (rsubSame_any bsp bsr _ rap rar rcp rcr (by unfold maxLen; omega) (InRow.mono (by decide) (fun _ _ _ => trivial) (InRow.below hRp (bstep hbnr zc.below))) (InRow.mono (by decide) (fun _ _ _ => trivial) (InRow.below hRr zc.below))) (fun v w' h => ⟨v, rfl, h.2, optDef zβ h.1⟩)
  refine ⟨⟨_, .no (c := ((ep : Int) != (er : Int))) (d := true) rfl (fun v w h => h), fun h w => optUndef h, fun zβ za zw zc => ?_⟩, ?_⟩
  ·exact wp_not rfl ((evt za 24).trans (optVal (zc.dep 6 24 (by kernel_rfl)) rfl zβ)) ⟨_, rfl, Below.refl _ _, optDef zβ rfl⟩
  refine ⟨⟨true, .none rfl, fun h w => optUndef h, fun zβ za zw zc => ?_⟩, ?_⟩
  ·exact wp_or rfl ((evt za 21).trans (optVal (zc.dep 3 21 (by kernel_rfl)) rfl rfl)) (fun hp => ((evt za 25).trans (optVal (zc.dep 7 25 (by kernel_rfl)) rfl (bMkN zβ hp)))) ⟨_, rfl, Below.refl _ _, optDef zβ rfl⟩
  exact trivial
 ·intro za w3 zh hb4 zu
  have zh := zh.cons (d := 26) (v := .bool ((((ep : Int) != (er : Int)) || (!(subSame bsp bsr))))) (optVal (zu 8 26 (by kernel_rfl)) rfl rfl)
  clear zu
  refine WE.go zh ?_
  refine WE.next ?_
  refine WC.cond rfl (fun h5 => ?_) (fun h5 => ?_)
  ·have h5 : ((ep : Int) ≠ (er : Int)) ∨ (¬ ((subSame bsp bsr) = true)) := by simpa using h5
   obtain ⟨e1, e2⟩ := hPp.det hPr
   have hss : subSame bsp bsr = true := by unfold subSame; exact decide_eq_true e1
   exact absurd h5 (by rw [e2, hss]; simp)
  ·have h5 : ¬ (((ep : Int) ≠ (er : Int)) ∨ (¬ ((subSame bsp bsr) = true))) := by simpa using h5
   obtain ⟨e1, e2⟩ := hPp.det hPr
   have hss : subSame bsp bsr = true := by unfold subSame; exact decide_eq_true e1
   refine WC.skip (WE.next (WC.seq (WC.seq (WC.region (WL.mv rfl rfl rfl rfl rfl ?_)))))
   refine WL.val (.int .i64 (((l.length : Nat) : Int))) rfl rfl rfl (fun za zC zh zk => len_22 rfl (zh.ev rfl) zk) ?_
   refine WL.mv rfl rfl rfl rfl rfl (WL.nil (WE.next (WC.block ?_)))
   obtain ⟨e1, e2⟩ := hPp.det hPr
   refine WC.loop (X := Nat) (fun k => l.length - k) (fun k => [(0, .slice a l.length c), (26, .bool ((((ep : Int) != (er : Int)) || (!(subSame bsp bsr))))), (28, .int .i64 (((l.length : Nat) : Int))), (29, .int .i64 (((k : Nat) : Int)))]) (fun k w6 => k ≤ l.length ∧ Below w.heap.size w w6) 0 ⟨rfl, rfl, rfl, rfl, trivial⟩ ?_ ?_
   ·have hb7 : Below w.heap.size w w3 := (bstep (bstep hbnp hbnr) hb4)
    exact ⟨Nat.zero_le _, hb7⟩
   ·rintro k w6 ⟨hk9, hb8⟩
    refine WC.seq (WC.region ?_)
    refine WL.val (.bool ((decide ((((k : Nat) : Int) : Int) < (((l.length : Nat) : Int) : Int))))) rfl rfl rfl (fun za zC zh zk => lss_3 rfl (zh.ev rfl) (zh.ev rfl) zk) ?_
    refine WL.nil (WE.next (WC.seq ?_))
    refine WC.cond rfl (fun h9 => ?_) (fun h9 => ?_)
    ·have h9 : (((k : Nat) : Int) : Int) < (((l.length : Nat) : Int) : Int) := by simpa using h9
     refine WC.skip (WE.next (WC.seq (WC.block (WC.seq (WC.region (WL.mv rfl rfl rfl rfl rfl (WL.asg rfl rfl rfl rfl rfl (WL.nil (WE.next (WC.seq (WC.seq (WC.region (WL.mv rfl rfl rfl rfl rfl ?_)))))))))))))
     refine WL.val (.bool ((decide ((10 : Int) ≤ (((k : Nat) : Int) : Int))))) rfl rfl rfl (fun za zC zh zk => geq_3 rfl (zh.ev rfl) (zh.ev rfl) zk) ?_
     refine WL.nil (WE.next ?_)
     refine WC.cond rfl (fun h10 => ?_) (fun h10 => ?_)
     ·have h10 : (10 : Int) ≤ (((k : Nat) : Int) : Int) := by simpa using h10
      refine WC.exit (WE.thenExit (WE.blockNot rfl (WE.thenExit (WE.thenExit (WE.blockIs rfl (WE.next (WC.seq (WC.region ?_))))))))
      refine WL.call rfl rfl rfl (fun za zh zC => wp_call (by kernel_rfl) rfl (hv0)) (wakes_any _) ?_
      rintro _ w12 ⟨rfl, hq11⟩
      refine WL.asg rfl rfl rfl rfl rfl (WL.nil (WE.next (WC.ret (WE.ret1 rfl rfl ?_))))
      have hb13 : Below w.heap.size w w12 := (bstep hb8 hq11)
      exact ⟨_, rfl, rfl, hb13⟩
     ·have h10 : ¬ ((10 : Int) ≤ (((k : Nat) : Int) : Int)) := by simpa using h10
      refine WC.skip (WE.next (WC.seq ?_))
      have hkl : k < l.length := by omega
      obtain ⟨b14, o15, A16, C17, D18, E19, ha20, hc21⟩ := IsPs.open hl
      refine WC.callx (X := List Bd × Option Addr × Nat × Int) (fun x p => match p with | 0 => .tuple #[.slice x.2.1 x.1.length x.2.2.1, .int .i64 x.2.2.2] | 1 => .tuple #[.slice x.2.1 x.1.length x.2.2.1, .int .i64 x.2.2.2] | 2 => .slice x.2.1 x.1.length x.2.2.1 | 3 => .int .i64 x.2.2.2 | 4 => .slice x.2.1 x.1.length x.2.2.1 | _ => .int .i64 x.2.2.2) (fun x w => PairsIs true [((prget l k).1, (prget l k).2)] x.1 x.2.2.2 ∧ InRow eltB (fun _ => True) w x.1 x.2.1 ∧ x.1.length ≤ 96) ((fun x w w2 hb h => ⟨h.1, InRow.below h.2.1 hb, h.2.2⟩)) [(true, .slice a l.length c), (true, .int .i64 (((k : Nat) : Int))), (true, .pointer (some ⟨b14, o15 + k * 4, none⟩)), (true, .pointer (some ⟨b14, o15 + k * 4, none⟩)), (true, .agg #[.int .i64 ((prget l k).1.f), .slice ((A16 k)) ((prget l k).1.args.length) ((C17 k))]), (true, .slice a l.length c), (true, .int .i64 (((k : Nat) : Int))), (true, .pointer (some ⟨b14, o15 + k * 4, none⟩)), (true, .pointer (some ⟨b14, o15 + k * 4 + 2, none⟩)), (true, .agg #[.int .i64 ((prget l k).2.f), .slice ((D18 k)) ((prget l k).2.args.length) ((E19 k))]), (true, undef), (true, undef), (true, undef), (true, undef), (true, undef), (true, undef)] [(0, .slice a l.length c), (7, .int .i64 (((k : Nat) : Int))), (26, .bool ((((ep : Int) != (er : Int)) || (!(subSame bsp bsr))))), (28, .int .i64 (((l.length : Nat) : Int))), (29, .int .i64 (((k : Nat) : Int))), (30, .bool ((decide ((((k : Nat) : Int) : Int) < (((l.length : Nat) : Int) : Int))))), (33, .bool ((decide ((10 : Int) ≤ (((k : Nat) : Int) : Int)))))] [10, 11, 12, 13, 14, 15] (by decide) (by decide) (by kernel_rfl) ⟨rfl, rfl, rfl, rfl, rfl, rfl, rfl, trivial⟩ (by kernel_rfl) (by kernel_rfl) (by kernel_rfl) ?_ ?_
      ·refine ⟨.inl ⟨rfl, rfl, fun za zw zc => ?_⟩, ?_⟩
       ·exact wp_move rfl (zc.kn.ev rfl) ⟨_, rfl, Below.refl _ _, fun _ => rfl⟩
       refine ⟨.inl ⟨rfl, rfl, fun za zw zc => ?_⟩, ?_⟩
       ·exact wp_move rfl (zc.kn.ev rfl) ⟨_, rfl, Below.refl _ _, fun _ => rfl⟩
       refine ⟨.inl ⟨rfl, rfl, fun za zw zc => ?_⟩, ?_⟩
       ·exact ix_22 (k := k) rfl ((evt za 35).trans (valVal1 (zc.dep 0 35 (by kernel_rfl) (by decide)) rfl rfl)) (ha20 k (by first | omega | (simp; omega))) ((evt za 36).trans (valVal1 (zc.dep 1 36 (by kernel_rfl) (by decide)) rfl rfl)) (by first | omega | (simp; omega)) ⟨_, rfl, Below.refl _ _, fun _ => rfl⟩
       refine ⟨.inl ⟨rfl, rfl, fun za zw zc => ?_⟩, ?_⟩
       ·exact ixa_33 (k := 0) rfl ((evt za 37).trans (valVal1 (zc.dep 2 37 (by kernel_rfl) (by decide)) rfl rfl)) (zc.kn.ev rfl) (by decide) ⟨_, rfl, Below.refl _ _, fun _ => rfl⟩
       refine ⟨.inl ⟨rfl, rfl, fun za zw zc => ?_⟩, ?_⟩
       ·exact ld_32 rfl ((evt za 38).trans (valVal1 (zc.dep 3 38 (by kernel_rfl) (by decide)) rfl rfl)) (bkeeps (bstep hb8 zc.below) _ _ (hc21 k (by first | omega | (simp; omega))).1) (bkeeps (bstep hb8 zc.below) _ _ (hc21 k (by first | omega | (simp; omega))).2.1) ⟨_, rfl, Below.refl _ _, fun _ => rfl⟩
       refine ⟨.inl ⟨rfl, rfl, fun za zw zc => ?_⟩, ?_⟩
       ·exact wp_move rfl (zc.kn.ev rfl) ⟨_, rfl, Below.refl _ _, fun _ => rfl⟩
       refine ⟨.inl ⟨rfl, rfl, fun za zw zc => ?_⟩, ?_⟩
       ·exact wp_move rfl (zc.kn.ev rfl) ⟨_, rfl, Below.refl _ _, fun _ => rfl⟩
       refine ⟨.inl ⟨rfl, rfl, fun za zw zc => ?_⟩, ?_⟩
       ·exact ix_22 (k := k) rfl ((evt za 40).trans (valVal1 (zc.dep 5 40 (by kernel_rfl) (by decide)) rfl rfl)) (ha20 k (by first | omega | (simp; omega))) ((evt za 41).trans (valVal1 (zc.dep 6 41 (by kernel_rfl) (by decide)) rfl rfl)) (by first | omega | (simp; omega)) ⟨_, rfl, Below.refl _ _, fun _ => rfl⟩
       refine ⟨.inl ⟨rfl, rfl, fun za zw zc => ?_⟩, ?_⟩
       ·exact ixa_33 (k := 1) rfl ((evt za 42).trans (valVal1 (zc.dep 7 42 (by kernel_rfl) (by decide)) rfl rfl)) (zc.kn.ev rfl) (by decide) ⟨_, rfl, Below.refl _ _, fun _ => rfl⟩
       refine ⟨.inl ⟨rfl, rfl, fun za zw zc => ?_⟩, ?_⟩
       ·exact ld_32 rfl ((evt za 43).trans (valVal1 (zc.dep 8 43 (by kernel_rfl) (by decide)) rfl rfl)) (bkeeps (bstep hb8 zc.below) _ _ (hc21 k (by first | omega | (simp; omega))).2.2.1) (bkeeps (bstep hb8 zc.below) _ _ (hc21 k (by first | omega | (simp; omega))).2.2.2.1) ⟨_, rfl, Below.refl _ _, fun _ => rfl⟩
       refine ⟨.inr (.inl ⟨rfl, rfl, by kernel_rfl, fun za zw zc => ?_⟩), ?_⟩
       ·exact wp_call (by kernel_rfl) rfl (hv2 ((evt za 39).trans (valVal1 (zc.dep 4 39 (by kernel_rfl) (by decide)) rfl rfl)) ((evt za 44).trans (valVal1 (zc.dep 9 44 (by kernel_rfl) (by decide)) rfl rfl))) (pterms_any (prget l k).1 (prget l k).2 _ _ _ (IsT.below (bstep hb8 zc.below) (hc21 k (by first | omega | (simp; omega))).2.2.2.2.1) (IsT.below (bstep hb8 zc.below) (hc21 k (by first | omega | (simp; omega))).2.2.2.2.2)) (fun v w' h => by
         obtain ⟨⟨bs, a', c', e, e0, h1, h2, h3, h4, h5⟩, hb⟩ := h
         exact ⟨(bs, a', c', e), by subst e0; rfl, hb, h1, h2.mono (by decide) (fun _ _ _ => trivial), h5⟩)
       refine ⟨.inr (.inr ⟨1, 0, 10, 45, rfl, rfl, rfl, by kernel_rfl, fun za zw x z1 => ?_⟩), ?_⟩
       ·exact wp_move rfl ((evt za 45).trans z1) ⟨rfl, rfl⟩
       refine ⟨.inr (.inr ⟨2, 1, 11, 34, rfl, rfl, rfl, by kernel_rfl, fun za zw x z1 => ?_⟩), ?_⟩
       ·exact ext2_0 rfl ((evt za 34).trans z1) ⟨rfl, rfl⟩
       refine ⟨.inr (.inr ⟨3, 1, 11, 34, rfl, rfl, rfl, by kernel_rfl, fun za zw x z1 => ?_⟩), ?_⟩
       ·exact ext2_1 rfl ((evt za 34).trans z1) ⟨rfl, rfl⟩
       refine ⟨.inr (.inr ⟨4, 2, 12, 46, rfl, rfl, rfl, by kernel_rfl, fun za zw x z1 => ?_⟩), ?_⟩
       ·exact wp_assign rfl ((evt za 46).trans z1) ⟨rfl, rfl⟩
       refine ⟨.inr (.inr ⟨5, 3, 13, 47, rfl, rfl, rfl, by kernel_rfl, fun za zw x z1 => ?_⟩), ?_⟩
       ·exact wp_assign rfl ((evt za 47).trans z1) ⟨rfl, rfl⟩
       exact trivial
      ·rintro za w22 ⟨bs25, ra26, rc27, e28⟩ zh hb23 hP24 zw zu
       have zh := zh.cons (d := 3) (v := .slice ra26 bs25.length rc27) (zw 4 14 3 rfl (by kernel_rfl))
       have zh := zh.cons (d := 4) (v := .int .i64 e28) (zw 5 15 4 rfl (by kernel_rfl))
       clear zu zw
       obtain ⟨hPu, hRu, hlu⟩ := hP24
       have hPu : PairsIs true [((prget l k).1, (prget l k).2)] bs25 e28 := hPu
       have hlu : bs25.length ≤ 96 := hlu
       refine WE.go zh ?_
       refine WE.next (WC.seq ?_)
       have hkl : k < l.length := by omega
       have hb29 : Below w.heap.size w w22 := (bstep hb8 hb23)
       refine WC.callx (X := List Bd × Option Addr × Nat × Int) (fun x p => match p with | 0 => .tuple #[.slice x.2.1 x.1.length x.2.2.1, .int .i64 x.2.2.2] | 1 => .tuple #[.slice x.2.1 x.1.length x.2.2.1, .int .i64 x.2.2.2] | 2 => .slice x.2.1 x.1.length x.2.2.1 | 3 => .int .i64 x.2.2.2 | 4 => .slice x.2.1 x.1.length x.2.2.1 | _ => .int .i64 x.2.2.2) (fun x w => PairsIs false [((prget l k).1, (prget l k).2)] x.1 x.2.2.2 ∧ InRow eltB (fun _ => True) w x.1 x.2.1 ∧ x.1.length ≤ 96) ((fun x w w2 hb h => ⟨h.1, InRow.below h.2.1 hb, h.2.2⟩)) [(true, .slice a l.length c), (true, .int .i64 (((k : Nat) : Int))), (true, .pointer (some ⟨b14, o15 + k * 4, none⟩)), (true, .pointer (some ⟨b14, o15 + k * 4, none⟩)), (true, .agg #[.int .i64 ((prget l k).1.f), .slice ((A16 k)) ((prget l k).1.args.length) ((C17 k))]), (true, .slice a l.length c), (true, .int .i64 (((k : Nat) : Int))), (true, .pointer (some ⟨b14, o15 + k * 4, none⟩)), (true, .pointer (some ⟨b14, o15 + k * 4 + 2, none⟩)), (true, .agg #[.int .i64 ((prget l k).2.f), .slice ((D18 k)) ((prget l k).2.args.length) ((E19 k))]), (true, undef), (true, undef), (true, undef), (true, undef), (true, undef), (true, undef)] [(0, .slice a l.length c), (3, .slice ra26 bs25.length rc27), (4, .int .i64 e28), (7, .int .i64 (((k : Nat) : Int))), (26, .bool ((((ep : Int) != (er : Int)) || (!(subSame bsp bsr))))), (28, .int .i64 (((l.length : Nat) : Int))), (29, .int .i64 (((k : Nat) : Int))), (30, .bool ((decide ((((k : Nat) : Int) : Int) < (((l.length : Nat) : Int) : Int))))), (33, .bool ((decide ((10 : Int) ≤ (((k : Nat) : Int) : Int)))))] [10, 11, 12, 13, 14, 15] (by decide) (by decide) (by kernel_rfl) ⟨rfl, rfl, rfl, rfl, rfl, rfl, rfl, rfl, rfl, trivial⟩ (by kernel_rfl) (by kernel_rfl) (by kernel_rfl) ?_ ?_
       ·refine ⟨.inl ⟨rfl, rfl, fun za zw zc => ?_⟩, ?_⟩
        ·exact wp_move rfl (zc.kn.ev rfl) ⟨_, rfl, Below.refl _ _, fun _ => rfl⟩
        refine ⟨.inl ⟨rfl, rfl, fun za zw zc => ?_⟩, ?_⟩
        ·exact wp_move rfl (zc.kn.ev rfl) ⟨_, rfl, Below.refl _ _, fun _ => rfl⟩
        refine ⟨.inl ⟨rfl, rfl, fun za zw zc => ?_⟩, ?_⟩
        ·exact ix_22 (k := k) rfl ((evt za 49).trans (valVal1 (zc.dep 0 49 (by kernel_rfl) (by decide)) rfl rfl)) (ha20 k (by first | omega | (simp; omega))) ((evt za 50).trans (valVal1 (zc.dep 1 50 (by kernel_rfl) (by decide)) rfl rfl)) (by first | omega | (simp; omega)) ⟨_, rfl, Below.refl _ _, fun _ => rfl⟩
        refine ⟨.inl ⟨rfl, rfl, fun za zw zc => ?_⟩, ?_⟩
        ·exact ixa_33 (k := 0) rfl ((evt za 51).trans (valVal1 (zc.dep 2 51 (by kernel_rfl) (by decide)) rfl rfl)) (zc.kn.ev rfl) (by decide) ⟨_, rfl, Below.refl _ _, fun _ => rfl⟩
        refine ⟨.inl ⟨rfl, rfl, fun za zw zc => ?_⟩, ?_⟩
        ·exact ld_32 rfl ((evt za 52).trans (valVal1 (zc.dep 3 52 (by kernel_rfl) (by decide)) rfl rfl)) (bkeeps (bstep hb29 zc.below) _ _ (hc21 k (by first | omega | (simp; omega))).1) (bkeeps (bstep hb29 zc.below) _ _ (hc21 k (by first | omega | (simp; omega))).2.1) ⟨_, rfl, Below.refl _ _, fun _ => rfl⟩
        refine ⟨.inl ⟨rfl, rfl, fun za zw zc => ?_⟩, ?_⟩
        ·exact wp_move rfl (zc.kn.ev rfl) ⟨_, rfl, Below.refl _ _, fun _ => rfl⟩
        refine ⟨.inl ⟨rfl, rfl, fun za zw zc => ?_⟩, ?_⟩
        ·exact wp_move rfl (zc.kn.ev rfl) ⟨_, rfl, Below.refl _ _, fun _ => rfl⟩
        refine ⟨.inl ⟨rfl, rfl, fun za zw zc => ?_⟩, ?_⟩
        ·exact ix_22 (k := k) rfl ((evt za 54).trans (valVal1 (zc.dep 5 54 (by kernel_rfl) (by decide)) rfl rfl)) (ha20 k (by first | omega | (simp; omega))) ((evt za 55).trans (valVal1 (zc.dep 6 55 (by kernel_rfl) (by decide)) rfl rfl)) (by first | omega | (simp; omega)) ⟨_, rfl, Below.refl _ _, fun _ => rfl⟩
        refine ⟨.inl ⟨rfl, rfl, fun za zw zc => ?_⟩, ?_⟩
        ·exact ixa_33 (k := 1) rfl ((evt za 56).trans (valVal1 (zc.dep 7 56 (by kernel_rfl) (by decide)) rfl rfl)) (zc.kn.ev rfl) (by decide) ⟨_, rfl, Below.refl _ _, fun _ => rfl⟩
        refine ⟨.inl ⟨rfl, rfl, fun za zw zc => ?_⟩, ?_⟩
        ·exact ld_32 rfl ((evt za 57).trans (valVal1 (zc.dep 8 57 (by kernel_rfl) (by decide)) rfl rfl)) (bkeeps (bstep hb29 zc.below) _ _ (hc21 k (by first | omega | (simp; omega))).2.2.1) (bkeeps (bstep hb29 zc.below) _ _ (hc21 k (by first | omega | (simp; omega))).2.2.2.1) ⟨_, rfl, Below.refl _ _, fun _ => rfl⟩
        refine ⟨.inr (.inl ⟨rfl, rfl, by kernel_rfl, fun za zw zc => ?_⟩), ?_⟩
        ·exact wp_call (by kernel_rfl) rfl (hv2 ((evt za 53).trans (valVal1 (zc.dep 4 53 (by kernel_rfl) (by decide)) rfl rfl)) ((evt za 58).trans (valVal1 (zc.dep 9 58 (by kernel_rfl) (by decide)) rfl rfl))) (rterms_any (prget l k).1 (prget l k).2 _ _ _ (IsT.below (bstep hb29 zc.below) (hc21 k (by first | omega | (simp; omega))).2.2.2.2.1) (IsT.below (bstep hb29 zc.below) (hc21 k (by first | omega | (simp; omega))).2.2.2.2.2) (hsz k hkl).1 (hsz k hkl).2) (fun v w' h => by
          obtain ⟨⟨bs, a', c', e, e0, h1, h2, h3, h4, h5⟩, hb⟩ := h
          exact ⟨(bs, a', c', e), by subst e0; rfl, hb, h1, h2.mono (by decide) (fun _ _ _ => trivial), h5⟩)
        refine ⟨.inr (.inr ⟨1, 0, 10, 59, rfl, rfl, rfl, by kernel_rfl, fun za zw x z1 => ?_⟩), ?_⟩
        ·exact wp_move rfl ((evt za 59).trans z1) ⟨rfl, rfl⟩
        refine ⟨.inr (.inr ⟨2, 1, 11, 48, rfl, rfl, rfl, by kernel_rfl, fun za zw x z1 => ?_⟩), ?_⟩
        ·exact ext2_0 rfl ((evt za 48).trans z1) ⟨rfl, rfl⟩
        refine ⟨.inr (.inr ⟨3, 1, 11, 48, rfl, rfl, rfl, by kernel_rfl, fun za zw x z1 => ?_⟩), ?_⟩
        ·exact ext2_1 rfl ((evt za 48).trans z1) ⟨rfl, rfl⟩
        refine ⟨.inr (.inr ⟨4, 2, 12, 60, rfl, rfl, rfl, by kernel_rfl, fun za zw x z1 => ?_⟩), ?_⟩
        ·exact wp_assign rfl ((evt za 60).trans z1) ⟨rfl, rfl⟩
        refine ⟨.inr (.inr ⟨5, 3, 13, 61, rfl, rfl, rfl, by kernel_rfl, fun za zw x z1 => ?_⟩), ?_⟩
        ·exact wp_assign rfl ((evt za 61).trans z1) ⟨rfl, rfl⟩
        exact trivial
       ·rintro za w30 ⟨bs33, ra34, rc35, e36⟩ zh hb31 hP32 zw zu
        have zh := zh.cons (d := 5) (v := .slice ra34 bs33.length rc35) (zw 4 14 5 rfl (by kernel_rfl))
        have zh := zh.cons (d := 6) (v := .int .i64 e36) (zw 5 15 6 rfl (by kernel_rfl))
        clear zu zw
        obtain ⟨hPv, hRv, hlv⟩ := hP32
        have hPv : PairsIs false [((prget l k).1, (prget l k).2)] bs33 e36 := hPv
        have hlv : bs33.length ≤ 96 := hlv
        refine WE.go zh ?_
        refine WE.next (WC.seq ?_)
        obtain ⟨e1, e2⟩ := hPu.det hPv
        have hss : subSame bs25 bs33 = true := by unfold subSame; exact decide_eq_true e1
        have hb37 : Below w.heap.size w w30 := (bstep hb29 hb31)
        refine WC.opt [(true, .val (.int .i64 e28)), (true, .val (.int .i64 e36)), (true, .val (.bool (((e28 : Int) != (e36 : Int))))), (true, .val (.bool (((e28 : Int) != (e36 : Int))))), ((true && !((e28 : Int) != (e36 : Int))), .val (.slice ra26 bs25.length rc27)), ((true && !((e28 : Int) != (e36 : Int))), .val (.slice ra34 bs33.length rc35)), ((true && !((e28 : Int) != (e36 : Int))), .val (.bool ((subSame bs25 bs33)))), ((true && !((e28 : Int) != (e36 : Int))), .val (.bool ((!(subSame bs25 bs33))))), (true, .val (.bool ((((e28 : Int) != (e36 : Int)) || (!(subSame bs25 bs33)))))), (true, .val (.bool ((((e28 : Int) != (e36 : Int)) || (!(subSame bs25 bs33)))))), ((true && !(((e28 : Int) != (e36 : Int)) || (!(subSame bs25 bs33)))), .val (.slice a l.length c)), ((true && !(((e28 : Int) != (e36 : Int)) || (!(subSame bs25 bs33)))), .val (.int .i64 (((k : Nat) : Int)))), ((true && !(((e28 : Int) != (e36 : Int)) || (!(subSame bs25 bs33)))), .val (.pointer (some ⟨b14, o15 + k * 4, none⟩))), ((true && !(((e28 : Int) != (e36 : Int)) || (!(subSame bs25 bs33)))), .val (.pointer (some ⟨b14, o15 + k * 4, none⟩))), ((true && !(((e28 : Int) != (e36 : Int)) || (!(subSame bs25 bs33)))), .val (.agg #[.int .i64 ((prget l k).1.f), .slice ((A16 k)) ((prget l k).1.args.length) ((C17 k))])), ((true && !(((e28 : Int) != (e36 : Int)) || (!(subSame bs25 bs33)))), .val (.slice a l.length c)), ((true && !(((e28 : Int) != (e36 : Int)) || (!(subSame bs25 bs33)))), .val (.int .i64 (((k : Nat) : Int)))), ((true && !(((e28 : Int) != (e36 : Int)) || (!(subSame bs25 bs33)))), .val (.pointer (some ⟨b14, o15 + k * 4, none⟩))), ((true && !(((e28 : Int) != (e36 : Int)) || (!(subSame bs25 bs33)))), .val (.pointer (some ⟨b14, o15 + k * 4 + 2, none⟩))), ((true && !(((e28 : Int) != (e36 : Int)) || (!(subSame bs25 bs33)))), .val (.agg #[.int .i64 ((prget l k).2.f), .slice ((D18 k)) ((prget l k).2.args.length) ((E19 k))])), ((true && !(((e28 : Int) != (e36 : Int)) || (!(subSame bs25 bs33)))), .mem (fun v w => ∃ b, v = .bool b ∧ CanIs true [((prget l k).1, (prget l k).2)] b) (fun v w w' hb h => h)), ((true && !(((e28 : Int) != (e36 : Int)) || (!(subSame bs25 bs33)))), .val (.slice a l.length c)), ((true && !(((e28 : Int) != (e36 : Int)) || (!(subSame bs25 bs33)))), .val (.int .i64 (((k : Nat) : Int)))), ((true && !(((e28 : Int) != (e36 : Int)) || (!(subSame bs25 bs33)))), .val (.pointer (some ⟨b14, o15 + k * 4, none⟩))), ((true && !(((e28 : Int) != (e36 : Int)) || (!(subSame bs25 bs33)))), .val (.pointer (some ⟨b14, o15 + k * 4, none⟩))), ((true && !(((e28 : Int) != (e36 : Int)) || (!(subSame bs25 bs33)))), .val (.agg #[.int .i64 ((prget l k).1.f), .slice ((A16 k)) ((prget l k).1.args.length) ((C17 k))])), ((true && !(((e28 : Int) != (e36 : Int)) || (!(subSame bs25 bs33)))), .val (.slice a l.length c)), ((true && !(((e28 : Int) != (e36 : Int)) || (!(subSame bs25 bs33)))), .val (.int .i64 (((k : Nat) : Int)))), ((true && !(((e28 : Int) != (e36 : Int)) || (!(subSame bs25 bs33)))), .val (.pointer (some ⟨b14, o15 + k * 4, none⟩))), ((true && !(((e28 : Int) != (e36 : Int)) || (!(subSame bs25 bs33)))), .val (.pointer (some ⟨b14, o15 + k * 4 + 2, none⟩))), ((true && !(((e28 : Int) != (e36 : Int)) || (!(subSame bs25 bs33)))), .val (.agg #[.int .i64 ((prget l k).2.f), .slice ((D18 k)) ((prget l k).2.args.length) ((E19 k))])), ((true && !(((e28 : Int) != (e36 : Int)) || (!(subSame bs25 bs33)))), .mem (fun v w => ∃ b, v = .bool b ∧ CanIs false [((prget l k).1, (prget l k).2)] b) (fun v w w' hb h => h)), ((true && !(((e28 : Int) != (e36 : Int)) || (!(subSame bs25 bs33)))), .val (.bool false)), (true, .val (.bool (((((e28 : Int) != (e36 : Int)) || (!(subSame bs25 bs33))) || false))))] [(0, .slice a l.length c), (3, .slice ra26 bs25.length rc27), (4, .int .i64 e28), (5, .slice ra34 bs33.length rc35), (6, .int .i64 e36), (7, .int .i64 (((k : Nat) : Int))), (26, .bool ((((ep : Int) != (er : Int)) || (!(subSame bsp bsr))))), (28, .int .i64 (((l.length : Nat) : Int))), (29, .int .i64 (((k : Nat) : Int))), (30, .bool ((decide ((((k : Nat) : Int) : Int) < (((l.length : Nat) : Int) : Int))))), (33, .bool ((decide ((10 : Int) ≤ (((k : Nat) : Int) : Int)))))] ⟨rfl, rfl, rfl, rfl, rfl, rfl, rfl, rfl, rfl, rfl, rfl, trivial⟩ (by kernel_rfl) (by kernel_rfl) (by kernel_rfl) ?_ ?_
        ·refine ⟨⟨true, .none rfl, fun h w => optUndef h, fun zβ za zw zc => ?_⟩, ?_⟩
         ·exact wp_move rfl (zc.kn.ev rfl) ⟨_, rfl, Below.refl _ _, optDef zβ rfl⟩
         refine ⟨⟨true, .none rfl, fun h w => optUndef h, fun zβ za zw zc => ?_⟩, ?_⟩
         ·exact wp_move rfl (zc.kn.ev rfl) ⟨_, rfl, Below.refl _ _, optDef zβ rfl⟩
         refine ⟨⟨true, .none rfl, fun h w => optUndef h, fun zβ za zw zc => ?_⟩, ?_⟩
         ·exact neq_25 rfl ((evt za 62).trans (optVal (zc.dep 0 62 (by kernel_rfl)) rfl rfl)) ((evt za 63).trans (optVal (zc.dep 1 63 (by kernel_rfl)) rfl rfl)) ⟨_, rfl, Below.refl _ _, optDef zβ rfl⟩
         refine ⟨⟨true, .none rfl, fun h w => optUndef h, fun zβ za zw zc => ?_⟩, ?_⟩
         ·exact wp_move rfl ((evt za 64).trans (optVal (zc.dep 2 64 (by kernel_rfl)) rfl rfl)) ⟨_, rfl, Below.refl _ _, optDef zβ rfl⟩
         refine ⟨⟨_, .no (c := ((e28 : Int) != (e36 : Int))) (d := true) rfl (fun v w h => h), fun h w => optUndef h, fun zβ za zw zc => ?_⟩, ?_⟩
         ·exact wp_move rfl (zc.kn.ev rfl) ⟨_, rfl, Below.refl _ _, optDef zβ rfl⟩
         refine ⟨⟨_, .no (c := ((e28 : Int) != (e36 : Int))) (d := true) rfl (fun v w h => h), fun h w => optUndef h, fun zβ za zw zc => ?_⟩, ?_⟩
         ·exact wp_move rfl (zc.kn.ev rfl) ⟨_, rfl, Below.refl _ _, optDef zβ rfl⟩
         refine ⟨⟨_, .no (c := ((e28 : Int) != (e36 : Int))) (d := true) rfl (fun v w h => h), fun h w => optUndef h, fun zβ za zw zc => ?_⟩, ?_⟩
         ·exact wp_call (by kernel_rfl) rfl (hv2 ((evt za 66).trans (optVal (zc.dep 4 66 (by kernel_rfl)) rfl zβ)) ((evt za 67).trans (optVal (zc.dep 5 67 (by kernel_rfl)) rfl zβ))) (rsubSame_any bs25 bs33 _ ra26 ra34 rc27 rc35 (by unfold maxLen; omega) (InRow.mono (by decide) (fun _ _ _ => trivial) (InRow.below hRu (bstep hb31 zc.below))) (InRow.mono (by decide) (fun _ _ _ => trivial) (InRow.below hRv zc.below))) (fun v w' h => ⟨v, rfl, h.2, optDef zβ h.1⟩)
         refine ⟨⟨_, .no (c := ((e28 : Int) != (e36 : Int))) (d := true) rfl (fun v w h => h), fun h w => optUndef h, fun zβ za zw zc => ?_⟩, ?_⟩
         ·exact wp_not rfl ((evt za 68).trans (optVal (zc.dep 6 68 (by kernel_rfl)) rfl zβ)) ⟨_, rfl, Below.refl _ _, optDef zβ rfl⟩
         refine ⟨⟨true, .none rfl, fun h w => optUndef h, fun zβ za zw zc => ?_⟩, ?_⟩
         ·exact wp_or rfl ((evt za 65).trans (optVal (zc.dep 3 65 (by kernel_rfl)) rfl rfl)) (fun hp => ((evt za 69).trans (optVal (zc.dep 7 69 (by kernel_rfl)) rfl (bMkN zβ hp)))) ⟨_, rfl, Below.refl _ _, optDef zβ rfl⟩
         refine ⟨⟨true, .none rfl, fun h w => optUndef h, fun zβ za zw zc => ?_⟩, ?_⟩
         ·exact wp_move rfl ((evt za 70).trans (optVal (zc.dep 8 70 (by kernel_rfl)) rfl rfl)) ⟨_, rfl, Below.refl _ _, optDef zβ rfl⟩
         refine ⟨⟨_, .no (c := (((e28 : Int) != (e36 : Int)) || (!(subSame bs25 bs33)))) (d := true) rfl (fun v w h => h), fun h w => optUndef h, fun zβ za zw zc => ?_⟩, ?_⟩
         ·exact wp_move rfl (zc.kn.ev rfl) ⟨_, rfl, Below.refl _ _, optDef zβ rfl⟩
         refine ⟨⟨_, .no (c := (((e28 : Int) != (e36 : Int)) || (!(subSame bs25 bs33)))) (d := true) rfl (fun v w h => h), fun h w => optUndef h, fun zβ za zw zc => ?_⟩, ?_⟩
         ·exact wp_move rfl (zc.kn.ev rfl) ⟨_, rfl, Below.refl _ _, optDef zβ rfl⟩
         refine ⟨⟨_, .no (c := (((e28 : Int) != (e36 : Int)) || (!(subSame bs25 bs33)))) (d := true) rfl (fun v w h => h), fun h w => optUndef h, fun zβ za zw zc => ?_⟩, ?_⟩
         ·exact ix_22 (k := k) rfl ((evt za 72).trans (optVal (zc.dep 10 72 (by kernel_rfl)) rfl zβ)) (ha20 k (by first | omega | (have zz := zβ; simp only [Bool.and_eq_true, Bool.or_eq_true, Bool.true_and, Bool.not_eq_true', Bool.or_eq_false_iff, Bool.and_eq_false_iff, beq_eq_false_iff_ne, ne_eq, beq_iff_eq, decide_eq_true_eq, decide_eq_false_iff_not, bne_iff_ne, bne_eq_false_iff_eq] at zz; omega))) ((evt za 73).trans (optVal (zc.dep 11 73 (by kernel_rfl)) rfl zβ)) (by first | omega | (have zz := zβ; simp only [Bool.and_eq_true, Bool.or_eq_true, Bool.true_and, Bool.not_eq_true', Bool.or_eq_false_iff, Bool.and_eq_false_iff, beq_eq_false_iff_ne, ne_eq, beq_iff_eq, decide_eq_true_eq, decide_eq_false_iff_not, bne_iff_ne, bne_eq_false_iff_eq] at zz; omega)) ⟨_, rfl, Below.refl _ _, optDef zβ rfl⟩
         refine ⟨⟨_, .no (c := (((e28 : Int) != (e36 : Int)) || (!(subSame bs25 bs33)))) (d := true) rfl (fun v w h => h), fun h w => optUndef h, fun zβ za zw zc => ?_⟩, ?_⟩
         ·exact ixa_33 (k := 0) rfl ((evt za 74).trans (optVal (zc.dep 12 74 (by kernel_rfl)) rfl zβ)) (zc.kn.ev rfl) (by decide) ⟨_, rfl, Below.refl _ _, optDef zβ rfl⟩
         refine ⟨⟨_, .no (c := (((e28 : Int) != (e36 : Int)) || (!(subSame bs25 bs33)))) (d := true) rfl (fun v w h => h), fun h w => optUndef h, fun zβ za zw zc => ?_⟩, ?_⟩
         ·exact ld_32 rfl ((evt za 75).trans (optVal (zc.dep 13 75 (by kernel_rfl)) rfl zβ)) (bkeeps (bstep hb37 zc.below) _ _ (hc21 k (by first | omega | (have zz := zβ; simp only [Bool.and_eq_true, Bool.or_eq_true, Bool.true_and, Bool.not_eq_true', Bool.or_eq_false_iff, Bool.and_eq_false_iff, beq_eq_false_iff_ne, ne_eq, beq_iff_eq, decide_eq_true_eq, decide_eq_false_iff_not, bne_iff_ne, bne_eq_false_iff_eq] at zz; omega))).1) (bkeeps (bstep hb37 zc.below) _ _ (hc21 k (by first | omega | (have zz := zβ; simp only [Bool.and_eq_true, Bool.or_eq_true, Bool.true_and, Bool.not_eq_true', Bool.or_eq_false_iff, Bool.and_eq_false_iff, beq_eq_false_iff_ne, ne_eq, beq_iff_eq, decide_eq_true_eq, decide_eq_false_iff_not, bne_iff_ne, bne_eq_false_iff_eq] at zz; omega))).2.1) ⟨_, rfl, Below.refl _ _, optDef zβ rfl⟩
         refine ⟨⟨_, .no (c := (((e28 : Int) != (e36 : Int)) || (!(subSame bs25 bs33)))) (d := true) rfl (fun v w h => h), fun h w => optUndef h, fun zβ za zw zc => ?_⟩, ?_⟩
         ·exact wp_move rfl (zc.kn.ev rfl) ⟨_, rfl, Below.refl _ _, optDef zβ rfl⟩
         refine ⟨⟨_, .no (c := (((e28 : Int) != (e36 : Int)) || (!(subSame bs25 bs33)))) (d := true) rfl (fun v w h => h), fun h w => optUndef h, fun zβ za zw zc => ?_⟩, ?_⟩
         ·exact wp_move rfl (zc.kn.ev rfl) ⟨_, rfl, Below.refl _ _, optDef zβ rfl⟩
         refine ⟨⟨_, .no (c := (((e28 : Int) != (e36 : Int)) || (!(subSame bs25 bs33)))) (d := true) rfl (fun v w h => h), fun h w => optUndef h, fun zβ za zw zc => ?_⟩, ?_⟩
         ·exact ix_22 (k := k) rfl ((evt za 77).trans (optVal (zc.dep 15 77 (by kernel_rfl)) rfl zβ)) (ha20 k (by first | omega | (have zz := zβ; simp only [Bool.and_eq_true, Bool.or_eq_true, Bool.true_and, Bool.not_eq_true', Bool.or_eq_false_iff, Bool.and_eq_false_iff, beq_eq_false_iff_ne, ne_eq, beq_iff_eq, decide_eq_true_eq, decide_eq_false_iff_not, bne_iff_ne, bne_eq_false_iff_eq] at zz; omega))) ((evt za 78).trans (optVal (zc.dep 16 78 (by kernel_rfl)) rfl zβ)) (by first | omega | (have zz := zβ; simp only [Bool.and_eq_true, Bool.or_eq_true, Bool.true_and, Bool.not_eq_true', Bool.or_eq_false_iff, Bool.and_eq_false_iff, beq_eq_false_iff_ne, ne_eq, beq_iff_eq, decide_eq_true_eq, decide_eq_false_iff_not, bne_iff_ne, bne_eq_false_iff_eq] at zz; omega)) ⟨_, rfl, Below.refl _ _, optDef zβ rfl⟩
         refine ⟨⟨_, .no (c := (((e28 : Int) != (e36 : Int)) || (!(subSame bs25 bs33)))) (d := true) rfl (fun v w h => h), fun h w => optUndef h, fun zβ za zw zc => ?_⟩, ?_⟩
         ·exact ixa_33 (k := 1) rfl ((evt za 79).trans (optVal (zc.dep 17 79 (by kernel_rfl)) rfl zβ)) (zc.kn.ev rfl) (by decide) ⟨_, rfl, Below.refl _ _, optDef zβ rfl⟩
         refine ⟨⟨_, .no (c := (((e28 : Int) != (e36 : Int)) || (!(subSame bs25 bs33)))) (d := true) rfl (fun v w h => h), fun h w => optUndef h, fun zβ za zw zc => ?_⟩, ?_⟩
         ·exact ld_32 rfl ((evt za 80).trans (optVal (zc.dep 18 80 (by kernel_rfl)) rfl zβ)) (bkeeps (bstep hb37 zc.below) _ _ (hc21 k (by first | omega | (have zz := zβ; simp only [Bool.and_eq_true, Bool.or_eq_true, Bool.true_and, Bool.not_eq_true', Bool.or_eq_false_iff, Bool.and_eq_false_iff, beq_eq_false_iff_ne, ne_eq, beq_iff_eq, decide_eq_true_eq, decide_eq_false_iff_not, bne_iff_ne, bne_eq_false_iff_eq] at zz; omega))).2.2.1) (bkeeps (bstep hb37 zc.below) _ _ (hc21 k (by first | omega | (have zz := zβ; simp only [Bool.and_eq_true, Bool.or_eq_true, Bool.true_and, Bool.not_eq_true', Bool.or_eq_false_iff, Bool.and_eq_false_iff, beq_eq_false_iff_ne, ne_eq, beq_iff_eq, decide_eq_true_eq, decide_eq_false_iff_not, bne_iff_ne, bne_eq_false_iff_eq] at zz; omega))).2.2.2.1) ⟨_, rfl, Below.refl _ _, optDef zβ rfl⟩
         refine ⟨⟨_, .no (c := (((e28 : Int) != (e36 : Int)) || (!(subSame bs25 bs33)))) (d := true) rfl (fun v w h => h), fun h w => optUndef h, fun zβ za zw zc => ?_⟩, ?_⟩
         ·exact wp_call (by kernel_rfl) rfl (hv2 ((evt za 76).trans (optVal (zc.dep 14 76 (by kernel_rfl)) rfl zβ)) ((evt za 81).trans (optVal (zc.dep 19 81 (by kernel_rfl)) rfl zβ))) (pcan_any (prget l k).1 (prget l k).2 _ _ _ (IsT.below (bstep hb37 zc.below) (hc21 k (by first | omega | (have zz := zβ; simp only [Bool.and_eq_true, Bool.or_eq_true, Bool.true_and, Bool.not_eq_true', Bool.or_eq_false_iff, Bool.and_eq_false_iff, beq_eq_false_iff_ne, ne_eq, beq_iff_eq, decide_eq_true_eq, decide_eq_false_iff_not, bne_iff_ne, bne_eq_false_iff_eq] at zz; omega))).2.2.2.2.1) (IsT.below (bstep hb37 zc.below) (hc21 k (by first | omega | (have zz := zβ; simp only [Bool.and_eq_true, Bool.or_eq_true, Bool.true_and, Bool.not_eq_true', Bool.or_eq_false_iff, Bool.and_eq_false_iff, beq_eq_false_iff_ne, ne_eq, beq_iff_eq, decide_eq_true_eq, decide_eq_false_iff_not, bne_iff_ne, bne_eq_false_iff_eq] at zz; omega))).2.2.2.2.2)) (fun v w' h => ⟨v, rfl, h.2, optDef zβ h.1⟩)
         refine ⟨⟨_, .no (c := (((e28 : Int) != (e36 : Int)) || (!(subSame bs25 bs33)))) (d := true) rfl (fun v w h => h), fun h w => optUndef h, fun zβ za zw zc => ?_⟩, ?_⟩
         ·exact wp_move rfl (zc.kn.ev rfl) ⟨_, rfl, Below.refl _ _, optDef zβ rfl⟩
         refine ⟨⟨_, .no (c := (((e28 : Int) != (e36 : Int)) || (!(subSame bs25 bs33)))) (d := true) rfl (fun v w h => h), fun h w => optUndef h, fun zβ za zw zc => ?_⟩, ?_⟩
         ·exact wp_move rfl (zc.kn.ev rfl) ⟨_, rfl, Below.refl _ _, optDef zβ rfl⟩
         refine ⟨⟨_, .no (c := (((e28 : Int) != (e36 : Int)) || (!(subSame bs25 bs33)))) (d := true) rfl (fun v w h => h), fun h w => optUndef h, fun zβ za zw zc => ?_⟩, ?_⟩
         ·exact ix_22 (k := k) rfl ((evt za 83).trans (optVal (zc.dep 21 83 (by kernel_rfl)) rfl zβ)) (ha20 k (by first | omega | (have zz := zβ; simp only [Bool.and_eq_true, Bool.or_eq_true, Bool.true_and, Bool.not_eq_true', Bool.or_eq_false_iff, Bool.and_eq_false_iff, beq_eq_false_iff_ne, ne_eq, beq_iff_eq, decide_eq_true_eq, decide_eq_false_iff_not, bne_iff_ne, bne_eq_false_iff_eq] at zz; omega))) ((evt za 84).trans (optVal (zc.dep 22 84 (by kernel_rfl)) rfl zβ)) (by first | omega | (have zz := zβ; simp only [Bool.and_eq_true, Bool.or_eq_true, Bool.true_and, Bool.not_eq_true', Bool.or_eq_false_iff, Bool.and_eq_false_iff, beq_eq_false_iff_ne, ne_eq, beq_iff_eq, decide_eq_true_eq, decide_eq_false_iff_not, bne_iff_ne, bne_eq_false_iff_eq] at zz; omega)) ⟨_, rfl, Below.refl _ _, optDef zβ rfl⟩
         refine ⟨⟨_, .no (c := (((e28 : Int) != (e36 : Int)) || (!(subSame bs25 bs33)))) (d := true) rfl (fun v w h => h), fun h w => optUndef h, fun zβ za zw zc => ?_⟩, ?_⟩
         ·exact ixa_33 (k := 0) rfl ((evt za 85).trans (optVal (zc.dep 23 85 (by kernel_rfl)) rfl zβ)) (zc.kn.ev rfl) (by decide) ⟨_, rfl, Below.refl _ _, optDef zβ rfl⟩
         refine ⟨⟨_, .no (c := (((e28 : Int) != (e36 : Int)) || (!(subSame bs25 bs33)))) (d := true) rfl (fun v w h => h), fun h w => optUndef h, fun zβ za zw zc => ?_⟩, ?_⟩
         ·exact ld_32 rfl ((evt za 86).trans (optVal (zc.dep 24 86 (by kernel_rfl)) rfl zβ)) (bkeeps (bstep hb37 zc.below) _ _ (hc21 k (by first | omega | (have zz := zβ; simp only [Bool.and_eq_true, Bool.or_eq_true, Bool.true_and, Bool.not_eq_true', Bool.or_eq_false_iff, Bool.and_eq_false_iff, beq_eq_false_iff_ne, ne_eq, beq_iff_eq, decide_eq_true_eq, decide_eq_false_iff_not, bne_iff_ne, bne_eq_false_iff_eq] at zz; omega))).1) (bkeeps (bstep hb37 zc.below) _ _ (hc21 k (by first | omega | (have zz := zβ; simp only [Bool.and_eq_true, Bool.or_eq_true, Bool.true_and, Bool.not_eq_true', Bool.or_eq_false_iff, Bool.and_eq_false_iff, beq_eq_false_iff_ne, ne_eq, beq_iff_eq, decide_eq_true_eq, decide_eq_false_iff_not, bne_iff_ne, bne_eq_false_iff_eq] at zz; omega))).2.1) ⟨_, rfl, Below.refl _ _, optDef zβ rfl⟩
         refine ⟨⟨_, .no (c := (((e28 : Int) != (e36 : Int)) || (!(subSame bs25 bs33)))) (d := true) rfl (fun v w h => h), fun h w => optUndef h, fun zβ za zw zc => ?_⟩, ?_⟩
         ·exact wp_move rfl (zc.kn.ev rfl) ⟨_, rfl, Below.refl _ _, optDef zβ rfl⟩
         refine ⟨⟨_, .no (c := (((e28 : Int) != (e36 : Int)) || (!(subSame bs25 bs33)))) (d := true) rfl (fun v w h => h), fun h w => optUndef h, fun zβ za zw zc => ?_⟩, ?_⟩
         ·exact wp_move rfl (zc.kn.ev rfl) ⟨_, rfl, Below.refl _ _, optDef zβ rfl⟩
         refine ⟨⟨_, .no (c := (((e28 : Int) != (e36 : Int)) || (!(subSame bs25 bs33)))) (d := true) rfl (fun v w h => h), fun h w => optUndef h, fun zβ za zw zc => ?_⟩, ?_⟩
         ·exact ix_22 (k := k) rfl ((evt za 88).trans (optVal (zc.dep 26 88 (by kernel_rfl)) rfl zβ)) (ha20 k (by first | omega | (have zz := zβ; simp only [Bool.and_eq_true, Bool.or_eq_true, Bool.true_and, Bool.not_eq_true', Bool.or_eq_false_iff, Bool.and_eq_false_iff, beq_eq_false_iff_ne, ne_eq, beq_iff_eq, decide_eq_true_eq, decide_eq_false_iff_not, bne_iff_ne, bne_eq_false_iff_eq] at zz; omega))) ((evt za 89).trans (optVal (zc.dep 27 89 (by kernel_rfl)) rfl zβ)) (by first | omega | (have zz := zβ; simp only [Bool.and_eq_true, Bool.or_eq_true, Bool.true_and, Bool.not_eq_true', Bool.or_eq_false_iff, Bool.and_eq_false_iff, beq_eq_false_iff_ne, ne_eq, beq_iff_eq, decide_eq_true_eq, decide_eq_false_iff_not, bne_iff_ne, bne_eq_false_iff_eq] at zz; omega)) ⟨_, rfl, Below.refl _ _, optDef zβ rfl⟩
         refine ⟨⟨_, .no (c := (((e28 : Int) != (e36 : Int)) || (!(subSame bs25 bs33)))) (d := true) rfl (fun v w h => h), fun h w => optUndef h, fun zβ za zw zc => ?_⟩, ?_⟩
         ·exact ixa_33 (k := 1) rfl ((evt za 90).trans (optVal (zc.dep 28 90 (by kernel_rfl)) rfl zβ)) (zc.kn.ev rfl) (by decide) ⟨_, rfl, Below.refl _ _, optDef zβ rfl⟩
         refine ⟨⟨_, .no (c := (((e28 : Int) != (e36 : Int)) || (!(subSame bs25 bs33)))) (d := true) rfl (fun v w h => h), fun h w => optUndef h, fun zβ za zw zc => ?_⟩, ?_⟩
         ·exact ld_32 rfl ((evt za 91).trans (optVal (zc.dep 29 91 (by kernel_rfl)) rfl zβ)) (bkeeps (bstep hb37 zc.below) _ _ (hc21 k (by first | omega | (have zz := zβ; simp only [Bool.and_eq_true, Bool.or_eq_true, Bool.true_and, Bool.not_eq_true', Bool.or_eq_false_iff, Bool.and_eq_false_iff, beq_eq_false_iff_ne, ne_eq, beq_iff_eq, decide_eq_true_eq, decide_eq_false_iff_not, bne_iff_ne, bne_eq_false_iff_eq] at zz; omega))).2.2.1) (bkeeps (bstep hb37 zc.below) _ _ (hc21 k (by first | omega | (have zz := zβ; simp only [Bool.and_eq_true, Bool.or_eq_true, Bool.true_and, Bool.not_eq_true', Bool.or_eq_false_iff, Bool.and_eq_false_iff, beq_eq_false_iff_ne, ne_eq, beq_iff_eq, decide_eq_true_eq, decide_eq_false_iff_not, bne_iff_ne, bne_eq_false_iff_eq] at zz; omega))).2.2.2.1) ⟨_, rfl, Below.refl _ _, optDef zβ rfl⟩
         refine ⟨⟨_, .no (c := (((e28 : Int) != (e36 : Int)) || (!(subSame bs25 bs33)))) (d := true) rfl (fun v w h => h), fun h w => optUndef h, fun zβ za zw zc => ?_⟩, ?_⟩
         ·exact wp_call (by kernel_rfl) rfl (hv2 ((evt za 87).trans (optVal (zc.dep 25 87 (by kernel_rfl)) rfl zβ)) ((evt za 92).trans (optVal (zc.dep 30 92 (by kernel_rfl)) rfl zβ))) (rcan_any (prget l k).1 (prget l k).2 _ _ _ (IsT.below (bstep hb37 zc.below) (hc21 k (by first | omega | (have zz := zβ; simp only [Bool.and_eq_true, Bool.or_eq_true, Bool.true_and, Bool.not_eq_true', Bool.or_eq_false_iff, Bool.and_eq_false_iff, beq_eq_false_iff_ne, ne_eq, beq_iff_eq, decide_eq_true_eq, decide_eq_false_iff_not, bne_iff_ne, bne_eq_false_iff_eq] at zz; omega))).2.2.2.2.1) (IsT.below (bstep hb37 zc.below) (hc21 k (by first | omega | (have zz := zβ; simp only [Bool.and_eq_true, Bool.or_eq_true, Bool.true_and, Bool.not_eq_true', Bool.or_eq_false_iff, Bool.and_eq_false_iff, beq_eq_false_iff_ne, ne_eq, beq_iff_eq, decide_eq_true_eq, decide_eq_false_iff_not, bne_iff_ne, bne_eq_false_iff_eq] at zz; omega))).2.2.2.2.2) (hsz k hkl).1 (hsz k hkl).2) (fun v w' h => ⟨v, rfl, h.2, optDef zβ h.1⟩)
         refine ⟨⟨_, .no (c := (((e28 : Int) != (e36 : Int)) || (!(subSame bs25 bs33)))) (d := true) rfl (fun v w h => h), fun h w => optUndef h, fun zβ za zw zc => ?_⟩, ?_⟩
         ·obtain ⟨b1, e1, h1⟩ := (optMem (zc.dep 20 82 (by kernel_rfl)) rfl zβ)
          obtain ⟨b2, e2, h2⟩ := (optMem (zc.dep 31 93 (by kernel_rfl)) rfl zβ)
          exact neq_4 rfl (((evt za 82)).trans e1) (((evt za 93)).trans e2) ⟨_, rfl, Below.refl _ _, optDef zβ (congrArg Value.bool (by rw [h1.det h2]; simp))⟩
         refine ⟨⟨true, .none rfl, fun h w => optUndef h, fun zβ za zw zc => ?_⟩, ?_⟩
         ·exact wp_or rfl ((evt za 71).trans (optVal (zc.dep 9 71 (by kernel_rfl)) rfl rfl)) (fun hp => ((evt za 94).trans (optVal (zc.dep 32 94 (by kernel_rfl)) rfl (bMkN zβ hp)))) ⟨_, rfl, Below.refl _ _, optDef zβ rfl⟩
         exact trivial
        ·intro za w38 zh hb39 zu
         have zh := zh.cons (d := 95) (v := .bool (((((e28 : Int) != (e36 : Int)) || (!(subSame bs25 bs33))) || false))) (optVal (zu 33 95 (by kernel_rfl)) rfl rfl)
         clear zu
         refine WE.go zh ?_
         refine WE.next ?_
         refine WC.cond rfl (fun h40 => ?_) (fun h40 => ?_)
         ·have h40 : (((e28 : Int) ≠ (e36 : Int)) ∨ (¬ ((subSame bs25 bs33) = true))) ∨ (false = true) := by simpa using h40
          exact absurd h40 (by rw [e2, hss]; simp)
         ·have h40 : ¬ ((((e28 : Int) ≠ (e36 : Int)) ∨ (¬ ((subSame bs25 bs33) = true))) ∨ (false = true)) := by simpa using h40
          refine WC.skip (WE.blockNormal (WE.next (WC.region ?_)))
          refine WL.val (.int .i64 ((((k + 1) : Nat) : Int))) rfl rfl rfl (fun za zC zh zk => addb_3 rfl (zh.ev rfl) (zh.ev rfl) (wrap_eq (by omega) (by omega) (by omega)) zk) ?_
          refine WL.mv rfl rfl rfl rfl rfl ?_
          refine WL.nil (WE.sub (K' := [(0, .slice a l.length c), (3, .slice ra26 bs25.length rc27), (4, .int .i64 e28), (5, .slice ra34 bs33.length rc35), (6, .int .i64 e36), (7, .int .i64 (((k : Nat) : Int))), (26, .bool ((((ep : Int) != (er : Int)) || (!(subSame bsp bsr))))), (28, .int .i64 (((l.length : Nat) : Int))), (29, .int .i64 ((((k + 1) : Nat) : Int))), (30, .bool ((decide ((((k : Nat) : Int) : Int) < (((l.length : Nat) : Int) : Int))))), (33, .bool ((decide ((10 : Int) ≤ (((k : Nat) : Int) : Int))))), (95, .bool (((((e28 : Int) != (e36 : Int)) || (!(subSame bs25 bs33))) || false)))]) ⟨rfl, rfl, rfl, rfl, rfl, rfl, rfl, rfl, rfl, rfl, rfl, rfl, trivial⟩ ?_)
          refine WE.round (k + 1) ⟨rfl, rfl, rfl, rfl, trivial⟩ ?_ ?_
          ·have hb41 : Below w.heap.size w w38 := (bstep hb37 hb39)
           exact ⟨by omega, hb41⟩
          ·(try dsimp only); omega
    ·have h9 : ¬ ((((k : Nat) : Int) : Int) < (((l.length : Nat) : Int) : Int)) := by simpa using h9
     refine WC.exit (WE.thenExit (WE.thenExit (WE.blockIs rfl (WE.next (WC.seq (WC.region ?_))))))
     refine WL.call rfl rfl rfl (fun za zh zC => wp_call (by kernel_rfl) rfl (hv0)) (wakes_any _) ?_
     rintro _ w43 ⟨rfl, hq42⟩
     refine WL.asg rfl rfl rfl rfl rfl (WL.nil (WE.next (WC.ret (WE.ret1 rfl rfl ?_))))
     have hb44 : Below w.heap.size w w43 := (bstep hb8 hq42)
     exact ⟨_, rfl, rfl, hb44⟩
end Go.Proofs.Ythhgidliopohcaa

/- Rows of things of several cells, how they lie in memory. -/
namespace Go.Proofs.Ythhgidliopohcaa
open Go.RowKit
/-- The row at 'a' holds the things 'l', 'k' cells each. -/
def IsRow {α : Type} (w : World) (k : Nat) (R : World → α → List Value → Prop) (l : List α) (a : Option Addr) : Prop :=
  ∀ i (hi : i < l.length), ∃ (b o : Nat) (cs : List Value), a = some ⟨b, o, none⟩ ∧ cs.length = k ∧ (∀ j, j < k → w.cell? ⟨b, o + i * k + j, none⟩ = cs[j]?) ∧ R w l[i] cs
theorem IsRow.keep {α : Type} {w w' : World} {k : Nat} {R : World → α → List Value → Prop} {l : List α} {a : Option Addr} (h : IsRow w k R l a) (hb : Below w.heap.size w w') (hR : ∀ x cs, R w x cs → R w' x cs) : IsRow w' k R l a := by
  intro i hi
  obtain ⟨b, o, cs, h1, h2, h3, h4⟩ := h i hi
  refine ⟨b, o, cs, h1, h2, fun j hj => ?_, hR _ _ h4⟩
  have := h3 j hj
  rw [List.getElem?_eq_getElem (by omega)] at this ⊢
  exact bkeeps hb _ _ this
section
variable {H : Type} {enc : TypeId × Value → H} {P : Program} {w : World} {base : Nat} {spare : Nat → Bool} {held : Bool}
/-- A slice opened: its things, one by one. -/
theorem open_row {α : Type} [Inhabited α] {t e : TypeId} {k : Nat} {fuel : Nat} {cs : List Value} {x : DataW H × List MemPlace} (ht : P.underlying t = some (.slice e)) (hC : P.cellsOf e = k) (hk : 0 < k)
    (h : DataW.trod enc P w base spare held fuel t cs = some x) {R : World → α → List Value → Prop} {S : α → DataW H → Prop}
    (hel : ∀ n cs x, DataW.trod enc P w base spare held n e cs = some x → ∃ a : α, R w a cs ∧ S a x.1) :
    ∃ (l : List α) (a : Option Addr) (cap : Nat) (ds sp : List (DataW H)), cs = [.slice a l.length cap] ∧ l.length ≤ cap ∧ cap ≤ maxLen ∧ IsRow w k R l a ∧ ds.length = l.length ∧ (x.1 = .nil ∧ l = [] ∧ ds = [] ∨ x.1 = .slice ds sp) ∧
      ∀ i (hi : i < l.length) (hd : i < ds.length), S l[i] ds[i] := by
  rcases DataW.trod_slice ht h with ⟨rfl, rfl⟩ | ⟨a, len, cap, elems, rest, m, rfl, rfl, rfl, hb, hlc, hcm, hlen, hat, _, _⟩
  · exact ⟨[], none, 0, [], [], rfl, Nat.le_refl _, Nat.zero_le _, fun i hi => absurd hi (by simp), rfl, .inl ⟨rfl, rfl, rfl⟩, fun i hi => absurd hi (by simp)⟩
  · have hspot : 0 < len → ∃ b o, a = ⟨b, o, none⟩ := by
      intro h0
      have hk := hat 0 h0
      rw [hC, List.getElem?_eq_getElem (by omega)] at hk
      obtain ⟨cs', h1, _⟩ := Option.bind_eq_some_iff.1 hk
      obtain ⟨_, hl', hcell⟩ := World.cells?_some h1
      have c0 := hcell 0 (by omega)
      rw [List.getElem?_eq_getElem (by omega)] at c0
      have := World.cell?_spot c0
      obtain ⟨b, o, spot⟩ := a
      exact ⟨b, o, by simpa [Addr.add] using this⟩
    have key : ∀ i, i < len → ∃ t : α, (∃ (b o : Nat) (cs : List Value), some a = some ⟨b, o, none⟩ ∧ cs.length = k ∧ (∀ j, j < k → w.cell? ⟨b, o + i * k + j, none⟩ = cs[j]?) ∧ R w t cs) ∧
        ∀ (hd : i < elems.length), S t elems[i].1 := by
      intro i hi
      have hk := hat i hi
      rw [hC, List.getElem?_eq_getElem (by omega)] at hk
      obtain ⟨cs', h1, h2⟩ := Option.bind_eq_some_iff.1 hk
      obtain ⟨t, hR, hS⟩ := hel _ _ _ h2
      obtain ⟨_, hl', hcell⟩ := World.cells?_some h1
      obtain ⟨b, o, rfl⟩ := hspot (by omega)
      refine ⟨t, ⟨b, o, cs', rfl, hl', fun j hj => ?_, hR⟩, fun _ => hS⟩
      have := hcell j hj
      rwa [add_plain2, add_plain2] at this
    obtain ⟨F, hF⟩ := Go.Deep.choose_lt key
    have hLL : ((List.range len).map F).length = len := by simp
    refine ⟨(List.range len).map F, some a, cap, elems.map (·.1), rest.map (·.1), by rw [hLL], by rw [hLL]; exact hlc, hcm, fun i hi => ?_, by rw [hLL]; simpa using hlen, .inr rfl, fun i hi hd => ?_⟩
    · have := (hF i (by simpa using hi)).1
      simpa using this
    · have := (hF i (by simpa using hi)).2 (by simpa using hd)
      simpa using this
end
end Go.Proofs.Ythhgidliopohcaa

/- What a law's statement asks behind its call, where the call answers true and leaves all that was there as it was. -/
namespace Go.Proofs.Ythhgidliopohcaa
open Go.ChangeShapes Go.WideShapes Go.ChangeAt Go.RowKit
section
variable {H : Type} {enc : TypeId × Value → H} {P : Program}
theorem trodAll_below (hl : laidOutB P = true) {W W' : World} (hb : Below W.heap.size W W') : ∀ {ts : List TypeId} {vs : List Value} {ds : List (DataW H)} {ps : List MemPlace},
    (∀ t ∈ ts, P.readableRec t = true ∧ t < P.types.size) → (∀ x ∈ ps, x.block < W.heap.size) → DataW.TrodAll enc P W 0 (fun _ => true) true ts vs ds ps →
    DataW.TrodAll enc P W' 0 (fun b => decide (b < W.heap.size)) true ts vs ds ps
  | [], [], [], _, _, _, h => h
  | t :: ts, v :: vs, d :: ds, ps, hr, hlt, ⟨p, q, h1, h2, e⟩ => by
    subst e
    exact ⟨p, q, Below.trod hl (hr t (by simp)).1 (hr t (by simp)).2 h1 hb (fun x hx => hlt x (by simp [hx])), trodAll_below hl hb (fun t ht => hr t (by simp [ht])) (fun x hx => hlt x (by simp [hx])) h2, rfl⟩
  | [], _ :: _, _, _, _, _, h => h.elim
  | [], [], _ :: _, _, _, _, h => h.elim
  | _ :: _, [], _, _, _, _, h => h.elim
  | _ :: _, _ :: _, [], _, _, _, h => h.elim
theorem law_post {f : Func} {s : ChangeSpec} {W W' : World} {args : Array Value} {ds gs : List (DataW H)} {before : List MemPlace} {tb : TypeId} (hl : laidOutB P = true) (hr : ∀ t ∈ f.params.toList, P.readableRec t = true ∧ t < P.types.size)
    (htb : P.underlying tb = some .bool) (hrt : f.resultTypes = #[tb]) (hv : s.vars = []) (hs : s.fn H ds = { results := [.lit (.bool true)], args := ds })
    (hW : DataW.Whole enc P f.params.toList s.vars false W args.toList ds gs before) (hb : Below W.heap.size W W') : s.post enc P f false true false false W args (.bool true) W' := by
  have hlt : ∀ p ∈ before, p.block < W.heap.size := fun p hp => hW.lt p hp
  have hW0 := hW
  obtain ⟨p, q, hA, hV, hpq, _, _⟩ := hW
  rw [hv] at hV
  obtain ⟨rfl, rfl⟩ := trodVars_none hV
  refine ⟨ds, [], before, [], p, [], hW0, ?_, ?_, ?_, hb.frame _, fun h => by cases h⟩
  · rw [List.append_nil, hs, hrt]
    exact trodAll_cons_mk (shut_bool htb _) trodAll_mk0
  · rw [List.append_nil, hs]
    refine trodAll_below hl hb hr (fun x hx => hlt x ?_) hA
    rw [hpq]; simp [hx]
  · rw [List.append_nil, hv]
    have : (s.fn H ds).vars = [] := by rw [hs]
    rw [this]
    rfl
end
end Go.Proofs.Ythhgidliopohcaa

/- Arguments of a law, opened: terms, integers, truth values; rows in general. -/
namespace Go.Proofs.Ythhgidliopohcaa
open Go.ChangeShapes Go.WideShapes Go.ChangeAt Go.RowKit
theorem own : ownKnob Try.prog.godebug = none := by kernel_rfl
theorem one_le_bulk {H : Type} (d : DataW H) : 1 ≤ Rows.uptoBulk d := by
  cases d with
  | lit l => cases l <;> simp [Rows.uptoBulk]
  | _ => simp [Rows.uptoBulk]
theorem len_le_bulk {H : Type} (ds : List (DataW H)) : ds.length ≤ Rows.uptoBulkAll ds := by
  induction ds with
  | nil => simp
  | cons d r ih => have := one_le_bulk d; simp only [List.length_cons, Rows.uptoBulkAll]; omega
theorem readable_all {P : Program} {ts : List TypeId} (h : (ts.all fun t => P.readableRec t && Nat.blt t P.types.size) = true) : ∀ t ∈ ts, P.readableRec t = true ∧ t < P.types.size := by
  intro t ht
  have := List.all_eq_true.1 h t ht
  simp only [Bool.and_eq_true, Nat.blt_eq] at this
  exact this
theorem bulk_mem {H : Type} {l : List (DataW H)} (hk : Rows.uptoSmall H l = true) {d : DataW H} (h : d ∈ l) : Rows.uptoBulk d ≤ 1048576 :=
  Nat.le_trans (bulkAll_le h) (of_decide_eq_true hk)
section
variable {H : Type} {enc : TypeId × Value → H} {w : World} {base : Nat} {spare : Nat → Bool} {held : Bool}
theorem bulk_at {H : Type} : ∀ {ds : List (DataW H)} {d : DataW H}, d ∈ ds → Rows.uptoBulk d ≤ Rows.uptoBulkAll ds
  | [], _, h => nomatch h
  | x :: r, d, h => by
    rw [Rows.uptoBulkAll]
    rcases List.mem_cons.1 h with rfl | h
    · omega
    · have := bulk_at h; omega
/-- A row that was opened, as the rows of elements have it. -/
theorem inRow_of {α : Type} {E : Elt α} {R : World → α → List Value → Prop} {l : List α} {a : Option Addr} (hR : ∀ x cs, R w x cs → E.In (fun _ => True) w x cs) (h : IsRow w E.k R l a) : InRow E (fun _ => True) w l a := fun i hi => by
  obtain ⟨b, o, cs, h1, _, h3, h4⟩ := h i hi
  exact ⟨b, o, cs, h1, trivial, hR _ _ h4, h3⟩
theorem IsT.inTrue {t : T} {v : Value} (h : IsT w t v) : InT (fun _ => True) w t v := InT.mono (fun _ _ _ => trivial) (IsT.inT h)
end
end Go.Proofs.Ythhgidliopohcaa

namespace Go.Proofs.Ythhgidliopohcaa
open Go.ChangeShapes Go.WideShapes Go.ChangeAt Go.RowKit
section
variable {H : Type} {enc : TypeId × Value → H} {w : World} {base : Nat} {spare : Nat → Bool} {held : Bool}
instance : Inhabited (T × T) := ⟨(.mk 0 [], .mk 0 [])⟩
def IsPrC (w : World) (x : T × T) (cs : List Value) : Prop := eltD.In (fun _ => True) w x cs
set_option maxRecDepth 100000 in
theorem open_Pr (fuel : Nat) (cs : List Value) (x : DataW H × List MemPlace) (h : DataW.trod enc Try.prog w base spare held fuel 33 cs = some x) :
    ∃ y : T × T, IsPrC w y cs ∧ y.1.size + y.2.size ≤ Rows.uptoBulk x.1 := by
  have hC : Try.prog.cellsOf 33 = 4 := by kernel_rfl
  have hC32 : Try.prog.cellsOf 32 = 2 := by kernel_rfl
  obtain ⟨xs, n, rfl, rfl, hl, hlen, hf⟩ := DataW.trod_array Try.underlying33 h
  rw [hC] at hl
  match xs, hlen, cs, hl with
  | [y0, y1], _, [c0, c1, c2, c3], _ =>
    have g0 : DataW.trod enc Try.prog w base spare held n 32 [c0, c1] = some y0 := by simpa [hC32] using hf 0 (by decide)
    have g1 : DataW.trod enc Try.prog w base spare held n 32 [c2, c3] = some y1 := by simpa [hC32] using hf 1 (by decide)
    obtain ⟨t1, u1, u2, e1, h1, s1⟩ := open_T _ _ _ g0
    obtain ⟨t2, u3, u4, e2, h2, s2⟩ := open_T _ _ _ g1
    simp only [List.cons.injEq, and_true] at e1 e2
    obtain ⟨rfl, rfl⟩ := e1
    obtain ⟨rfl, rfl⟩ := e2
    exact ⟨(t1, t2), ⟨_, _, _, _, rfl, h1.inTrue, h2.inTrue⟩, by simp only [List.map_cons, List.map_nil, Rows.uptoBulk, Rows.uptoBulkAll]; omega⟩
set_option maxRecDepth 100000 in
theorem arg_Ps {r : Reach} {b : Nat} {v : Value} {d : DataW H} {p : List MemPlace} (h : Value.okWide Try.prog w r b 22 v) (ht : DataW.Trod enc Try.prog w base spare held 22 v d p) (hk : Rows.uptoBulk d ≤ 1048576) :
    ∃ (l : List (T × T)) (a : Option Addr) (c : Nat), v = .slice a l.length c ∧ IsPs w l a c ∧ l.length ≤ 1048576 ∧ ∀ k, k < l.length → (prget l k).1.size ≤ 4294967296 ∧ (prget l k).2.size ≤ 4294967296 := by
  obtain ⟨a, n, c, rfl⟩ := okWide_slice Try.underlying22 h
  obtain ⟨fuel, hf⟩ := ht
  obtain ⟨l, a', c', ds, sp, e, h1, h2, h3, h4, h5, h6⟩ := open_row Try.underlying22 (k := 4) (by kernel_rfl) (by omega) hf (R := IsPrC) (S := fun y d => y.1.size + y.2.size ≤ Rows.uptoBulk d) (fun n cs x hx => open_Pr n cs x hx)
  have e' : Value.slice a n c = .slice a' l.length c' := by simpa [Value.cells] using e
  have hlen : l.length ≤ 1048576 := by
    rcases h5 with ⟨_, rfl, _⟩ | e
    · simp
    · have := len_le_bulk ds
      have e2 : d = .slice ds sp := e
      rw [e2] at hk; simp only [Rows.uptoBulk] at hk; omega
  refine ⟨l, a', c', e', ⟨inRow_of (E := eltD) (fun _ _ h => h) h3, h1, h2⟩, hlen, fun k hi => ?_⟩
  have hs := h6 k hi (by omega)
  rw [prget_lt hi]
  rcases h5 with ⟨_, rfl, _⟩ | e
  · simp at hi
  · have := bulk_at (List.getElem_mem (show k < ds.length by omega))
    have e2 : d = .slice ds sp := e
    rw [e2] at hk; simp only [Rows.uptoBulk] at hk; omega
end
end Go.Proofs.Ythhgidliopohcaa
