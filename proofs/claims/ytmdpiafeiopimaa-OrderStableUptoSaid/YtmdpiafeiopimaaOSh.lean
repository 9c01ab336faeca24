/- Operations, one law a kind and type. -/
import Derived.Test.YtmdpiafeiopimaaOSg
import Derived.Test.YtmdpiafeiopimaaOSa
import Derived.Test.YtmdpiafeiopimaaOSd
import Derived.WalkKit
import Derived.Test.YtmdpiafeiopimaaOSb

/- Multisets of rows of terms; how two literals stand. -/
namespace Go.Proofs.Ytmdpiafeiopimaa
open Go.RowKit Go
set_option linter.unusedVariables false
set_option linter.unusedSimpArgs false
/-- A row of terms that may be compared. -/
def SmallR (l : List T) : Prop := l.length ≤ 1048576 ∧ ∀ t ∈ l, t.size ≤ 4294967296
set_option maxRecDepth 100000 in
theorem lits1_any (o : Od) (go gy : Nat) (p1 p2 : Option Addr) (k1 k2 : Nat) (x y : List T) (w : World) (a1 a2 : Option Addr) (c1 c2 : Nat) (hB : Blk w go 27 #[.bool o.lpo, .slice p1 o.prec.length k1, .slice p2 o.weights.length k2, .int .i64 o.var]) (ho : IsOd w o (.agg #[.bool o.lpo, .slice p1 o.prec.length k1, .slice p2 o.weights.length k2, .int .i64 o.var])) (hy : Blk w gy 65 #[.func (.func 43) #[] #[.pointer (some ⟨go, 0, none⟩)]]) (h1 : IsTs w x a1 0) (h2 : IsTs w y a2 0) (z1 : SmallR x) (z2 : SmallR y) :
  Calls Try.prog 28 #[.slice a1 x.length c1, .slice a2 y.length c2, .pointer (some ⟨gy, 0, none⟩)] w (Ret fun v' w' => v' = .int .i64 (multiP o.ok2 x y) ∧ Below w.heap.size w w') := by
 refine Calls.walk (l := [.slice a1 x.length c1, .slice a2 y.length c2, .pointer (some ⟨gy, 0, none⟩)]) Try.func28 rfl (by kernel_rfl) ?_
 refine WC.sub (K' := [(0, .slice a1 x.length c1), (1, .slice a2 y.length c2), (2, .pointer (some ⟨gy, 0, none⟩))]) ⟨rfl, rfl, rfl, trivial⟩ ?_
 refine WC.seq (WC.region (WL.asg rfl rfl rfl rfl rfl (WL.nil (WE.next (WC.seq (WC.region (WL.mv rfl rfl rfl rfl rfl (WL.mv rfl rfl rfl rfl rfl ?_))))))))
 refine WL.val _ rfl rfl rfl (fun za zC zh zk => ld_65 rfl (zh.ev rfl) ((hy.cell 0).trans rfl) zk) ?_
 refine WL.call rfl rfl rfl (fun za zh zC => wp_call (by kernel_rfl) rfl (hv3 (zh.ev rfl) (zh.ev rfl) (zh.ev rfl))) (multiT_any o go p1 p2 k1 k2 x y _ _ _ _ _ (h1.below (Below.refl _ _)) (h2.below (Below.refl _ _)) (hB.below (Below.refl _ _)) (ho.below (Below.refl _ _)) z1.2 z2.2 z1.1 z2.1) ?_
 rintro _ w2 ⟨rfl, hq1⟩
 refine WL.asg rfl rfl rfl rfl rfl (WL.nil (WE.next (WC.ret (WE.ret1 rfl rfl ?_))))
 exact ⟨_, rfl, rfl, hq1⟩
set_option maxRecDepth 100000 in
theorem allR_any (o : Od) (go gy : Nat) (p1 p2 : Option Addr) (k1 k2 : Nat) (L R : List (List T)) (w0 w : World) (gb : Nat) (r1 r2 : Option Addr) (c1 c2 : Nat) (S1 S2 : Nat → Prop) (hL : PRow (AtR w0) w S1 r1 L.length L) (hR : PRow (AtR w0) w S2 r2 R.length R) (hz1 : ∀ x ∈ L, SmallR x) (hz2 : ∀ x ∈ R, SmallR x) (hl1 : L.length ≤ 1048576) (hl2 : R.length ≤ 1048576) (hw : Below w0.heap.size w0 w) (hB : Blk w0 go 27 #[.bool o.lpo, .slice p1 o.prec.length k1, .slice p2 o.weights.length k2, .int .i64 o.var]) (ho : IsOd w0 o (.agg #[.bool o.lpo, .slice p1 o.prec.length k1, .slice p2 o.weights.length k2, .int .i64 o.var])) (hy : Blk w0 gy 65 #[.func (.func 43) #[] #[.pointer (some ⟨go, 0, none⟩)]]) (hgb : Blk w gb 71 #[.func (.func 28) #[] #[.pointer (some ⟨gy, 0, none⟩)]]) :
  Calls Try.prog 45 #[.slice r1 L.length c1, .slice r2 R.length c2, .pointer (some ⟨gb, 0, none⟩)] w (Ret fun v' w' => v' = .bool (allAb (multiP o.ok2) L R) ∧ Below w.heap.size w w') := by
 refine Calls.walk (l := [.slice r1 L.length c1, .slice r2 R.length c2, .pointer (some ⟨gb, 0, none⟩)]) Try.func45 rfl (by kernel_rfl) ?_
 refine WC.sub (K' := [(0, .slice r1 L.length c1), (1, .slice r2 R.length c2), (2, .pointer (some ⟨gb, 0, none⟩))]) ⟨rfl, rfl, rfl, trivial⟩ ?_
 refine WC.seq (WC.region (WL.asg rfl rfl rfl rfl rfl (WL.nil (WE.next (WC.seq (WC.seq (WC.region (WL.mv rfl rfl rfl rfl rfl ?_))))))))
 refine WL.val (.int .i64 (((R.length : Nat) : Int))) rfl rfl rfl (fun za zC zh zk => len_80 rfl (zh.ev rfl) zk) ?_
 refine WL.mv rfl rfl rfl rfl rfl (WL.nil (WE.next (WC.block ?_)))
 refine WC.loop (X := Nat) (fun j => R.length - j) (fun j => [(0, .slice r1 L.length c1), (1, .slice r2 R.length c2), (2, .pointer (some ⟨gb, 0, none⟩)), (11, .slice r2 R.length c2), (12, .int .i64 (((R.length : Nat) : Int))), (13, .int .i64 (((j : Nat) : Int)))]) (fun j w1 => j ≤ R.length ∧ (∀ q, q < j → L.any (fun p => (multiP o.ok2) p (rget R q) == 3) = true) ∧ Below w.heap.size w w1 ∧ Blk w1 gb 71 #[.func (.func 28) #[] #[.pointer (some ⟨gy, 0, none⟩)]]) 0 ⟨rfl, rfl, rfl, rfl, rfl, rfl, trivial⟩ ?_ ?_
 ·exact ⟨Nat.zero_le _, fun q h => absurd h (Nat.not_lt_zero q), (Below.refl _ _), hgb⟩
 ·rintro j w1 ⟨hj, hE, hb2, hB3⟩
  refine WC.seq (WC.region ?_)
  refine WL.val (.bool ((decide ((((j : Nat) : Int) : Int) < (((R.length : Nat) : Int) : Int))))) rfl rfl rfl (fun za zC zh zk => lss_3 rfl (zh.ev rfl) (zh.ev rfl) zk) ?_
  refine WL.nil (WE.next (WC.seq ?_))
  refine WC.cond rfl (fun h4 => ?_) (fun h4 => ?_)
  ·have h4 : (((j : Nat) : Int) : Int) < (((R.length : Nat) : Int) : Int) := by simpa using h4
   refine WC.skip (WE.next (WC.seq (WC.block (WC.seq (WC.region ?_)))))
   obtain ⟨b5, o6, Bf7, Pf8, A9, C10, ha11, hc12⟩ := PRow.openR (hR.below hb2)
   refine WL.val _ rfl rfl rfl (fun za zC zh zk => ix_80 (k := j) rfl (zh.ev rfl) (ha11 j (by first | omega | (simp; omega))) (zh.ev rfl) (by first | omega | (simp; omega)) zk) ?_
   refine WL.val _ rfl rfl rfl (fun za zC zh zk => ld_81 rfl (zh.ev rfl) (hc12 j (by first | omega | (simp; omega))).1 zk) ?_
   refine WL.asg rfl rfl rfl rfl rfl (WL.nil (WE.next (WC.seq (WC.region (WL.asg rfl rfl rfl rfl rfl (WL.nil (WE.next (WC.seq (WC.seq (WC.region (WL.mv rfl rfl rfl rfl rfl ?_)))))))))))
   refine WL.val (.int .i64 (((L.length : Nat) : Int))) rfl rfl rfl (fun za zC zh zk => len_80 rfl (zh.ev rfl) zk) ?_
   refine WL.mv rfl rfl rfl rfl rfl (WL.nil (WE.next (WC.block ?_)))
   refine WC.loop (X := Nat) (fun i => L.length - i) (fun i => [(0, .slice r1 L.length c1), (1, .slice r2 R.length c2), (2, .pointer (some ⟨gb, 0, none⟩)), (7, .pointer (some ⟨(Bf7 j), (Pf8 j), none⟩)), (8, .bool (((L.take i).any (fun p => (multiP o.ok2) p (rget R j) == 3)))), (11, .slice r2 R.length c2), (12, .int .i64 (((R.length : Nat) : Int))), (13, .int .i64 (((j : Nat) : Int))), (14, .bool ((decide ((((j : Nat) : Int) : Int) < (((R.length : Nat) : Int) : Int))))), (17, .slice r1 L.length c1), (18, .int .i64 (((L.length : Nat) : Int))), (19, .int .i64 (((i : Nat) : Int)))]) (fun i w13 => i ≤ L.length ∧ Below w.heap.size w w13 ∧ Blk w13 gb 71 #[.func (.func 28) #[] #[.pointer (some ⟨gy, 0, none⟩)]]) 0 ⟨rfl, rfl, rfl, rfl, rfl, rfl, rfl, rfl, rfl, rfl, rfl, rfl, trivial⟩ ?_ ?_
   ·exact ⟨Nat.zero_le _, hb2, hB3⟩
   ·rintro i w13 ⟨hi, hb14, hB15⟩
    refine WC.seq (WC.region ?_)
    refine WL.val (.bool ((decide ((((i : Nat) : Int) : Int) < (((L.length : Nat) : Int) : Int))))) rfl rfl rfl (fun za zC zh zk => lss_3 rfl (zh.ev rfl) (zh.ev rfl) zk) ?_
    refine WL.nil (WE.next (WC.seq ?_))
    refine WC.cond rfl (fun h16 => ?_) (fun h16 => ?_)
    ·have h16 : (((i : Nat) : Int) : Int) < (((L.length : Nat) : Int) : Int) := by simpa using h16
     refine WC.skip (WE.next (WC.seq (WC.block (WC.seq (WC.region ?_)))))
     obtain ⟨b17, o18, Bf19, Pf20, A21, C22, ha23, hc24⟩ := PRow.openR (hL.below hb14)
     refine WL.val _ rfl rfl rfl (fun za zC zh zk => ix_80 (k := i) rfl (zh.ev rfl) (ha23 i (by first | omega | (simp; omega))) (zh.ev rfl) (by first | omega | (simp; omega)) zk) ?_
     refine WL.val _ rfl rfl rfl (fun za zC zh zk => ld_81 rfl (zh.ev rfl) (hc24 i (by first | omega | (simp; omega))).1 zk) ?_
     refine WL.asg rfl rfl rfl rfl rfl (WL.nil (WE.next ?_))
     refine WC.seqV (S := ((fun b => b < 0))) [(true, .val (.bool (((L.take i).any (fun p => (multiP o.ok2) p (rget R j) == 3))))), (true, .val (.bool (((L.take i).any (fun p => (multiP o.ok2) p (rget R j) == 3))))), ((true && !((L.take i).any (fun p => (multiP o.ok2) p (rget R j) == 3))), .val (.func (.func 28) #[] #[.pointer (some ⟨gy, 0, none⟩)])), ((true && !((L.take i).any (fun p => (multiP o.ok2) p (rget R j) == 3))), .val (.pointer (some ⟨(Bf19 i), (Pf20 i), none⟩))), ((true && !((L.take i).any (fun p => (multiP o.ok2) p (rget R j) == 3))), .val (.pointer (some ⟨(Bf19 i), (Pf20 i), none⟩))), ((true && !((L.take i).any (fun p => (multiP o.ok2) p (rget R j) == 3))), .val (.slice ((A21 i)) ((rget L i).length) ((C22 i)))), ((true && !((L.take i).any (fun p => (multiP o.ok2) p (rget R j) == 3))), .val (.pointer (some ⟨(Bf7 j), (Pf8 j), none⟩))), ((true && !((L.take i).any (fun p => (multiP o.ok2) p (rget R j) == 3))), .val (.pointer (some ⟨(Bf7 j), (Pf8 j), none⟩))), ((true && !((L.take i).any (fun p => (multiP o.ok2) p (rget R j) == 3))), .val (.slice ((A9 j)) ((rget R j).length) ((C10 j)))), ((true && !((L.take i).any (fun p => (multiP o.ok2) p (rget R j) == 3))), .val (.int .i64 (((multiP o.ok2) (rget L i) (rget R j))))), ((true && !((L.take i).any (fun p => (multiP o.ok2) p (rget R j) == 3))), .val (.bool (((((multiP o.ok2) (rget L i) (rget R j)) : Int) == (3 : Int))))), (true, .val (.bool ((((L.take i).any (fun p => (multiP o.ok2) p (rget R j) == 3)) || ((((multiP o.ok2) (rget L i) (rget R j)) : Int) == (3 : Int)))))), (true, .val undef)] [(0, .slice r1 L.length c1), (1, .slice r2 R.length c2), (2, .pointer (some ⟨gb, 0, none⟩)), (7, .pointer (some ⟨(Bf7 j), (Pf8 j), none⟩)), (10, .pointer (some ⟨(Bf19 i), (Pf20 i), none⟩)), (11, .slice r2 R.length c2), (12, .int .i64 (((R.length : Nat) : Int))), (13, .int .i64 (((j : Nat) : Int))), (14, .bool ((decide ((((j : Nat) : Int) : Int) < (((R.length : Nat) : Int) : Int))))), (17, .slice r1 L.length c1), (18, .int .i64 (((L.length : Nat) : Int))), (19, .int .i64 (((i : Nat) : Int))), (20, .bool ((decide ((((i : Nat) : Int) : Int) < (((L.length : Nat) : Int) : Int)))))] [12] [some (true, .bool ((((L.take i).any (fun p => (multiP o.ok2) p (rget R j) == 3)) || ((multiP o.ok2) (rget L i) (rget R j) == 3))))] (fun _ _ => True) ((fun _ _ _ _ _ => trivial)) (by decide) ⟨rfl, rfl, rfl, rfl, rfl, rfl, rfl, rfl, rfl, rfl, rfl, rfl, rfl, trivial⟩ (by kernel_rfl) (by kernel_rfl) (by kernel_rfl) (by kernel_rfl) trivial ?_ ?_
     ·refine ⟨.inl ⟨rfl, true, .none rfl, (fun gg b h => by cases h), fun h w => optUndef h, fun zβ za zw zc => ?_⟩, ?_⟩
      ·exact wp_move rfl ((evt za 8).trans (zc.old 8 _ rfl (by kernel_rfl))) ⟨_, rfl, Below.refl _ _, optDef zβ rfl⟩
      refine ⟨.inl ⟨rfl, true, .none rfl, (fun gg b h => by cases h), fun h w => optUndef h, fun zβ za zw zc => ?_⟩, ?_⟩
      ·exact wp_move rfl ((evt za 23).trans (optSVal (zc.dep 0 23 (by kernel_rfl) (by decide)) rfl rfl)) ⟨_, rfl, Below.refl _ _, optDef zβ rfl⟩
      refine ⟨.inl ⟨rfl, (true && !((L.take i).any (fun p => (multiP o.ok2) p (rget R j) == 3))), .no (c := ((L.take i).any (fun p => (multiP o.ok2) p (rget R j) == 3))) (d := true) rfl (fun v w h => h), (fun gg b h => by cases h; rfl), fun h w => optUndef h, fun zβ za zw zc => ?_⟩, ?_⟩
      ·exact ld_71 rfl (zc.kn.ev rfl) (bkeeps (Chg.toBelow zc.chg) _ _ ((hB15.cell 0).trans rfl)) ⟨_, rfl, Below.refl _ _, optDef zβ rfl⟩
      refine ⟨.inl ⟨rfl, (true && !((L.take i).any (fun p => (multiP o.ok2) p (rget R j) == 3))), .no (c := ((L.take i).any (fun p => (multiP o.ok2) p (rget R j) == 3))) (d := true) rfl (fun v w h => h), (fun gg b h => by cases h; rfl), fun h w => optUndef h, fun zβ za zw zc => ?_⟩, ?_⟩
      ·exact wp_move rfl (zc.kn.ev rfl) ⟨_, rfl, Below.refl _ _, optDef zβ rfl⟩
      refine ⟨.inl ⟨rfl, (true && !((L.take i).any (fun p => (multiP o.ok2) p (rget R j) == 3))), .no (c := ((L.take i).any (fun p => (multiP o.ok2) p (rget R j) == 3))) (d := true) rfl (fun v w h => h), (fun gg b h => by cases h; rfl), fun h w => optUndef h, fun zβ za zw zc => ?_⟩, ?_⟩
      ·exact nilCheck_ rfl ((evt za 26).trans (optSVal (zc.dep 3 26 (by kernel_rfl) (by decide)) rfl zβ)) ⟨_, rfl, Below.refl _ _, optDef zβ rfl⟩
      refine ⟨.inl ⟨rfl, (true && !((L.take i).any (fun p => (multiP o.ok2) p (rget R j) == 3))), .no (c := ((L.take i).any (fun p => (multiP o.ok2) p (rget R j) == 3))) (d := true) rfl (fun v w h => h), (fun gg b h => by cases h; rfl), fun h w => optUndef h, fun zβ za zw zc => ?_⟩, ?_⟩
      ·exact ld_28 rfl ((evt za 27).trans (optSVal (zc.dep 4 27 (by kernel_rfl) (by decide)) rfl zβ)) (bkeeps (Chg.toBelow zc.chg) _ _ (bkeeps (bstep hw hb14) _ _ (hc24 i (by first | omega | (have zz := zβ; simp only [Bool.and_eq_true, Bool.or_eq_true, Bool.true_and, Bool.not_eq_true', Bool.or_eq_false_iff, Bool.and_eq_false_iff, beq_eq_false_iff_ne, ne_eq, beq_iff_eq, decide_eq_true_eq, decide_eq_false_iff_not, bne_iff_ne, bne_eq_false_iff_eq] at zz; omega))).2.1)) ⟨_, rfl, Below.refl _ _, optDef zβ rfl⟩
      refine ⟨.inl ⟨rfl, (true && !((L.take i).any (fun p => (multiP o.ok2) p (rget R j) == 3))), .no (c := ((L.take i).any (fun p => (multiP o.ok2) p (rget R j) == 3))) (d := true) rfl (fun v w h => h), (fun gg b h => by cases h; rfl), fun h w => optUndef h, fun zβ za zw zc => ?_⟩, ?_⟩
      ·exact wp_move rfl (zc.kn.ev rfl) ⟨_, rfl, Below.refl _ _, optDef zβ rfl⟩
      refine ⟨.inl ⟨rfl, (true && !((L.take i).any (fun p => (multiP o.ok2) p (rget R j) == 3))), .no (c := ((L.take i).any (fun p => (multiP o.ok2) p (rget R j) == 3))) (d := true) rfl (fun v w h => h), (fun gg b h => by cases h; rfl), fun h w => optUndef h, fun zβ za zw zc => ?_⟩, ?_⟩
      ·exact nilCheck_ rfl ((evt za 29).trans (optSVal (zc.dep 6 29 (by kernel_rfl) (by decide)) rfl zβ)) ⟨_, rfl, Below.refl _ _, optDef zβ rfl⟩
      refine ⟨.inl ⟨rfl, (true && !((L.take i).any (fun p => (multiP o.ok2) p (rget R j) == 3))), .no (c := ((L.take i).any (fun p => (multiP o.ok2) p (rget R j) == 3))) (d := true) rfl (fun v w h => h), (fun gg b h => by cases h; rfl), fun h w => optUndef h, fun zβ za zw zc => ?_⟩, ?_⟩
      ·exact ld_28 rfl ((evt za 30).trans (optSVal (zc.dep 7 30 (by kernel_rfl) (by decide)) rfl zβ)) (bkeeps (Chg.toBelow zc.chg) _ _ (bkeeps (bstep hw hb14) _ _ (hc12 j (by first | omega | (have zz := zβ; simp only [Bool.and_eq_true, Bool.or_eq_true, Bool.true_and, Bool.not_eq_true', Bool.or_eq_false_iff, Bool.and_eq_false_iff, beq_eq_false_iff_ne, ne_eq, beq_iff_eq, decide_eq_true_eq, decide_eq_false_iff_not, bne_iff_ne, bne_eq_false_iff_eq] at zz; omega))).2.1)) ⟨_, rfl, Below.refl _ _, optDef zβ rfl⟩
      refine ⟨.inl ⟨rfl, (true && !((L.take i).any (fun p => (multiP o.ok2) p (rget R j) == 3))), .no (c := ((L.take i).any (fun p => (multiP o.ok2) p (rget R j) == 3))) (d := true) rfl (fun v w h => h), (fun gg b h => by cases h; rfl), fun h w => optUndef h, fun zβ za zw zc => ?_⟩, ?_⟩
      ·exact wp_callv (by kernel_rfl) rfl ((evt za 25).trans (optSVal (zc.dep 2 25 (by kernel_rfl) (by decide)) rfl zβ)) (hv2 ((evt za 28).trans (optSVal (zc.dep 5 28 (by kernel_rfl) (by decide)) rfl zβ)) ((evt za 31).trans (optSVal (zc.dep 8 31 (by kernel_rfl) (by decide)) rfl zβ))) (lits1_any o go gy p1 p2 k1 k2 (rget L i) (rget R j) _ _ _ _ _ (hB.below (bstep hw (bstep hb14 (Chg.toBelow zc.chg)))) (ho.below (bstep hw (bstep hb14 (Chg.toBelow zc.chg)))) (hy.below (bstep hw (bstep hb14 (Chg.toBelow zc.chg)))) ((hc24 i (by first | omega | (have zz := zβ; simp only [Bool.and_eq_true, Bool.or_eq_true, Bool.true_and, Bool.not_eq_true', Bool.or_eq_false_iff, Bool.and_eq_false_iff, beq_eq_false_iff_ne, ne_eq, beq_iff_eq, decide_eq_true_eq, decide_eq_false_iff_not, bne_iff_ne, bne_eq_false_iff_eq] at zz; omega))).2.2.below (bstep hw (bstep hb14 (Chg.toBelow zc.chg)))) ((hc12 j (by first | omega | (have zz := zβ; simp only [Bool.and_eq_true, Bool.or_eq_true, Bool.true_and, Bool.not_eq_true', Bool.or_eq_false_iff, Bool.and_eq_false_iff, beq_eq_false_iff_ne, ne_eq, beq_iff_eq, decide_eq_true_eq, decide_eq_false_iff_not, bne_iff_ne, bne_eq_false_iff_eq] at zz; omega))).2.2.below (bstep hw (bstep hb14 (Chg.toBelow zc.chg)))) (hz1 _ (rget_mem (by omega))) (hz2 _ (rget_mem (by omega)))) (fun v w' h => ⟨v, rfl, h.2, optDef zβ h.1⟩)
      refine ⟨.inl ⟨rfl, (true && !((L.take i).any (fun p => (multiP o.ok2) p (rget R j) == 3))), .no (c := ((L.take i).any (fun p => (multiP o.ok2) p (rget R j) == 3))) (d := true) rfl (fun v w h => h), (fun gg b h => by cases h; rfl), fun h w => optUndef h, fun zβ za zw zc => ?_⟩, ?_⟩
      ·exact eql_48 rfl ((evt za 32).trans (optSVal (zc.dep 9 32 (by kernel_rfl) (by decide)) rfl zβ)) (zc.kn.ev rfl) ⟨_, rfl, Below.refl _ _, optDef zβ rfl⟩
      refine ⟨.inl ⟨rfl, true, .none rfl, (fun gg b h => by cases h), fun h w => optUndef h, fun zβ za zw zc => ?_⟩, ?_⟩
      ·exact wp_or rfl ((evt za 24).trans (optSVal (zc.dep 1 24 (by kernel_rfl) (by decide)) rfl rfl)) (fun hp => ((evt za 33).trans (optSVal (zc.dep 10 33 (by kernel_rfl) (by decide)) rfl (bMkN zβ hp)))) ⟨_, rfl, Below.refl _ _, optDef zβ rfl⟩
      refine ⟨.inr ⟨0, rfl, by kernel_rfl, true, .none rfl, (fun gg b h => by cases h), (fun h => (nomatch h)), fun zβ za zw zvals zc => ?_⟩, ?_⟩
      ·obtain rfl := vlen0 zc.len
       have zn := zc.now
       exact wp_assign rfl (((evt za 34).trans (optSVal (zc.dep 11 34 (by kernel_rfl) (by decide)) rfl rfl))) ⟨_, rfl, .ofBelow (Below.refl _ _), trivial, cvIs rfl⟩
      exact trivial
     ·intro za w26 zvals zh zl hG27 hc28 zu zw zk
      obtain ⟨z0, rfl⟩ := vlen1 zl
      have zh := zh.cons (d := 8) (v := .bool ((((L.take i).any (fun p => (multiP o.ok2) p (rget R j) == 3)) || ((multiP o.ok2) (rget L i) (rget R j) == 3)))) (zk 0 12 8 _ _ rfl (by kernel_rfl) rfl rfl)
      have hb29 := Chg.toBelow hc28
      clear zu zw zk
      refine WE.go zh ?_
      refine WE.blockNormal (WE.next (WC.region ?_))
      refine WL.val (.int .i64 ((((i + 1) : Nat) : Int))) rfl rfl rfl (fun za zC zh zk => addb_3 rfl (zh.ev rfl) (zh.ev rfl) (wrap_eq (by omega) (by omega) (by omega)) zk) ?_
      refine WL.mv rfl rfl rfl rfl rfl (WL.nil ?_)
      have he30 : (((L.take i).any (fun p => (multiP o.ok2) p (rget R j) == 3)) || ((multiP o.ok2) (rget L i) (rget R j) == 3)) = ((L.take (i + 1)).any (fun p => (multiP o.ok2) p (rget R j) == 3)) := by rw [← take_snoc (d := []) (show i < L.length by omega), List.any_append]; simp [rget]
      rw [he30]
      refine WE.round (i + 1) ⟨rfl, rfl, rfl, rfl, rfl, rfl, rfl, rfl, rfl, rfl, rfl, rfl, trivial⟩ ?_ ?_
      ·have hb31 : Below w.heap.size w w26 := (bstep hb14 hb29)
       have hB32 := hB15.below hb29
       exact ⟨by omega, hb31, hB32⟩
      ·omega
    ·have h16 : ¬ ((((i : Nat) : Int) : Int) < (((L.length : Nat) : Int) : Int)) := by simpa using h16
     refine WC.exit (WE.thenExit (WE.thenExit (WE.blockIs rfl (WE.next (WC.seq (WC.region (WL.mv rfl rfl rfl rfl rfl ?_)))))))
     refine WL.val (.bool ((!((L.take i).any (fun p => (multiP o.ok2) p (rget R j) == 3))))) rfl rfl rfl (fun za zC zh zk => wp_not rfl (zh.ev rfl) zk) ?_
     refine WL.nil (WE.next ?_)
     refine WC.cond rfl (fun h33 => ?_) (fun h33 => ?_)
     ·have h33 : ¬ (((L.take i).any (fun p => (multiP o.ok2) p (rget R j) == 3)) = true) := by simpa using h33
      refine WC.seq (WC.region (WL.asg rfl rfl rfl rfl rfl (WL.nil (WE.next (WC.ret (WE.blockRet (WE.thenRet (WE.thenRet (WE.blockRet (WE.thenRet (WE.ret1 rfl rfl ?_)))))))))))
      exact ⟨_, rfl, congrArg Value.bool (by symm; rw [Bool.eq_false_iff]; intro e; unfold allAb at e; rw [List.all_eq_true] at e; have z := e R[j] (List.getElem_mem (by omega)); have z2 := h33; rw [List.take_of_length_le (by omega), rget_lt (by omega)] at z2; exact absurd z (by simpa using z2)), hb14⟩
     ·have h33 : ¬ (¬ (((L.take i).any (fun p => (multiP o.ok2) p (rget R j) == 3)) = true)) := by simpa using h33
      refine WC.skip (WE.blockNormal (WE.next (WC.region ?_)))
      refine WL.val (.int .i64 ((((j + 1) : Nat) : Int))) rfl rfl rfl (fun za zC zh zk => addb_3 rfl (zh.ev rfl) (zh.ev rfl) (wrap_eq (by omega) (by omega) (by omega)) zk) ?_
      refine WL.mv rfl rfl rfl rfl rfl (WL.nil ?_)
      refine WE.round (j + 1) ⟨rfl, rfl, rfl, rfl, rfl, rfl, trivial⟩ ?_ ?_
      ·exact ⟨by omega, fun q hq => by
         by_cases e : q = j
         ·rw [e]; have z := h33; rw [List.take_of_length_le (by omega)] at z; simpa using z
         ·exact hE q (by omega), hb14, hB15⟩
      ·omega
  ·have h4 : ¬ ((((j : Nat) : Int) : Int) < (((R.length : Nat) : Int) : Int)) := by simpa using h4
   refine WC.exit (WE.thenExit (WE.thenExit (WE.blockIs rfl (WE.next (WC.seq (WC.region (WL.asg rfl rfl rfl rfl rfl (WL.nil (WE.next (WC.ret (WE.ret1 rfl rfl ?_)))))))))))
   exact ⟨_, rfl, congrArg Value.bool (by symm; unfold allAb; rw [List.all_eq_true]; intro q hq; obtain ⟨k, hk, rfl⟩ := List.getElem_of_mem hq; have z := hE k (by omega); rwa [rget_lt hk] at z), hb2⟩
set_option maxRecDepth 100000 in
theorem multiR_any (o : Od) (go gy : Nat) (p1 p2 : Option Addr) (k1 k2 : Nat) (a b : List (List T)) (w : World) (xa xb : Option Addr) (ca cb : Nat) (ha : IsRs w a xa) (hb : IsRs w b xb) (hB : Blk w go 27 #[.bool o.lpo, .slice p1 o.prec.length k1, .slice p2 o.weights.length k2, .int .i64 o.var]) (ho : IsOd w o (.agg #[.bool o.lpo, .slice p1 o.prec.length k1, .slice p2 o.weights.length k2, .int .i64 o.var])) (hy : Blk w gy 65 #[.func (.func 43) #[] #[.pointer (some ⟨go, 0, none⟩)]]) (hza : ∀ x ∈ a, SmallR x) (hzb : ∀ x ∈ b, SmallR x) (hla : a.length ≤ 1048576) (hlb : b.length ≤ 1048576) :
  Calls Try.prog 26 #[.slice xa a.length ca, .slice xb b.length cb, .func (.func 28) #[] #[.pointer (some ⟨gy, 0, none⟩)]] w (Ret fun v' w' => v' = .int .i64 (multiP (multiP o.ok2) a b) ∧ Below w.heap.size w w') := by
 refine Calls.walk (l := [.slice xa a.length ca, .slice xb b.length cb, .func (.func 28) #[] #[.pointer (some ⟨gy, 0, none⟩)]]) Try.func26 rfl (by kernel_rfl) ?_
 refine WC.sub (K' := [(0, .slice xa a.length ca), (1, .slice xb b.length cb), (2, .func (.func 28) #[] #[.pointer (some ⟨gy, 0, none⟩)])]) ⟨rfl, rfl, rfl, trivial⟩ ?_
 refine WC.seq (WC.region ?_)
 refine WL.step (post := NewBlk w 71 #[.func (.func 28) #[] #[.pointer (some ⟨gy, 0, none⟩)]]) rfl rfl rfl (fun za zC zh zk => box_71 rfl (zh.ev rfl) (zk _ _ (newBlk _ _ _))) ?_
 rintro _ w1 ⟨g2, rfl, hg3, hB4, hb5, hz6⟩
 have hl7 : w.heap.size ≤ g2 := by omega
 refine WL.asg rfl rfl rfl rfl rfl (WL.nil (WE.next (WC.scope rfl (WC.seq ?_))))
 refine WC.twoMk [(true, .slice xa a.length ca), (true, .int .i64 (((a.length : Nat) : Int))), (true, undef), (true, .slice xb b.length cb), (true, .int .i64 (((b.length : Nat) : Int))), (true, undef), (true, undef), (true, undef)] [(0, .slice xa a.length ca), (1, .slice xb b.length cb), (2, .func (.func 28) #[] #[.pointer (some ⟨gy, 0, none⟩)]), (5, .pointer (some ⟨g2, 0, none⟩)), (6, .int .i64 0)] (n1 := 0) (c1 := a.length) (t1 := 81) (z1 := (madeCells (Value.cells (.pointer none)) a.length)) (n2 := b.length) (c2 := b.length) (t2 := 81) (z2 := (madeCells (Value.cells (.pointer none)) b.length)) 2 5 6 7 7 8 (by decide) (by kernel_rfl) rfl rfl ⟨rfl, rfl, rfl, rfl, rfl, trivial⟩ (by kernel_rfl) (by kernel_rfl) (by kernel_rfl) ?_ ?_
 ·refine ⟨.inl ⟨by decide, rfl, fun za zw zc => ?_⟩, ?_⟩
  ·exact wp_move rfl (zc.kn.ev rfl) ⟨_, rfl, rfl, optDef rfl rfl⟩
  refine ⟨.inl ⟨by decide, rfl, fun za zw zc => ?_⟩, ?_⟩
  ·exact len_68 rfl ((evt za 13).trans (valVal (zc.dep 0 13 (by kernel_rfl) (by decide)) rfl rfl)) ⟨_, rfl, rfl, optDef rfl rfl⟩
  refine ⟨.inr (.inl ⟨rfl, rfl, fun za zw zc => ?_⟩), ?_⟩
  ·exact wp_mkR (n := 0) (c := a.length) (z := .pointer none) (bytes := 8) Try.underlying80 (by kernel_rfl) (by decide) rfl (zc.kn.ev rfl) ((evt za 14).trans (valVal (zc.dep 1 14 (by kernel_rfl) (by decide)) rfl rfl)) (by omega) (by omega) ⟨rfl, rfl⟩
  refine ⟨.inl ⟨by decide, rfl, fun za zw zc => ?_⟩, ?_⟩
  ·exact wp_move rfl (zc.kn.ev rfl) ⟨_, rfl, rfl, optDef rfl rfl⟩
  refine ⟨.inl ⟨by decide, rfl, fun za zw zc => ?_⟩, ?_⟩
  ·exact len_68 rfl ((evt za 16).trans (valVal (zc.dep 3 16 (by kernel_rfl) (by decide)) rfl rfl)) ⟨_, rfl, rfl, optDef rfl rfl⟩
  refine ⟨.inr (.inr (.inl ⟨rfl, rfl, fun za zw zc => ?_⟩)), ?_⟩
  ·exact wp_mkR (n := b.length) (c := b.length) (z := .pointer none) (bytes := 8) Try.underlying80 (by kernel_rfl) (by decide) rfl ((evt za 17).trans (valVal (zc.dep 4 17 (by kernel_rfl) (by decide)) rfl rfl)) ((evt za 17).trans (valVal (zc.dep 4 17 (by kernel_rfl) (by decide)) rfl rfl)) (by omega) (by omega) ⟨rfl, rfl⟩
  refine ⟨.inr (.inr (.inr (.inl ⟨rfl, rfl, 15, by kernel_rfl, rfl⟩))), ?_⟩
  refine ⟨.inr (.inr (.inr (.inr ⟨rfl, rfl, 18, by kernel_rfl, rfl⟩))), ?_⟩
  exact trivial
 ·intro za w8 g9 g10 zh hb11 hg12 hg13 hne14 hB15 hB16 hv17 hv18 zu
  have hl19 : g2 < g9 := by have z1 := hB4.lt; omega
  have hl20 : w.heap.size ≤ g9 := by have z2 := (hb5).size; omega
  have hl21 : g2 < g10 := by have z1 := hB4.lt; omega
  have hl22 : w.heap.size ≤ g10 := by have z2 := (hb5).size; omega
  have zh := zh.cons (d := 7) hv17
  have zh := zh.cons (d := 8) hv18
  have hL23 : LRow (AtR w) w8 81 g9 a.length 0 [] := LRow.start hB15 (made_size _ _)
  have hL24 : LRow (AtR w) w8 81 g10 b.length 0 [] := LRow.start hB16 (made_size _ _)
  clear zu
  refine WE.go zh ?_
  refine WE.next (WC.seq (WC.seq (WC.region (WL.mv rfl rfl rfl rfl rfl ?_))))
  refine WL.val (.int .i64 (((b.length : Nat) : Int))) rfl rfl rfl (fun za zC zh zk => len_68 rfl (zh.ev rfl) zk) ?_
  refine WL.mv rfl rfl rfl rfl rfl (WL.nil (WE.next (WC.block ?_)))
  refine WC.loop (X := Nat) (fun i => b.length - i) (fun i => [(0, .slice xa a.length ca), (1, .slice xb b.length cb), (2, .func (.func 28) #[] #[.pointer (some ⟨gy, 0, none⟩)]), (5, .pointer (some ⟨g2, 0, none⟩)), (6, .int .i64 0), (7, .slice ((some ⟨g9, 0, none⟩)) 0 a.length), (8, .slice ((some ⟨g10, 0, none⟩)) b.length b.length), (20, .int .i64 (((b.length : Nat) : Int))), (21, .int .i64 (((i : Nat) : Int)))]) (fun i w25 => i ≤ b.length ∧ Below w.heap.size w w25 ∧ Blk w25 g2 71 #[.func (.func 28) #[] #[.pointer (some ⟨gy, 0, none⟩)]] ∧ LRow (AtR w) (w25) 81 g9 a.length (([] : List (List T))).length (([] : List (List T))) ∧ LRow (AtR w) (w25) 81 g10 b.length i (b.take i)) 0 ⟨rfl, rfl, rfl, rfl, rfl, rfl, rfl, rfl, rfl, trivial⟩ ?_ ?_
  ·have hb26 : Below w.heap.size w w8 := (bstep hb5 hb11)
   have hB27 := hB4.below hb11
   exact ⟨Nat.zero_le _, hb26, hB27, hL23, hL24⟩
  ·rintro i w25 ⟨hi, hb28, hB29, ho30, ho31⟩
   refine WC.seq (WC.region ?_)
   refine WL.val (.bool ((decide ((((i : Nat) : Int) : Int) < (((b.length : Nat) : Int) : Int))))) rfl rfl rfl (fun za zC zh zk => lss_3 rfl (zh.ev rfl) (zh.ev rfl) zk) ?_
   refine WL.nil (WE.next (WC.seq ?_))
   refine WC.cond rfl (fun h32 => ?_) (fun h32 => ?_)
   ·have h32 : (((i : Nat) : Int) : Int) < (((b.length : Nat) : Int) : Int) := by simpa using h32
    refine WC.skip (WE.next (WC.seq (WC.block (WC.seq (WC.region (WL.mv rfl rfl rfl rfl rfl (WL.asg rfl rfl rfl rfl rfl (WL.nil (WE.next (WC.region (WL.mv rfl rfl rfl rfl rfl (WL.mv rfl rfl rfl rfl rfl (WL.mv rfl rfl rfl rfl rfl (WL.mv rfl rfl rfl rfl rfl ?_))))))))))))))
    obtain ⟨b33, o34, A35, C36, ha37, hc38⟩ := IsRs.open hb
    refine WL.val _ rfl rfl rfl (fun za zC zh zk => ix_68 (k := i) rfl (zh.ev rfl) (ha37 i (by first | omega | (simp; omega))) (zh.ev rfl) (by first | omega | (simp; omega)) zk) ?_
    refine WL.val _ rfl rfl rfl (fun za zC zh zk => ix_80 (k := i) rfl (zh.ev rfl) rfl (zh.ev rfl) (by first | omega | (simp; omega)) zk) ?_
    obtain ⟨zcs, hx43, hx43z⟩ := ho31.cells (by omega)
    refine WL.step (post := fun _ w' => Upd g10 w25 w' ∧ LRow (AtR w) w' 81 g10 b.length (i + 1) (b.take (i + 1))) rfl rfl rfl (fun za zC zh zk => st_81 rfl (zh.ev rfl) (zh.ev rfl) hx43 hx43z (fun v => zk v _ ⟨Upd.at_ _ _ _ _, by rw [← take_snoc (d := []) (show i < b.length by omega)]; exact LRow.storeAt (by omega) ho31 (by omega) (show AtR w _ _ _ from ⟨_, _, hc38 i (by omega)⟩)⟩)) ?_
    rintro v42 w39 ⟨hu40, hL41⟩
    have hb44 := upd_below hb28 hu40 (by omega)
    have hB45 := upd_blk hB29 hu40 (by omega)
    have ho46 := ho30.upd hu40 (by omega)
    refine WL.nil (WE.blockNormal (WE.next (WC.region ?_)))
    refine WL.val (.int .i64 ((((i + 1) : Nat) : Int))) rfl rfl rfl (fun za zC zh zk => addb_3 rfl (zh.ev rfl) (zh.ev rfl) (wrap_eq (by omega) (by omega) (by omega)) zk) ?_
    refine WL.mv rfl rfl rfl rfl rfl (WL.nil ?_)
    refine WE.round (i + 1) ⟨rfl, rfl, rfl, rfl, rfl, rfl, rfl, rfl, rfl, trivial⟩ ?_ ?_
    ·exact ⟨by omega, hb44, hB45, ho46, hL41⟩
    ·omega
   ·have h32 : ¬ ((((i : Nat) : Int) : Int) < (((b.length : Nat) : Int) : Int)) := by simpa using h32
    refine WC.exit (WE.thenExit (WE.thenExit (WE.blockIs rfl (WE.next (WC.seq (WC.label (WE.next (WC.seq (WC.seq (WC.region (WL.mv rfl rfl rfl rfl rfl ?_)))))))))))
    refine WL.val (.int .i64 (((a.length : Nat) : Int))) rfl rfl rfl (fun za zC zh zk => len_68 rfl (zh.ev rfl) zk) ?_
    refine WL.mv rfl rfl rfl rfl rfl (WL.nil (WE.next (WC.block ?_)))
    have hib : i = b.length := by omega
    have hR47 : PRow (AtR w) w25 (fun b => w.heap.size ≤ b ∧ b ≠ g9) (some ⟨g10, 0, none⟩) b.length b := by
     have z := (ho31).prow
     rw [hib, List.take_of_length_le (Nat.le_refl _)] at z
     exact z.mono (fun q e _ => by subst e; exact ⟨by omega, fun e2 => hne14 e2.symm⟩)
    refine WC.loop (X := Nat × List (List T) × Option Addr × Nat × List (List T)) (fun x => a.length - x.1) (fun x => [(0, .slice xa a.length ca), (1, .slice xb b.length cb), (2, .func (.func 28) #[] #[.pointer (some ⟨gy, 0, none⟩)]), (5, .pointer (some ⟨g2, 0, none⟩)), (6, .int .i64 0), (7, .slice ((some ⟨g9, 0, none⟩)) x.2.1.length a.length), (8, .slice x.2.2.1 x.2.2.2.2.length x.2.2.2.1), (20, .int .i64 (((b.length : Nat) : Int))), (21, .int .i64 (((i : Nat) : Int))), (22, .bool ((decide ((((i : Nat) : Int) : Int) < (((b.length : Nat) : Int) : Int))))), (32, .int .i64 (((a.length : Nat) : Int))), (33, .int .i64 (((x.1 : Nat) : Int)))]) (fun x w48 => x.1 ≤ a.length ∧ multiLR (multiP o.ok2) a b = (x.2.1 ++ (multiLR (multiP o.ok2) (a.drop x.1) x.2.2.2.2).1, (multiLR (multiP o.ok2) (a.drop x.1) x.2.2.2.2).2) ∧ x.2.1.length ≤ x.1 ∧ x.2.2.2.2.length ≤ x.2.2.2.1 ∧ x.2.2.2.2.length ≤ b.length ∧ (∀ y ∈ x.2.1, y ∈ a) ∧ (∀ y ∈ x.2.2.2.2, y ∈ b) ∧ Below w.heap.size w w48 ∧ Blk w48 g2 71 #[.func (.func 28) #[] #[.pointer (some ⟨gy, 0, none⟩)]] ∧ LRow (AtR w) (w48) 81 g9 a.length (x.2.1).length x.2.1 ∧ PRow (AtR w) (w48) (fun b => w.heap.size ≤ b ∧ b ≠ g9) x.2.2.1 (x.2.2.2.2).length x.2.2.2.2) ((0, [], some ⟨g10, 0, none⟩, b.length, b)) ⟨rfl, rfl, rfl, rfl, rfl, rfl, rfl, rfl, rfl, rfl, rfl, rfl, trivial⟩ ?_ ?_
    ·exact ⟨Nat.zero_le _, by simp, Nat.le_refl _, Nat.le_refl _, Nat.le_refl _, (fun y hy => (nomatch hy)), fun y hy => hy, hb28, hB29, ho30, hR47⟩
    ·rintro x w48 ⟨hi, hM, hLl, hRc, hRb, hLm, hRm, hb49, hB50, ho51, ho52⟩
     refine WC.seq (WC.region ?_)
     refine WL.val (.bool ((decide ((((x.1 : Nat) : Int) : Int) < (((a.length : Nat) : Int) : Int))))) rfl rfl rfl (fun za zC zh zk => lss_3 rfl (zh.ev rfl) (zh.ev rfl) zk) ?_
     refine WL.nil (WE.next (WC.seq ?_))
     refine WC.cond rfl (fun h53 => ?_) (fun h53 => ?_)
     ·have h53 : (((x.1 : Nat) : Int) : Int) < (((a.length : Nat) : Int) : Int) := by simpa using h53
      refine WC.skip (WE.next (WC.seq (WC.block (WC.seq (WC.region (WL.mv rfl rfl rfl rfl rfl (WL.asg rfl rfl rfl rfl rfl (WL.nil (WE.next (WC.seq (WC.seq (WC.region (WL.mv rfl rfl rfl rfl rfl ?_)))))))))))))
      refine WL.val (.int .i64 (((x.2.2.2.2.length : Nat) : Int))) rfl rfl rfl (fun za zC zh zk => len_80 rfl (zh.ev rfl) zk) ?_
      refine WL.mv rfl rfl rfl rfl rfl (WL.nil (WE.next (WC.block ?_)))
      refine WC.loop (X := Nat) (fun j => x.2.2.2.2.length - j) (fun j => [(0, .slice xa a.length ca), (1, .slice xb b.length cb), (2, .func (.func 28) #[] #[.pointer (some ⟨gy, 0, none⟩)]), (5, .pointer (some ⟨g2, 0, none⟩)), (6, .int .i64 0), (7, .slice ((some ⟨g9, 0, none⟩)) x.2.1.length a.length), (8, .slice x.2.2.1 x.2.2.2.2.length x.2.2.2.1), (10, .int .i64 (((x.1 : Nat) : Int))), (20, .int .i64 (((b.length : Nat) : Int))), (21, .int .i64 (((i : Nat) : Int))), (22, .bool ((decide ((((i : Nat) : Int) : Int) < (((b.length : Nat) : Int) : Int))))), (32, .int .i64 (((a.length : Nat) : Int))), (33, .int .i64 (((x.1 : Nat) : Int))), (34, .bool ((decide ((((x.1 : Nat) : Int) : Int) < (((a.length : Nat) : Int) : Int))))), (37, .int .i64 (((x.2.2.2.2.length : Nat) : Int))), (38, .int .i64 (((j : Nat) : Int)))]) (fun j w54 => j ≤ x.2.2.2.2.length ∧ (∀ q, q < j → ¬ (multiP o.ok2) (rget a x.1) (rget x.2.2.2.2 q) = 2) ∧ Below w.heap.size w w54 ∧ Blk w54 g2 71 #[.func (.func 28) #[] #[.pointer (some ⟨gy, 0, none⟩)]] ∧ LRow (AtR w) (w54) 81 g9 a.length (x.2.1).length x.2.1 ∧ PRow (AtR w) (w54) (fun b => w.heap.size ≤ b ∧ b ≠ g9) x.2.2.1 (x.2.2.2.2).length x.2.2.2.2) 0 ⟨rfl, rfl, rfl, rfl, rfl, rfl, rfl, rfl, rfl, rfl, rfl, rfl, rfl, rfl, rfl, rfl, trivial⟩ ?_ ?_
      ·exact ⟨Nat.zero_le _, fun q h => absurd h (Nat.not_lt_zero q), hb49, hB50, ho51, ho52⟩
      ·rintro j w54 ⟨hj, hN, hb55, hB56, ho57, ho58⟩
       refine WC.seq (WC.region ?_)
       refine WL.val (.bool ((decide ((((j : Nat) : Int) : Int) < (((x.2.2.2.2.length : Nat) : Int) : Int))))) rfl rfl rfl (fun za zC zh zk => lss_3 rfl (zh.ev rfl) (zh.ev rfl) zk) ?_
       refine WL.nil (WE.next (WC.seq ?_))
       refine WC.cond rfl (fun h59 => ?_) (fun h59 => ?_)
       ·have h59 : (((j : Nat) : Int) : Int) < (((x.2.2.2.2.length : Nat) : Int) : Int) := by simpa using h59
        refine WC.skip (WE.next (WC.seq (WC.block (WC.seq (WC.region (WL.mv rfl rfl rfl rfl rfl (WL.asg rfl rfl rfl rfl rfl (WL.nil (WE.next (WC.seq ?_))))))))))
        obtain ⟨b60, o61, A62, C63, ha64, hc65⟩ := IsRs.open ha
        obtain ⟨b66, o67, Bf68, Pf69, A70, C71, ha72, hc73⟩ := PRow.openR ho58
        refine WC.opt [(true, .val (.func (.func 28) #[] #[.pointer (some ⟨gy, 0, none⟩)])), (true, .val (.slice xa a.length ca)), (true, .val (.int .i64 (((x.1 : Nat) : Int)))), (true, .val (.pointer (some ⟨b60, o61 + x.1, none⟩))), (true, .val (.slice ((A62 x.1)) ((rget a x.1).length) ((C63 x.1)))), (true, .val (.slice x.2.2.1 x.2.2.2.2.length x.2.2.2.1)), (true, .val (.int .i64 (((j : Nat) : Int)))), (true, .val (.pointer (some ⟨b66, o67 + j, none⟩))), (true, .val (.pointer (some ⟨(Bf68 j), (Pf69 j), none⟩))), (true, .val (.pointer (some ⟨(Bf68 j), (Pf69 j), none⟩))), (true, .val (.slice ((A70 j)) ((rget x.2.2.2.2 j).length) ((C71 j)))), (true, .val (.int .i64 (((multiP o.ok2) (rget a x.1) (rget x.2.2.2.2 j))))), (true, .val (.bool (((((multiP o.ok2) (rget a x.1) (rget x.2.2.2.2 j)) : Int) == (2 : Int)))))] [(0, .slice xa a.length ca), (1, .slice xb b.length cb), (2, .func (.func 28) #[] #[.pointer (some ⟨gy, 0, none⟩)]), (5, .pointer (some ⟨g2, 0, none⟩)), (6, .int .i64 0), (7, .slice ((some ⟨g9, 0, none⟩)) x.2.1.length a.length), (8, .slice x.2.2.1 x.2.2.2.2.length x.2.2.2.1), (10, .int .i64 (((x.1 : Nat) : Int))), (11, .int .i64 (((j : Nat) : Int))), (20, .int .i64 (((b.length : Nat) : Int))), (21, .int .i64 (((i : Nat) : Int))), (22, .bool ((decide ((((i : Nat) : Int) : Int) < (((b.length : Nat) : Int) : Int))))), (32, .int .i64 (((a.length : Nat) : Int))), (33, .int .i64 (((x.1 : Nat) : Int))), (34, .bool ((decide ((((x.1 : Nat) : Int) : Int) < (((a.length : Nat) : Int) : Int))))), (37, .int .i64 (((x.2.2.2.2.length : Nat) : Int))), (38, .int .i64 (((j : Nat) : Int))), (39, .bool ((decide ((((j : Nat) : Int) : Int) < (((x.2.2.2.2.length : Nat) : Int) : Int)))))] ⟨rfl, rfl, rfl, rfl, rfl, rfl, rfl, rfl, rfl, rfl, rfl, rfl, rfl, rfl, rfl, rfl, rfl, rfl, trivial⟩ (by kernel_rfl) (by kernel_rfl) (by kernel_rfl) ?_ ?_
        ·refine ⟨⟨true, .none rfl, fun h w => optUndef h, fun zβ za zw zc => ?_⟩, ?_⟩
         ·exact ld_71 rfl (zc.kn.ev rfl) (bkeeps zc.below _ _ ((hB56.cell 0).trans rfl)) ⟨_, rfl, Below.refl _ _, optDef zβ rfl⟩
         refine ⟨⟨true, .none rfl, fun h w => optUndef h, fun zβ za zw zc => ?_⟩, ?_⟩
         ·exact wp_move rfl (zc.kn.ev rfl) ⟨_, rfl, Below.refl _ _, optDef zβ rfl⟩
         refine ⟨⟨true, .none rfl, fun h w => optUndef h, fun zβ za zw zc => ?_⟩, ?_⟩
         ·exact wp_move rfl (zc.kn.ev rfl) ⟨_, rfl, Below.refl _ _, optDef zβ rfl⟩
         refine ⟨⟨true, .none rfl, fun h w => optUndef h, fun zβ za zw zc => ?_⟩, ?_⟩
         ·exact ix_68 (k := x.1) rfl ((evt za 42).trans (optVal (zc.dep 1 42 (by kernel_rfl)) rfl rfl)) (ha64 x.1 (by first | omega | (simp; omega))) ((evt za 43).trans (optVal (zc.dep 2 43 (by kernel_rfl)) rfl rfl)) (by first | omega | (simp; omega)) ⟨_, rfl, Below.refl _ _, optDef zβ rfl⟩
         refine ⟨⟨true, .none rfl, fun h w => optUndef h, fun zβ za zw zc => ?_⟩, ?_⟩
         ·exact ld_28 rfl ((evt za 44).trans (optVal (zc.dep 3 44 (by kernel_rfl)) rfl rfl)) (bkeeps (bstep hb55 zc.below) _ _ (hc65 x.1 (by first | omega | (simp; omega))).1) ⟨_, rfl, Below.refl _ _, optDef zβ rfl⟩
         refine ⟨⟨true, .none rfl, fun h w => optUndef h, fun zβ za zw zc => ?_⟩, ?_⟩
         ·exact wp_move rfl (zc.kn.ev rfl) ⟨_, rfl, Below.refl _ _, optDef zβ rfl⟩
         refine ⟨⟨true, .none rfl, fun h w => optUndef h, fun zβ za zw zc => ?_⟩, ?_⟩
         ·exact wp_move rfl (zc.kn.ev rfl) ⟨_, rfl, Below.refl _ _, optDef zβ rfl⟩
         refine ⟨⟨true, .none rfl, fun h w => optUndef h, fun zβ za zw zc => ?_⟩, ?_⟩
         ·exact ix_80 (k := j) rfl ((evt za 46).trans (optVal (zc.dep 5 46 (by kernel_rfl)) rfl rfl)) (ha72 j (by first | omega | (simp; omega))) ((evt za 47).trans (optVal (zc.dep 6 47 (by kernel_rfl)) rfl rfl)) (by first | omega | (simp; omega)) ⟨_, rfl, Below.refl _ _, optDef zβ rfl⟩
         refine ⟨⟨true, .none rfl, fun h w => optUndef h, fun zβ za zw zc => ?_⟩, ?_⟩
         ·exact ld_81 rfl ((evt za 48).trans (optVal (zc.dep 7 48 (by kernel_rfl)) rfl rfl)) (bkeeps zc.below _ _ (hc73 j (by first | omega | (simp; omega))).1) ⟨_, rfl, Below.refl _ _, optDef zβ rfl⟩
         refine ⟨⟨true, .none rfl, fun h w => optUndef h, fun zβ za zw zc => ?_⟩, ?_⟩
         ·exact nilCheck_ rfl ((evt za 49).trans (optVal (zc.dep 8 49 (by kernel_rfl)) rfl rfl)) ⟨_, rfl, Below.refl _ _, optDef zβ rfl⟩
         refine ⟨⟨true, .none rfl, fun h w => optUndef h, fun zβ za zw zc => ?_⟩, ?_⟩
         ·exact ld_28 rfl ((evt za 50).trans (optVal (zc.dep 9 50 (by kernel_rfl)) rfl rfl)) (bkeeps zc.below _ _ (bkeeps hb55 _ _ (hc73 j (by first | omega | (simp; omega))).2.1)) ⟨_, rfl, Below.refl _ _, optDef zβ rfl⟩
         refine ⟨⟨true, .none rfl, fun h w => optUndef h, fun zβ za zw zc => ?_⟩, ?_⟩
         ·exact wp_callv (by kernel_rfl) rfl ((evt za 41).trans (optVal (zc.dep 0 41 (by kernel_rfl)) rfl rfl)) (hv2 ((evt za 45).trans (optVal (zc.dep 4 45 (by kernel_rfl)) rfl rfl)) ((evt za 51).trans (optVal (zc.dep 10 51 (by kernel_rfl)) rfl rfl))) (lits1_any o go gy p1 p2 k1 k2 (rget a x.1) (rget x.2.2.2.2 j) _ _ _ _ _ (hB.below (bstep hb55 zc.below)) (ho.below (bstep hb55 zc.below)) (hy.below (bstep hb55 zc.below)) ((hc65 x.1 (by first | omega | (simp; omega))).2.below (bstep hb55 zc.below)) ((hc73 j (by first | omega | (simp; omega))).2.2.below (bstep hb55 zc.below)) (hza _ (rget_mem (by omega))) (hzb _ (hRm _ (rget_mem (by omega))))) (fun v w' h => ⟨v, rfl, h.2, optDef zβ h.1⟩)
         refine ⟨⟨true, .none rfl, fun h w => optUndef h, fun zβ za zw zc => ?_⟩, ?_⟩
         ·exact eql_48 rfl ((evt za 52).trans (optVal (zc.dep 11 52 (by kernel_rfl)) rfl rfl)) (zc.kn.ev rfl) ⟨_, rfl, Below.refl _ _, optDef zβ rfl⟩
         exact trivial
        ·intro za w75 zh hb76 zu
         have zh := zh.cons (d := 53) (v := .bool (((((multiP o.ok2) (rget a x.1) (rget x.2.2.2.2 j)) : Int) == (2 : Int)))) (optVal (zu 12 53 (by kernel_rfl)) rfl rfl)
         clear zu
         refine WE.go zh ?_
         refine WE.next ?_
         refine WC.cond rfl (fun h77 => ?_) (fun h77 => ?_)
         ·have h77 : (((multiP o.ok2) (rget a x.1) (rget x.2.2.2.2 j)) : Int) = (2 : Int) := by simpa using h77
          refine WC.seq ?_
          have ho78 := ho58.below hb76
          have ho79 := ho57.below hb76
          have hwz : w.heap.size ≤ w75.heap.size := (Nat.le_trans hb55.size hb76.size)
          have hg1z : g9 < w75.heap.size := ho79.lt
          refine WC.tail3 (S := ((fun b => b < 0))) [(true, .val (.slice x.2.2.1 x.2.2.2.2.length x.2.2.2.1)), (true, .val (.int .i64 (((j : Nat) : Int)))), (true, .val (.int .i64 (((j : Nat) : Int)))), (true, .val (.slice x.2.2.1 j j)), (true, .val (.slice x.2.2.1 x.2.2.2.2.length x.2.2.2.1)), (true, .val (.int .i64 (((j : Nat) : Int)))), (true, .val (.int .i64 ((((j + 1) : Nat) : Int)))), (true, .val (.slice ((slA x.2.2.1 ((j + 1)) 1 x.2.2.2.1)) ((x.2.2.2.2.length - (j + 1))) ((x.2.2.2.1 - (j + 1))))), (true, .val undef), (true, .val undef)] [(0, .slice xa a.length ca), (1, .slice xb b.length cb), (2, .func (.func 28) #[] #[.pointer (some ⟨gy, 0, none⟩)]), (5, .pointer (some ⟨g2, 0, none⟩)), (6, .int .i64 0), (7, .slice ((some ⟨g9, 0, none⟩)) x.2.1.length a.length), (10, .int .i64 (((x.1 : Nat) : Int))), (11, .int .i64 (((j : Nat) : Int))), (20, .int .i64 (((b.length : Nat) : Int))), (21, .int .i64 (((i : Nat) : Int))), (22, .bool ((decide ((((i : Nat) : Int) : Int) < (((b.length : Nat) : Int) : Int))))), (32, .int .i64 (((a.length : Nat) : Int))), (33, .int .i64 (((x.1 : Nat) : Int))), (34, .bool ((decide ((((x.1 : Nat) : Int) : Int) < (((a.length : Nat) : Int) : Int))))), (37, .int .i64 (((x.2.2.2.2.length : Nat) : Int))), (38, .int .i64 (((j : Nat) : Int))), (39, .bool ((decide ((((j : Nat) : Int) : Int) < (((x.2.2.2.2.length : Nat) : Int) : Int))))), (53, .bool (((((multiP o.ok2) (rget a x.1) (rget x.2.2.2.2 j)) : Int) == (2 : Int))))] 8 9 ((x.2.2.2.2.length - 1)) 62 8 (fun ra rc wz => PRow (AtR w) wz (fun b => w.heap.size ≤ b ∧ b ≠ g9) ra (x.2.2.2.2.length - 1) (x.2.2.2.2.eraseIdx j) ∧ x.2.2.2.2.length - 1 ≤ rc) (by decide) (fun ra rc w w' hb h => ⟨h.1.below hb, h.2⟩) ⟨rfl, rfl, rfl, rfl, rfl, rfl, rfl, rfl, rfl, rfl, rfl, rfl, rfl, rfl, rfl, rfl, rfl, rfl, trivial⟩ (by kernel_rfl) (by kernel_rfl) (by kernel_rfl) (by kernel_rfl) (by kernel_rfl) (by kernel_rfl) ?_ ?_
          ·refine ⟨.inl ⟨rfl, true, .none rfl, (fun gg b h => by cases h), fun h w => optUndef h, fun zβ za zw zc => ?_⟩, ?_⟩
           ·exact wp_move rfl ((evt za 8).trans (zc.old 8 _ rfl (by kernel_rfl))) ⟨_, rfl, Below.refl _ _, optDef zβ rfl⟩
           refine ⟨.inl ⟨rfl, true, .none rfl, (fun gg b h => by cases h), fun h w => optUndef h, fun zβ za zw zc => ?_⟩, ?_⟩
           ·exact wp_move rfl (zc.kn.ev rfl) ⟨_, rfl, Below.refl _ _, optDef zβ rfl⟩
           refine ⟨.inl ⟨rfl, true, .none rfl, (fun gg b h => by cases h), fun h w => optUndef h, fun zβ za zw zc => ?_⟩, ?_⟩
           ·exact wp_move rfl (zc.kn.ev rfl) ⟨_, rfl, Below.refl _ _, optDef zβ rfl⟩
           refine ⟨.inl ⟨rfl, true, .none rfl, (fun gg b h => by cases h), fun h w => optUndef h, fun zβ za zw zc => ?_⟩, ?_⟩
           ·exact shm_80 (k := j) (m := j) rfl ((evt za 54).trans (optSVal (zc.dep 0 54 (by kernel_rfl) (by decide)) rfl rfl)) ((evt za 55).trans (optSVal (zc.dep 1 55 (by kernel_rfl) (by decide)) rfl rfl)) ((evt za 56).trans (optSVal (zc.dep 2 56 (by kernel_rfl) (by decide)) rfl rfl)) (by omega) (by omega) ⟨_, rfl, Below.refl _ _, optDef zβ rfl⟩
           refine ⟨.inl ⟨rfl, true, .none rfl, (fun gg b h => by cases h), fun h w => optUndef h, fun zβ za zw zc => ?_⟩, ?_⟩
           ·exact wp_move rfl ((evt za 8).trans (zc.old 8 _ rfl (by kernel_rfl))) ⟨_, rfl, Below.refl _ _, optDef zβ rfl⟩
           refine ⟨.inl ⟨rfl, true, .none rfl, (fun gg b h => by cases h), fun h w => optUndef h, fun zβ za zw zc => ?_⟩, ?_⟩
           ·exact wp_move rfl (zc.kn.ev rfl) ⟨_, rfl, Below.refl _ _, optDef zβ rfl⟩
           refine ⟨.inl ⟨rfl, true, .none rfl, (fun gg b h => by cases h), fun h w => optUndef h, fun zβ za zw zc => ?_⟩, ?_⟩
           ·exact addb_3 rfl ((evt za 59).trans (optSVal (zc.dep 5 59 (by kernel_rfl) (by decide)) rfl rfl)) (zc.kn.ev rfl) (wrap_eq (by omega) (by omega) (by omega)) ⟨_, rfl, Below.refl _ _, optDef zβ rfl⟩
           refine ⟨.inl ⟨rfl, true, .none rfl, (fun gg b h => by cases h), fun h w => optUndef h, fun zβ za zw zc => ?_⟩, ?_⟩
           ·exact slo_80 (k := (j + 1)) rfl ((evt za 58).trans (optSVal (zc.dep 4 58 (by kernel_rfl) (by decide)) rfl rfl)) ((evt za 60).trans (optSVal (zc.dep 6 60 (by kernel_rfl) (by decide)) rfl rfl)) (by omega) (by omega) ⟨_, rfl, Below.refl _ _, optDef zβ rfl⟩
           refine ⟨.inr (.inl ⟨rfl, rfl, fun za zw zc => ?_⟩), ?_⟩
           ·exact wp_appCut (z := .pointer none) (bytes := 8) (S := (fun b => w.heap.size ≤ b ∧ b ≠ g9)) Try.underlying80 (by kernel_rfl) (by decide) rfl ((evt za 57).trans (optSVal (zc.dep 3 57 (by kernel_rfl) (by decide)) rfl rfl)) ((evt za 61).trans (optSVal (zc.dep 7 61 (by kernel_rfl) (by decide)) rfl rfl)) (ho78.below zc.below) (by omega) (by omega) (by omega) (by omega) (by have z := zc.below.size; exact ⟨by omega, by omega⟩) (fun r c2 w2 h1 h2 h3 => ⟨r, c2, rfl, ⟨h1, h2⟩, .ofBelow h3⟩)
           refine ⟨.inr (.inr ⟨rfl, rfl, 62, by kernel_rfl, rfl⟩), ?_⟩
           exact trivial
          ·intro za w80 ra83 rc84 zh zv zv2 hG81 hc82 zu
           have zh := zh.cons (d := 8) zv2
           have hb85 := Chg.toBelow hc82
           have hR86 : PRow (AtR w) w80 (fun b => w.heap.size ≤ b ∧ b ≠ g9) ra83 ((x.2.2.2.2.eraseIdx j)).length (x.2.2.2.2.eraseIdx j) := by have z := hG81.1; rwa [show ((x.2.2.2.2.eraseIdx j)).length = x.2.2.2.2.length - 1 from by rw [List.length_eraseIdx, if_pos (by omega)]]
           clear zu
           refine WE.go zh ?_
           refine WE.next (WC.exit (WE.blockNot rfl (WE.thenExit (WE.thenExit (WE.blockNot rfl (WE.thenExit (WE.blockIs rfl (WE.next (WC.region ?_)))))))))
           refine WL.val (.int .i64 ((((x.1 + 1) : Nat) : Int))) rfl rfl rfl (fun za zC zh zk => addb_3 rfl (zh.ev rfl) (zh.ev rfl) (wrap_eq (by omega) (by omega) (by omega)) zk) ?_
           refine WL.mv rfl rfl rfl rfl rfl (WL.nil ?_)
           rw [show x.2.2.2.2.length - 1 = (x.2.2.2.2.eraseIdx j).length from by rw [List.length_eraseIdx, if_pos (by omega)]]
           refine WE.round ((x.1 + 1, x.2.1, ra83, rc84, (x.2.2.2.2.eraseIdx j))) ⟨rfl, rfl, rfl, rfl, rfl, rfl, rfl, rfl, rfl, rfl, rfl, rfl, trivial⟩ ?_ ?_
           ·have hb87 : Below w.heap.size w w80 := (bstep (bstep hb55 hb76) hb85)
            have hb89 : Below w54.heap.size w54 w80 := (bstep hb76 hb85)
            have hB88 := hB56.below hb89
            have ho90 := ho79.below hb85
            exact ⟨by (try dsimp only at *); omega, by
              have z := multiLR_strike (c := (multiP o.ok2)) (d := []) (R := x.2.2.2.2) (show x.1 < a.length by omega) (show j < x.2.2.2.2.length by omega) (by have z9 := h77; simpa [rget] using z9) (fun q hq => by have z9 := hN q hq; simpa [rget] using z9)
              rw [hM, z], by (try dsimp only at *); omega, by (try dsimp only); rw [List.length_eraseIdx, if_pos (by omega)]; exact hG81.2, by (try dsimp only); rw [List.length_eraseIdx, if_pos (by omega)]; omega, hLm, fun y hy => hRm y (List.mem_of_mem_eraseIdx hy), hb87, hB88, ho90, hR86⟩
           ·(try dsimp only at *); omega
         ·have h77 : ¬ ((((multiP o.ok2) (rget a x.1) (rget x.2.2.2.2 j)) : Int) = (2 : Int)) := by simpa using h77
          refine WC.skip (WE.blockNormal (WE.next (WC.region ?_)))
          refine WL.val (.int .i64 ((((j + 1) : Nat) : Int))) rfl rfl rfl (fun za zC zh zk => addb_3 rfl (zh.ev rfl) (zh.ev rfl) (wrap_eq (by omega) (by omega) (by omega)) zk) ?_
          refine WL.mv rfl rfl rfl rfl rfl (WL.nil ?_)
          refine WE.round (j + 1) ⟨rfl, rfl, rfl, rfl, rfl, rfl, rfl, rfl, rfl, rfl, rfl, rfl, rfl, rfl, rfl, rfl, trivial⟩ ?_ ?_
          ·have hb91 : Below w.heap.size w w75 := (bstep hb55 hb76)
           have hB92 := hB56.below hb76
           have ho93 := ho57.below hb76
           have ho94 := ho58.below hb76
           exact ⟨by omega, fun q hq => by
             by_cases e : q = j
             ·rw [e]; simpa using h77
             ·exact hN q (by omega), hb91, hB92, ho93, ho94⟩
          ·omega
       ·have h59 : ¬ ((((j : Nat) : Int) : Int) < (((x.2.2.2.2.length : Nat) : Int) : Int)) := by simpa using h59
        refine WC.exit (WE.thenExit (WE.thenExit (WE.blockIs rfl (WE.next (WC.region (WL.mv rfl rfl rfl rfl rfl (WL.mv rfl rfl rfl rfl rfl (WL.mv rfl rfl rfl rfl rfl ?_))))))))
        obtain ⟨b95, o96, A97, C98, ha99, hc100⟩ := IsRs.open ha
        refine WL.val _ rfl rfl rfl (fun za zC zh zk => ix_68 (k := x.1) rfl (zh.ev rfl) (ha99 x.1 (by first | omega | (simp; omega))) (zh.ev rfl) (by first | omega | (simp; omega)) zk) ?_
        refine WL.step (post := NewRow w54 81 #[.pointer (some ⟨b95, o96 + x.1, none⟩)] 1) rfl rfl rfl (fun za zC zh zk => row_80_1 rfl (zh.ev rfl) (zk _ _ (newRow _ _ _ _))) ?_
        rintro _ w101 ⟨g102, rfl, hg103, hB104, hb105, hz106⟩
        have hl107 : g2 < g102 := by have z1 := hB56.lt; omega
        have hl108 : g9 < g102 := by have z1 := ho57.lt; omega
        have hl109 : w.heap.size ≤ g102 := by have z2 := (hb55).size; omega
        have hl110 : w54.heap.size ≤ g102 := by omega
        have ho111 := ho57.below hb105
        refine WL.step (post := fun v w' => v = .slice (some ⟨g9, 0, none⟩) (x.2.1.length + 1) a.length ∧ Upd g9 w101 w' ∧ LRow (AtR w) w' 81 g9 a.length (x.2.1.length + 1) (x.2.1 ++ [(rget a x.1)])) rfl rfl rfl (fun za zC zh zk => wp_appL (z := .pointer none) (bytes := 8) Try.underlying80 (by kernel_rfl) rfl (zh.ev rfl) (zh.ev rfl) ho111 (by omega) hB104 (show AtR w _ _ _ from ⟨_, _, hc100 x.1 (by omega)⟩) (fun w2 h1 h2 => zk _ _ ⟨rfl, h2, h1⟩)) ?_
        rintro _ w112 ⟨rfl, hu113, hL114⟩
        have ho115 := ho58.below hb105
        have hb116 : Below w.heap.size w w101 := (bstep hb55 hb105)
        have hb117 := upd_below hb116 hu113 (by omega)
        have hB118 := hB56.below hb105
        have hB119 := upd_blk hB118 hu113 (by omega)
        have hR120 := ho115.upd hu113 (fun b hb => hb.2)
        have hL121 : LRow (AtR w) w112 81 g9 a.length ((x.2.1 ++ [(rget a x.1)])).length (x.2.1 ++ [(rget a x.1)]) := by rw [List.length_append]; exact hL114
        refine WL.asg rfl rfl rfl rfl rfl (WL.nil (WE.blockNormal (WE.next (WC.region ?_))))
        refine WL.val (.int .i64 ((((x.1 + 1) : Nat) : Int))) rfl rfl rfl (fun za zC zh zk => addb_3 rfl (zh.ev rfl) (zh.ev rfl) (wrap_eq (by omega) (by omega) (by omega)) zk) ?_
        refine WL.mv rfl rfl rfl rfl rfl (WL.nil ?_)
        rw [show x.2.1.length + 1 = (x.2.1 ++ [(rget a x.1)]).length from by simp]
        refine WE.round ((x.1 + 1, x.2.1 ++ [(rget a x.1)], x.2.2.1, x.2.2.2.1, x.2.2.2.2)) ⟨rfl, rfl, rfl, rfl, rfl, rfl, rfl, rfl, rfl, rfl, rfl, rfl, trivial⟩ ?_ ?_
        ·exact ⟨by (try dsimp only at *); omega, by
           have z := multiLR_keep (c := (multiP o.ok2)) (d := []) (R := x.2.2.2.2) (show x.1 < a.length by omega) (fun q hq => by have z9 := hN q (by omega); simpa [rget] using z9)
           rw [hM, z]; simp [List.append_assoc, rget], by (try dsimp only); simp; omega, hRc, hRb, fun y hy => (List.mem_append.1 hy).elim (hLm y) (fun e => by rw [List.mem_singleton.1 e]; exact rget_mem (by omega)), hRm, hb117, hB119, hL121, hR120⟩
        ·(try dsimp only at *); omega
     ·have h53 : ¬ ((((x.1 : Nat) : Int) : Int) < (((a.length : Nat) : Int) : Int)) := by simpa using h53
      refine WC.exit (WE.thenExit (WE.thenExit (WE.blockIs rfl (WE.next (WC.seq (WC.seq ?_))))))
      refine WC.opt [(true, .val (.slice ((some ⟨g9, 0, none⟩)) x.2.1.length a.length)), (true, .val (.int .i64 (((x.2.1.length : Nat) : Int)))), (true, .val (.bool (((((x.2.1.length : Nat) : Int) : Int) == (0 : Int))))), (true, .val (.bool (((((x.2.1.length : Nat) : Int) : Int) == (0 : Int))))), ((true && ((((x.2.1.length : Nat) : Int) : Int) == (0 : Int))), .val (.slice x.2.2.1 x.2.2.2.2.length x.2.2.2.1)), ((true && ((((x.2.1.length : Nat) : Int) : Int) == (0 : Int))), .val (.int .i64 (((x.2.2.2.2.length : Nat) : Int)))), ((true && ((((x.2.1.length : Nat) : Int) : Int) == (0 : Int))), .val (.bool (((((x.2.2.2.2.length : Nat) : Int) : Int) == (0 : Int))))), (true, .val (.bool ((((((x.2.1.length : Nat) : Int) : Int) == (0 : Int)) && ((((x.2.2.2.2.length : Nat) : Int) : Int) == (0 : Int))))))] [(0, .slice xa a.length ca), (1, .slice xb b.length cb), (2, .func (.func 28) #[] #[.pointer (some ⟨gy, 0, none⟩)]), (5, .pointer (some ⟨g2, 0, none⟩)), (6, .int .i64 0), (7, .slice ((some ⟨g9, 0, none⟩)) x.2.1.length a.length), (8, .slice x.2.2.1 x.2.2.2.2.length x.2.2.2.1), (20, .int .i64 (((b.length : Nat) : Int))), (21, .int .i64 (((i : Nat) : Int))), (22, .bool ((decide ((((i : Nat) : Int) : Int) < (((b.length : Nat) : Int) : Int))))), (32, .int .i64 (((a.length : Nat) : Int))), (33, .int .i64 (((x.1 : Nat) : Int))), (34, .bool ((decide ((((x.1 : Nat) : Int) : Int) < (((a.length : Nat) : Int) : Int)))))] ⟨rfl, rfl, rfl, rfl, rfl, rfl, rfl, rfl, rfl, rfl, rfl, rfl, rfl, trivial⟩ (by kernel_rfl) (by kernel_rfl) (by kernel_rfl) ?_ ?_
      ·refine ⟨⟨true, .none rfl, fun h w => optUndef h, fun zβ za zw zc => ?_⟩, ?_⟩
       ·exact wp_move rfl (zc.kn.ev rfl) ⟨_, rfl, Below.refl _ _, optDef zβ rfl⟩
       refine ⟨⟨true, .none rfl, fun h w => optUndef h, fun zβ za zw zc => ?_⟩, ?_⟩
       ·exact len_80 rfl ((evt za 71).trans (optVal (zc.dep 0 71 (by kernel_rfl)) rfl rfl)) ⟨_, rfl, Below.refl _ _, optDef zβ rfl⟩
       refine ⟨⟨true, .none rfl, fun h w => optUndef h, fun zβ za zw zc => ?_⟩, ?_⟩
       ·exact eql_3 rfl ((evt za 72).trans (optVal (zc.dep 1 72 (by kernel_rfl)) rfl rfl)) (zc.kn.ev rfl) ⟨_, rfl, Below.refl _ _, optDef zβ rfl⟩
       refine ⟨⟨true, .none rfl, fun h w => optUndef h, fun zβ za zw zc => ?_⟩, ?_⟩
       ·exact wp_move rfl ((evt za 73).trans (optVal (zc.dep 2 73 (by kernel_rfl)) rfl rfl)) ⟨_, rfl, Below.refl _ _, optDef zβ rfl⟩
       refine ⟨⟨_, .yes (c := ((((x.2.1.length : Nat) : Int) : Int) == (0 : Int))) (d := true) rfl (fun v w h => h), fun h w => optUndef h, fun zβ za zw zc => ?_⟩, ?_⟩
       ·exact wp_move rfl (zc.kn.ev rfl) ⟨_, rfl, Below.refl _ _, optDef zβ rfl⟩
       refine ⟨⟨_, .yes (c := ((((x.2.1.length : Nat) : Int) : Int) == (0 : Int))) (d := true) rfl (fun v w h => h), fun h w => optUndef h, fun zβ za zw zc => ?_⟩, ?_⟩
       ·exact len_80 rfl ((evt za 75).trans (optVal (zc.dep 4 75 (by kernel_rfl)) rfl zβ)) ⟨_, rfl, Below.refl _ _, optDef zβ rfl⟩
       refine ⟨⟨_, .yes (c := ((((x.2.1.length : Nat) : Int) : Int) == (0 : Int))) (d := true) rfl (fun v w h => h), fun h w => optUndef h, fun zβ za zw zc => ?_⟩, ?_⟩
       ·exact eql_3 rfl ((evt za 76).trans (optVal (zc.dep 5 76 (by kernel_rfl)) rfl zβ)) (zc.kn.ev rfl) ⟨_, rfl, Below.refl _ _, optDef zβ rfl⟩
       refine ⟨⟨true, .none rfl, fun h w => optUndef h, fun zβ za zw zc => ?_⟩, ?_⟩
       ·exact wp_and rfl ((evt za 74).trans (optVal (zc.dep 3 74 (by kernel_rfl)) rfl rfl)) (fun hp => ((evt za 77).trans (optVal (zc.dep 6 77 (by kernel_rfl)) rfl (bMk zβ hp)))) ⟨_, rfl, Below.refl _ _, optDef zβ rfl⟩
       exact trivial
      ·intro za w122 zh hb123 zu
       have zh := zh.cons (d := 78) (v := .bool ((((((x.2.1.length : Nat) : Int) : Int) == (0 : Int)) && ((((x.2.2.2.2.length : Nat) : Int) : Int) == (0 : Int))))) (optVal (zu 7 78 (by kernel_rfl)) rfl rfl)
       clear zu
       refine WE.go zh ?_
       refine WE.next ?_
       refine WC.cond rfl (fun h124 => ?_) (fun h124 => ?_)
       ·have h124 : ((((x.2.1.length : Nat) : Int) : Int) = (0 : Int)) ∧ ((((x.2.2.2.2.length : Nat) : Int) : Int) = (0 : Int)) := by simpa using h124
        refine WC.seq (WC.region (WL.asg rfl rfl rfl rfl rfl (WL.nil (WE.next (WC.ret (WE.thenRet (WE.scopeRet (WE.ret1 rfl rfl ?_))))))))
        have hd : a.drop x.1 = [] := List.drop_eq_nil_of_le (by omega)
        rw [hd] at hM
        simp only [multiLR, List.append_nil] at hM
        have e0 : (x.2.1.isEmpty && x.2.2.2.2.isEmpty) = true := by
         have z := h124
         simpa using z
        have hb125 : Below w.heap.size w w122 := (bstep hb49 hb123)
        exact ⟨_, rfl, congrArg (Value.int .i64) (by rw [multiP_eq hM, e0]; simp []), hb125⟩
       ·have h124 : ¬ (((((x.2.1.length : Nat) : Int) : Int) = (0 : Int)) ∧ ((((x.2.2.2.2.length : Nat) : Int) : Int) = (0 : Int))) := by simpa using h124
        refine WC.skip (WE.next (WC.seq (WC.region ?_)))
        refine WL.val (.func (Fn.func 45) #[] #[.pointer (some ⟨g2, 0, none⟩)]) rfl rfl rfl (fun za zC zh zk => mkfn rfl (hv0) (hv1 (zh.ev rfl)) zk) ?_
        refine WL.asg rfl rfl rfl rfl rfl (WL.nil (WE.next (WC.seq (WC.block (WC.seq (WC.region (WL.mv rfl rfl rfl rfl rfl (WL.mv rfl rfl rfl rfl rfl (WL.mv rfl rfl rfl rfl rfl ?_)))))))))
        have hB126 := hB50.below hb123
        have ho127 := ho51.below hb123
        have ho128 := ho52.below hb123
        have hb129 : Below w.heap.size w w122 := (bstep hb49 hb123)
        refine WL.call rfl rfl rfl (fun za zh zC => wp_callv (by kernel_rfl) rfl (zh.ev rfl) (hv2 (zh.ev rfl) (zh.ev rfl))) (allR_any o go gy p1 p2 k1 k2 x.2.1 x.2.2.2.2 w _ g2 _ _ _ _ _ _ ho127.prow ho128 (fun y hy => hza y (hLm y hy)) (fun y hy => hzb y (hRm y hy)) (by omega) (by omega) hb129 hB ho hy hB126) ?_
        rintro _ w131 ⟨rfl, hq130⟩
        refine WL.asg rfl rfl rfl rfl rfl (WL.nil (WE.next ?_))
        refine WC.cond rfl (fun h132 => ?_) (fun h132 => ?_)
        ·skip
         refine WC.seq (WC.region (WL.asg rfl rfl rfl rfl rfl (WL.nil (WE.next (WC.ret (WE.blockRet (WE.thenRet (WE.scopeRet (WE.ret1 rfl rfl ?_)))))))))
         have hd : a.drop x.1 = [] := List.drop_eq_nil_of_le (by omega)
         rw [hd] at hM
         simp only [multiLR, List.append_nil] at hM
         have e0 : (x.2.1.isEmpty && x.2.2.2.2.isEmpty) = false := by
          have z := h124
          rw [Bool.eq_false_iff]; intro e; apply z; simpa using e
         have hb133 : Below w.heap.size w w131 := (bstep hb129 hq130)
         exact ⟨_, rfl, congrArg (Value.int .i64) (by rw [multiP_eq hM, e0]; simp [h132]), hb133⟩
        ·skip
         refine WC.seq (WC.region (WL.mv rfl rfl rfl rfl rfl (WL.mv rfl rfl rfl rfl rfl (WL.mv rfl rfl rfl rfl rfl ?_))))
         have hB134 := hB126.below hq130
         have ho135 := ho127.below hq130
         have ho136 := ho128.below hq130
         have hb137 : Below w.heap.size w w131 := (bstep hb129 hq130)
         refine WL.call rfl rfl rfl (fun za zh zC => wp_callv (by kernel_rfl) rfl (zh.ev rfl) (hv2 (zh.ev rfl) (zh.ev rfl))) (allR_any o go gy p1 p2 k1 k2 x.2.2.2.2 x.2.1 w _ g2 _ _ _ _ _ _ ho136 ho135.prow (fun y hy => hzb y (hRm y hy)) (fun y hy => hza y (hLm y hy)) (by omega) (by omega) hb137 hB ho hy hB134) ?_
         rintro _ w139 ⟨rfl, hq138⟩
         refine WL.asg rfl rfl rfl rfl rfl (WL.nil (WE.next ?_))
         refine WC.cond rfl (fun h140 => ?_) (fun h140 => ?_)
         ·skip
          refine WC.seq (WC.region (WL.asg rfl rfl rfl rfl rfl (WL.nil (WE.next (WC.ret (WE.blockRet (WE.thenRet (WE.scopeRet (WE.ret1 rfl rfl ?_)))))))))
          have hd : a.drop x.1 = [] := List.drop_eq_nil_of_le (by omega)
          rw [hd] at hM
          simp only [multiLR, List.append_nil] at hM
          have e0 : (x.2.1.isEmpty && x.2.2.2.2.isEmpty) = false := by
           have z := h124
           rw [Bool.eq_false_iff]; intro e; apply z; simpa using e
          have hb141 : Below w.heap.size w w139 := (bstep hb137 hq138)
          exact ⟨_, rfl, congrArg (Value.int .i64) (by rw [multiP_eq hM, e0]; simp [h132, h140]), hb141⟩
         ·skip
          refine WC.skip (WE.blockNormal (WE.next (WC.seq (WC.region (WL.asg rfl rfl rfl rfl rfl (WL.nil (WE.next (WC.ret (WE.scopeRet (WE.ret1 rfl rfl ?_))))))))))
          have hd : a.drop x.1 = [] := List.drop_eq_nil_of_le (by omega)
          rw [hd] at hM
          simp only [multiLR, List.append_nil] at hM
          have e0 : (x.2.1.isEmpty && x.2.2.2.2.isEmpty) = false := by
           have z := h124
           rw [Bool.eq_false_iff]; intro e; apply z; simpa using e
          have hb142 : Below w.heap.size w w139 := (bstep hb137 hq138)
          exact ⟨_, rfl, congrArg (Value.int .i64) (by rw [multiP_eq hM, e0]; simp [h132, h140]), hb142⟩
set_option maxRecDepth 100000 in
theorem members_any (x : Li) (w : World) (v : Value) (hx : IsLi w x v) : Calls Try.prog 27 #[v] w (Ret fun v' w' => RowR x.mems v' w' ∧ Below w.heap.size w w') := by
 obtain ⟨a1, a2, c1, c2, rfl, h1, h2⟩ := hx.form
 refine Calls.walk (l := [.agg #[.bool x.neg, .int .i64 x.l.f, .slice a1 x.l.args.length c1, .int .i64 x.r.f, .slice a2 x.r.args.length c2]]) Try.func27 rfl (by kernel_rfl) ?_
 refine WC.sub (K' := [(0, .agg #[.bool x.neg, .int .i64 x.l.f, .slice a1 x.l.args.length c1, .int .i64 x.r.f, .slice a2 x.r.args.length c2])]) ⟨rfl, trivial⟩ ?_
 refine WC.seq (WC.region ?_)
 refine WL.step (post := NewBlk w 32 #[.bool x.neg, .int .i64 x.l.f, .slice a1 x.l.args.length c1, .int .i64 x.r.f, .slice a2 x.r.args.length c2]) rfl rfl rfl (fun za zC zh zk => box_32 rfl (zh.ev rfl) (zk _ _ (newBlk _ _ _))) ?_
 rintro _ w1 ⟨g2, rfl, hg3, hB4, hb5, hz6⟩
 have hl7 : w.heap.size ≤ g2 := by omega
 refine WL.asg rfl rfl rfl rfl rfl (WL.nil (WE.next (WC.seq (WC.seq (WC.region ?_)))))
 refine WL.val _ rfl rfl rfl (fun za zC zh zk => fld_32_0 rfl (zh.ev rfl) zk) ?_
 refine WL.val _ rfl rfl rfl (fun za zC zh zk => ld_4 rfl (zh.ev rfl) ((hB4.cell 0).trans rfl) zk) ?_
 refine WL.nil (WE.next ?_)
 refine WC.cond rfl (fun h8 => ?_) (fun h8 => ?_)
 ·skip
  refine WC.seq (WC.region ?_)
  refine WL.val _ rfl rfl rfl (fun za zC zh zk => fld_32_1 rfl (zh.ev rfl) zk) ?_
  refine WL.val _ rfl rfl rfl (fun za zC zh zk => ld_30 rfl (zh.ev rfl) ((hB4.cell 1).trans rfl) ((hB4.cell 2).trans rfl) zk) ?_
  refine WL.val _ rfl rfl rfl (fun za zC zh zk => fld_32_2 rfl (zh.ev rfl) zk) ?_
  refine WL.val _ rfl rfl rfl (fun za zC zh zk => ld_30 rfl (zh.ev rfl) ((hB4.cell 3).trans rfl) ((hB4.cell 4).trans rfl) zk) ?_
  refine WL.step (post := NewRow w1 30 #[.int .i64 x.l.f, .slice a1 x.l.args.length c1, .int .i64 x.r.f, .slice a2 x.r.args.length c2] 2) rfl rfl rfl (fun za zC zh zk => row_28_2 rfl (zh.ev rfl) (zh.ev rfl) (zk _ _ (newRow _ _ _ _))) ?_
  rintro _ w9 ⟨g10, rfl, hg11, hB12, hb13, hz14⟩
  have hl15 : g2 < g10 := by have z1 := hB4.lt; omega
  have hl16 : w.heap.size ≤ g10 := by have z2 := (hb5).size; omega
  refine WL.step (post := NewRow w9 28 #[.slice ((some ⟨g10, 0, none⟩)) 2 2] 1) rfl rfl rfl (fun za zC zh zk => row_68_1 rfl (zh.ev rfl) (zk _ _ (newRow _ _ _ _))) ?_
  rintro _ w17 ⟨g18, rfl, hg19, hB20, hb21, hz22⟩
  have hl23 : g2 < g18 := by have z1 := hB4.lt; have z2 := (hb13).size; omega
  have hl24 : g10 < g18 := by have z1 := hB12.lt; omega
  have hb25 : Below w.heap.size w w9 := (bstep hb5 hb13)
  have hl26 : w.heap.size ≤ g18 := by have z2 := (hb25).size; omega
  refine WL.asg rfl rfl rfl rfl rfl (WL.nil (WE.next (WC.ret (WE.thenRet (WE.ret1 rfl rfl ?_)))))
  have hB27 := hB12.below hb21
  have hb28 : Below w.heap.size w w17 := (bstep hb25 hb21)
  exact ⟨_, rfl, by rw [show x.mems = [[x.l, x.r]] from if_pos h8]; exact ⟨_, _, rfl, isRs_one hB20 (isTs_two hB27 (h1.below hb28) (h2.below hb28)) rfl⟩, hb28⟩
 ·skip
  refine WC.skip (WE.next (WC.seq (WC.region ?_)))
  refine WL.val _ rfl rfl rfl (fun za zC zh zk => fld_32_1 rfl (zh.ev rfl) zk) ?_
  refine WL.val _ rfl rfl rfl (fun za zC zh zk => ld_30 rfl (zh.ev rfl) ((hB4.cell 1).trans rfl) ((hB4.cell 2).trans rfl) zk) ?_
  refine WL.step (post := NewRow w1 30 #[.int .i64 x.l.f, .slice a1 x.l.args.length c1] 1) rfl rfl rfl (fun za zC zh zk => row_28_1 rfl (zh.ev rfl) (zk _ _ (newRow _ _ _ _))) ?_
  rintro _ w29 ⟨g30, rfl, hg31, hB32, hb33, hz34⟩
  have hl35 : g2 < g30 := by have z1 := hB4.lt; omega
  have hl36 : w.heap.size ≤ g30 := by have z2 := (hb5).size; omega
  refine WL.val _ rfl rfl rfl (fun za zC zh zk => fld_32_2 rfl (zh.ev rfl) zk) ?_
  have hB37 := hB4.below hb33
  refine WL.val _ rfl rfl rfl (fun za zC zh zk => ld_30 rfl (zh.ev rfl) ((hB37.cell 3).trans rfl) ((hB37.cell 4).trans rfl) zk) ?_
  refine WL.step (post := NewRow w29 30 #[.int .i64 x.r.f, .slice a2 x.r.args.length c2] 1) rfl rfl rfl (fun za zC zh zk => row_28_1 rfl (zh.ev rfl) (zk _ _ (newRow _ _ _ _))) ?_
  rintro _ w38 ⟨g39, rfl, hg40, hB41, hb42, hz43⟩
  have hl44 : g2 < g39 := by have z1 := hB37.lt; omega
  have hl45 : g30 < g39 := by have z1 := hB32.lt; omega
  have hb46 : Below w.heap.size w w29 := (bstep hb5 hb33)
  have hl47 : w.heap.size ≤ g39 := by have z2 := (hb46).size; omega
  refine WL.step (post := NewRow w38 28 #[.slice ((some ⟨g30, 0, none⟩)) 1 1, .slice ((some ⟨g39, 0, none⟩)) 1 1] 2) rfl rfl rfl (fun za zC zh zk => row_68_2 rfl (zh.ev rfl) (zh.ev rfl) (zk _ _ (newRow _ _ _ _))) ?_
  rintro _ w48 ⟨g49, rfl, hg50, hB51, hb52, hz53⟩
  have hl54 : g2 < g49 := by have z1 := hB37.lt; have z2 := (hb42).size; omega
  have hl55 : g30 < g49 := by have z1 := hB32.lt; have z2 := (hb42).size; omega
  have hl56 : g39 < g49 := by have z1 := hB41.lt; omega
  have hb57 : Below w.heap.size w w38 := (bstep hb46 hb42)
  have hl58 : w.heap.size ≤ g49 := by have z2 := (hb57).size; omega
  refine WL.asg rfl rfl rfl rfl rfl (WL.nil (WE.next (WC.ret (WE.ret1 rfl rfl ?_))))
  have hb60 : Below w29.heap.size w29 w48 := (bstep hb42 hb52)
  have hB59 := hB32.below hb60
  have hB61 := hB41.below hb52
  have hb62 : Below w.heap.size w w48 := (bstep hb46 hb60)
  exact ⟨_, rfl, by rw [show x.mems = [[x.l], [x.r]] from if_neg (by rw [h8]; exact Bool.false_ne_true)]; exact ⟨_, _, rfl, isRs_two hB51 (isTs_one hB59 (h1.below hb62)) (isTs_one hB61 (h2.below hb62)) rfl rfl⟩, hb62⟩
set_option maxRecDepth 100000 in
theorem oknows_any (o : Od) (w : World) (p1 p2 : Option Addr) (k1 k2 : Nat) : Calls Try.prog 25 #[.agg #[.bool o.lpo, .slice p1 o.prec.length k1, .slice p2 o.weights.length k2, .int .i64 o.var]] w (Ret fun v' w' => (∃ go, v' = .func (.func 43) #[] #[.pointer (some ⟨go, 0, none⟩)] ∧ Blk w' go 27 #[.bool o.lpo, .slice p1 o.prec.length k1, .slice p2 o.weights.length k2, .int .i64 o.var]) ∧ Below w.heap.size w w') := by
 refine Calls.walk (l := [.agg #[.bool o.lpo, .slice p1 o.prec.length k1, .slice p2 o.weights.length k2, .int .i64 o.var]]) Try.func25 rfl (by kernel_rfl) ?_
 refine WC.sub (K' := [(0, .agg #[.bool o.lpo, .slice p1 o.prec.length k1, .slice p2 o.weights.length k2, .int .i64 o.var])]) ⟨rfl, trivial⟩ ?_
 refine WC.seq (WC.region ?_)
 refine WL.step (post := NewBlk w 27 #[.bool o.lpo, .slice p1 o.prec.length k1, .slice p2 o.weights.length k2, .int .i64 o.var]) rfl rfl rfl (fun za zC zh zk => box_27 rfl (zh.ev rfl) (zk _ _ (newBlk _ _ _))) ?_
 rintro _ w1 ⟨g2, rfl, hg3, hB4, hb5, hz6⟩
 have hl7 : w.heap.size ≤ g2 := by omega
 refine WL.asg rfl rfl rfl rfl rfl (WL.nil (WE.next (WC.seq (WC.region ?_))))
 refine WL.val (.func (Fn.func 43) #[] #[.pointer (some ⟨g2, 0, none⟩)]) rfl rfl rfl (fun za zC zh zk => mkfn rfl (hv0) (hv1 (zh.ev rfl)) zk) ?_
 refine WL.asg rfl rfl rfl rfl rfl (WL.nil (WE.next (WC.ret (WE.ret1 rfl rfl ?_))))
 exact ⟨_, rfl, ⟨_, rfl, hB4⟩, hb5⟩
/-- How two literals stand. -/
def Od.lits (o : Od) (x y : Li) : Int := multiP (multiP o.ok2) x.mems y.mems
set_option maxRecDepth 100000 in
theorem olits_any (o : Od) (x y : Li) (w : World) (vo v u : Value) (ho0 : IsOd w o vo) (hx : IsLi w x v) (hy0 : IsLi w y u) (zx : x.l.size ≤ 4294967296 ∧ x.r.size ≤ 4294967296) (zy : y.l.size ≤ 4294967296 ∧ y.r.size ≤ 4294967296) :
  Calls Try.prog 11 #[vo, v, u] w (Ret fun v' w' => v' = .int .i64 (o.lits x y) ∧ Below w.heap.size w w') := by
 have hxx := hx
 have hyy := hy0
 have hoo := ho0
 obtain ⟨p1, p2, k1, k2, rfl, _⟩ := ho0
 obtain ⟨a1, a2, c1, c2, rfl, h1, h2⟩ := hx.form
 obtain ⟨a1y, a2y, c1y, c2y, rfl, h1y, h2y⟩ := hy0.form
 have hsm : ∀ {x : Li}, (x.l.size ≤ 4294967296 ∧ x.r.size ≤ 4294967296) → ∀ l ∈ x.mems, SmallR l := fun z l hl => by
  have q := Li.mems_all l hl
  exact ⟨by omega, fun t ht => (q.2 t ht).elim (fun e => e ▸ z.1) (fun e => e ▸ z.2)⟩
 refine Calls.walk (l := [.agg #[.bool o.lpo, .slice p1 o.prec.length k1, .slice p2 o.weights.length k2, .int .i64 o.var], .agg #[.bool x.neg, .int .i64 x.l.f, .slice a1 x.l.args.length c1, .int .i64 x.r.f, .slice a2 x.r.args.length c2], .agg #[.bool y.neg, .int .i64 y.l.f, .slice a1y y.l.args.length c1y, .int .i64 y.r.f, .slice a2y y.r.args.length c2y]]) Try.func11 rfl (by kernel_rfl) ?_
 refine WC.sub (K' := [(0, .agg #[.bool o.lpo, .slice p1 o.prec.length k1, .slice p2 o.weights.length k2, .int .i64 o.var]), (1, .agg #[.bool x.neg, .int .i64 x.l.f, .slice a1 x.l.args.length c1, .int .i64 x.r.f, .slice a2 x.r.args.length c2]), (2, .agg #[.bool y.neg, .int .i64 y.l.f, .slice a1y y.l.args.length c1y, .int .i64 y.r.f, .slice a2y y.r.args.length c2y])]) ⟨rfl, rfl, rfl, trivial⟩ ?_
 refine WC.seq (WC.region ?_)
 refine WL.step (post := NewBlk w 27 #[.bool o.lpo, .slice p1 o.prec.length k1, .slice p2 o.weights.length k2, .int .i64 o.var]) rfl rfl rfl (fun za zC zh zk => box_27 rfl (zh.ev rfl) (zk _ _ (newBlk _ _ _))) ?_
 rintro _ w1 ⟨g2, rfl, hg3, hB4, hb5, hz6⟩
 have hl7 : w.heap.size ≤ g2 := by omega
 refine WL.step (post := NewBlk w1 32 #[.bool x.neg, .int .i64 x.l.f, .slice a1 x.l.args.length c1, .int .i64 x.r.f, .slice a2 x.r.args.length c2]) rfl rfl rfl (fun za zC zh zk => box_32 rfl (zh.ev rfl) (zk _ _ (newBlk _ _ _))) ?_
 rintro _ w8 ⟨g9, rfl, hg10, hB11, hb12, hz13⟩
 have hl14 : g2 < g9 := by have z1 := hB4.lt; omega
 have hl15 : w.heap.size ≤ g9 := by have z2 := (hb5).size; omega
 refine WL.step (post := NewBlk w8 32 #[.bool y.neg, .int .i64 y.l.f, .slice a1y y.l.args.length c1y, .int .i64 y.r.f, .slice a2y y.r.args.length c2y]) rfl rfl rfl (fun za zC zh zk => box_32 rfl (zh.ev rfl) (zk _ _ (newBlk _ _ _))) ?_
 rintro _ w16 ⟨g17, rfl, hg18, hB19, hb20, hz21⟩
 have hl22 : g2 < g17 := by have z1 := hB4.lt; have z2 := (hb12).size; omega
 have hl23 : g9 < g17 := by have z1 := hB11.lt; omega
 have hb24 : Below w.heap.size w w8 := (bstep hb5 hb12)
 have hl25 : w.heap.size ≤ g17 := by have z2 := (hb24).size; omega
 refine WL.asg rfl rfl rfl rfl rfl (WL.nil (WE.next (WC.seq (WC.region ?_))))
 have hb27 : Below w1.heap.size w1 w16 := (bstep hb12 hb20)
 have hB26 := hB4.below hb27
 refine WL.val _ rfl rfl rfl (fun za zC zh zk => ld_27 rfl (zh.ev rfl) ((hB26.cell 0).trans rfl) ((hB26.cell 1).trans rfl) ((hB26.cell 2).trans rfl) ((hB26.cell 3).trans rfl) zk) ?_
 refine WL.call rfl rfl rfl (fun za zh zC => wp_call (by kernel_rfl) rfl (hv1 (zh.ev rfl))) (oknows_any o _ p1 p2 k1 k2) ?_
 rintro v30 w31 ⟨hB28, hb29⟩
 obtain ⟨go, rfl, hB28⟩ := hB28
 refine WL.step (post := NewBlk w31 65 #[.nilFunc]) rfl rfl rfl (fun za zC zh zk => alloc_65 rfl (zk _ _ (newBlk _ _ _))) ?_
 rintro _ w32 ⟨g33, rfl, hg34, hB35, hb36, hz37⟩
 have hl38 : g2 < g33 := by have z1 := hB26.lt; have z2 := (hb29).size; omega
 have hb39 : Below w8.heap.size w8 w31 := (bstep hb20 hb29)
 have hl40 : g9 < g33 := by have z1 := hB11.lt; have z2 := (hb39).size; omega
 have hl41 : g17 < g33 := by have z1 := hB19.lt; have z2 := (hb29).size; omega
 have hl42 : go < g33 := by have z1 := hB28.lt; omega
 have hb43 : Below w.heap.size w w31 := (bstep hb24 hb39)
 have hl44 : w.heap.size ≤ g33 := by have z2 := (hb43).size; omega
 refine WL.step (post := fun _ w' => Upd g33 w32 w' ∧ Blk w' g33 65 #[.func (.func 43) #[] #[.pointer (some ⟨go, 0, none⟩)]]) rfl rfl rfl (fun za zC zh zk => st_65 rfl (zh.ev rfl) (zh.ev rfl) hB35 (by first | decide | simp) (fun v => zk v _ ⟨Upd.at_ _ _ _ _, hB35.set_ 0 _⟩)) ?_
 rintro v48 w45 ⟨hu46, hB47⟩
 have hb49 : Below w.heap.size w w32 := (bstep hb43 hb36)
 have hb50 := upd_below hb49 hu46 (by omega)
 have hb52 : Below w16.heap.size w16 w32 := (bstep hb29 hb36)
 have hB51 := hB26.below hb52
 have hB53 := upd_blk hB51 hu46 (by omega)
 have hb55 : Below w8.heap.size w8 w32 := (bstep hb20 hb52)
 have hB54 := hB11.below hb55
 have hB56 := upd_blk hB54 hu46 (by omega)
 have hB57 := hB19.below hb52
 have hB58 := upd_blk hB57 hu46 (by omega)
 have hB59 := hB28.below hb36
 have hB60 := upd_blk hB59 hu46 (by omega)
 refine WL.nil (WE.next (WC.seq ?_))
 refine WC.opt [(true, .val (.agg #[.bool x.neg, .int .i64 x.l.f, .slice a1 x.l.args.length c1, .int .i64 x.r.f, .slice a2 x.r.args.length c2])), (true, .mem (RowR x.mems) (RowR.keep)), (true, .val (.agg #[.bool y.neg, .int .i64 y.l.f, .slice a1y y.l.args.length c1y, .int .i64 y.r.f, .slice a2y y.r.args.length c2y])), (true, .mem (RowR y.mems) (RowR.keep)), (true, .val (.func (Fn.func 28) #[] #[.pointer (some ⟨g33, 0, none⟩)])), (true, .val (.int .i64 ((o.lits x y)))), (true, .val (.int .i64 ((o.lits x y))))] [(0, .agg #[.bool o.lpo, .slice p1 o.prec.length k1, .slice p2 o.weights.length k2, .int .i64 o.var]), (1, .agg #[.bool x.neg, .int .i64 x.l.f, .slice a1 x.l.args.length c1, .int .i64 x.r.f, .slice a2 x.r.args.length c2]), (2, .agg #[.bool y.neg, .int .i64 y.l.f, .slice a1y y.l.args.length c1y, .int .i64 y.r.f, .slice a2y y.r.args.length c2y]), (3, .pointer (some ⟨g2, 0, none⟩)), (4, .pointer (some ⟨g9, 0, none⟩)), (5, .pointer (some ⟨g17, 0, none⟩)), (7, .pointer (some ⟨g33, 0, none⟩))] ⟨rfl, rfl, rfl, rfl, rfl, rfl, rfl, trivial⟩ (by kernel_rfl) (by kernel_rfl) (by kernel_rfl) ?_ ?_
 ·refine ⟨⟨true, .none rfl, fun h w => optUndef h, fun zβ za zw zc => ?_⟩, ?_⟩
  ·exact ld_32 rfl (zc.kn.ev rfl) (bkeeps zc.below _ _ ((hB56.cell 0).trans rfl)) (bkeeps zc.below _ _ ((hB56.cell 1).trans rfl)) (bkeeps zc.below _ _ ((hB56.cell 2).trans rfl)) (bkeeps zc.below _ _ ((hB56.cell 3).trans rfl)) (bkeeps zc.below _ _ ((hB56.cell 4).trans rfl)) ⟨_, rfl, Below.refl _ _, optDef zβ rfl⟩
  refine ⟨⟨true, .none rfl, fun h w => optUndef h, fun zβ za zw zc => ?_⟩, ?_⟩
  ·exact wp_call (by kernel_rfl) rfl (hv1 ((evt za 10).trans (optVal (zc.dep 0 10 (by kernel_rfl)) rfl rfl))) (members_any x _ _ (hxx.below (bstep hb50 zc.below))) (fun v w' h => ⟨v, rfl, h.2, optDef zβ h.1⟩)
  refine ⟨⟨true, .none rfl, fun h w => optUndef h, fun zβ za zw zc => ?_⟩, ?_⟩
  ·exact ld_32 rfl (zc.kn.ev rfl) (bkeeps zc.below _ _ ((hB58.cell 0).trans rfl)) (bkeeps zc.below _ _ ((hB58.cell 1).trans rfl)) (bkeeps zc.below _ _ ((hB58.cell 2).trans rfl)) (bkeeps zc.below _ _ ((hB58.cell 3).trans rfl)) (bkeeps zc.below _ _ ((hB58.cell 4).trans rfl)) ⟨_, rfl, Below.refl _ _, optDef zβ rfl⟩
  refine ⟨⟨true, .none rfl, fun h w => optUndef h, fun zβ za zw zc => ?_⟩, ?_⟩
  ·exact wp_call (by kernel_rfl) rfl (hv1 ((evt za 12).trans (optVal (zc.dep 2 12 (by kernel_rfl)) rfl rfl))) (members_any y _ _ (hyy.below (bstep hb50 zc.below))) (fun v w' h => ⟨v, rfl, h.2, optDef zβ h.1⟩)
  refine ⟨⟨true, .none rfl, fun h w => optUndef h, fun zβ za zw zc => ?_⟩, ?_⟩
  ·exact mkfn rfl (hv0) (hv1 (zc.kn.ev rfl)) ⟨_, rfl, Below.refl _ _, optDef zβ rfl⟩
  refine ⟨⟨true, .none rfl, fun h w => optUndef h, fun zβ za zw zc => ?_⟩, ?_⟩
  ·obtain ⟨a3, c3, e3, hr1⟩ := (optMem (zc.dep 1 11 (by kernel_rfl)) rfl rfl)
   obtain ⟨a4, c4, e4, hr2⟩ := (optMem (zc.dep 3 13 (by kernel_rfl)) rfl rfl)
   exact wp_call (by kernel_rfl) rfl (hv3 ((evt za 11).trans e3) ((evt za 13).trans e4) ((evt za 14).trans (optVal (zc.dep 4 14 (by kernel_rfl)) rfl rfl))) (multiR_any o go g33 p1 p2 k1 k2 x.mems y.mems _ _ _ _ _ hr1 hr2 (hB60.below zc.below) (hoo.below (bstep hb50 zc.below)) (hB47.below zc.below) (hsm zx) (hsm zy) (by have z := x.mems_len; omega) (by have z := y.mems_len; omega)) (fun v w' h => ⟨v, rfl, h.2, optDef zβ h.1⟩)
  refine ⟨⟨true, .none rfl, fun h w => optUndef h, fun zβ za zw zc => ?_⟩, ?_⟩
  ·exact wp_assign rfl ((evt za 15).trans (optVal (zc.dep 5 15 (by kernel_rfl)) rfl rfl)) ⟨_, rfl, Below.refl _ _, optDef zβ rfl⟩
  exact trivial
 ·intro za w61 zh hb62 zu
  have zh := zh.cons (d := 6) (v := .int .i64 ((o.lits x y))) (optVal (zu 6 6 (by kernel_rfl)) rfl rfl)
  clear zu
  refine WE.go zh ?_
  refine WE.next (WC.ret (WE.ret1 rfl rfl ?_))
  have hb63 : Below w.heap.size w w61 := (bstep hb50 hb62)
  exact ⟨_, rfl, rfl, hb63⟩
end Go.Proofs.Ytmdpiafeiopimaa

/- How two clauses stand; which literals are maximal. -/
namespace Go.Proofs.Ytmdpiafeiopimaa
open Go.RowKit Go
set_option linter.unusedVariables false
set_option linter.unusedSimpArgs false
/-- A literal that may be compared. -/
def SmallLi (x : Li) : Prop := x.l.size ≤ 4294967296 ∧ x.r.size ≤ 4294967296
/-- Is the i-th literal of a clause maximal? -/
def Od.maxAt (o : Od) (c : List Li) (i : Nat) (s : Bool) : Bool := (List.range c.length).all fun j => j == i || !(trn (o.lits (lget c i) (lget c j)) == 3 || (s && trn (o.lits (lget c i) (lget c j)) == 2))
end Go.Proofs.Ytmdpiafeiopimaa

/- The walks through the document's check of an order: ranks, highest. -/
namespace Go.Proofs.Ytmdpiafeiopimaa
open Go.RowKit Go.Sort Go
/-- Ranks that differ, none but the first one as low as the first one. -/
def Ranks (p : List Int) : Prop := ∀ i (_ : i < p.length), (0 < i → p.getD 0 0 < p.getD i 0) ∧ ∀ k, k < i → p.getD i 0 ≠ p.getD k 0
set_option maxHeartbeats 2000000 in
theorem ranks_any (p : List Int) (n : Int) (w : World) (a : Option Addr) (c : Nat) (hc : p.length ≤ c) (hm : c ≤ maxLen) (hl : IsInts w p a) :
    Calls Try.prog 34 #[.slice a p.length c, .int .i64 n] w fun e w' => (∃ b, e = .returned (.bool b) ∧ (b = true → (p.length : Int) = n ∧ Ranks p)) ∧ Below w.heap.size w w' := by
  unfold maxLen at hm
  by_cases h0 : (p.length : Int) = n
  · have hb0 : ((p.length : Int) == n) = true := by simpa using h0
    subst h0
    go_enter Try.func34, Try.ntmps34
    go_wp2_with fail
    go_loopw [5, 6] (fun i _ wr => ∃ (k : Nat), k ≤ p.length ∧ i = .int .i64 k ∧ Hid (∀ j, j < k → (0 < j → p.getD 0 0 < p.getD j 0) ∧ ∀ m, m < j → p.getD j 0 ≠ p.getD m 0) ∧ Below w.heap.size w wr) (fun i _ _ => p.length - (intOf i).toNat)
    case atStart => exact ⟨0, Nat.zero_le _, rfl, fun j hj => absurd hj (by omega), Below.refl _ _⟩
    case round =>
      obtain ⟨k, hk, rfl, hall, hw⟩ := hrel
      by_cases hlt : k < p.length
      · obtain ⟨b, o, rfl, g0, _⟩ := hl.at_ hw k hlt
        obtain ⟨b', o', e', g1, _⟩ := hl.at_ hw 0 (by omega)
        simp only [Option.some.injEq, Addr.mk.injEq, and_true] at e'
        obtain ⟨rfl, rfl⟩ := e'
        simp only [Nat.add_zero] at g1
        have z0 : (0 : Int) ≤ (k : Int) := by omega
        have z1 : (k : Int) < (p.length : Int) := by omega
        have z2 : (0 : Int) < (p.length : Int) := by omega
        have z3 : 0 < p.length := by omega
        have r0 := cell_regrown g0
        have r1 := cell_regrown g1
        have e0 : p.getD k 0 = p[k] := by simp [hlt]
        have e1 : p.getD 0 0 = p[0] := by simp [show 0 < p.length by omega]
        by_cases hk0 : 0 < k
        · have hk0' : (0 : Int) < (k : Int) := by omega
          by_cases hle : p[k] ≤ p[0]
          · have Hhw := Lib.hid hw
            have Hhall := Lib.hid hall
            have He0 := Lib.hid e0
            have He1 := Lib.hid e1
            clear hw hall e0 e1
            go_wp2_with fail
            refine wp_region_quiet_below (by kernel_rfl) (by kernel_rfl) ?_
            repeat (quiet_step (fail))
            refine wpQuiet_nil ?_
            intro _ hw'
            obtain ⟨⟨dq, osq⟩, hw''⟩ := hw'
            subst hw''
            have hbq := below_regrown wr dq osq
            generalize grow (redrawn wr dq) osq = wq at hbq ⊢
            go_wp2_with fail
            go_ret
            exact ⟨⟨_, rfl, fun h => by cases h⟩, bstep Hhw.out hbq⟩
          · have Hhw := Lib.hid hw
            have Hhall := Lib.hid hall
            have He0 := Lib.hid e0
            have He1 := Lib.hid e1
            clear hw hall e0 e1
            go_wp2_with fail
            refine wp_region_quiet_below (by kernel_rfl) (by kernel_rfl) ?_
            repeat (quiet_step (fail))
            refine wpQuiet_nil ?_
            intro _ hw'
            obtain ⟨⟨dq, osq⟩, hw''⟩ := hw'
            subst hw''
            have hbq := below_regrown wr dq osq
            generalize grow (redrawn wr dq) osq = wq at hbq ⊢
            have hw1 := Lib.hid (bstep Hhw.out hbq)
            clear r0 r1 Hhw
            have g0 := bkeeps hbq _ _ g0
            go_wp2_with fail
            go_loopw [6] (fun j wr => ∃ (m : Nat), m ≤ k ∧ j = .int .i64 m ∧ Hid (∀ x, x < m → p.getD k 0 ≠ p.getD x 0) ∧ Below w.heap.size w wr) (fun j _ => k - (intOf j).toNat)
            case atStart => exact ⟨0, Nat.zero_le _, rfl, fun x hx => absurd hx (by omega), hw1.out⟩
            case round =>
              obtain ⟨m, hm, rfl, hin, hw⟩ := hrel
              by_cases hmk : m < k
              · obtain ⟨b', o', e', g1, _⟩ := hl.at_ hw m (by omega)
                obtain ⟨b2, o2, e2, g2, _⟩ := hl.at_ hw k hlt
                simp only [Option.some.injEq, Addr.mk.injEq, and_true] at e' e2
                obtain ⟨rfl, rfl⟩ := e'
                obtain ⟨rfl, rfl⟩ := e2
                have r0 := cell_regrown g2
                have r1 := cell_regrown g1
                have y0 : (0 : Int) ≤ (m : Int) := by omega
                have y1 : (m : Int) < (p.length : Int) := by omega
                have e3 : p.getD m 0 = p[m]'(by omega) := by simp [show m < p.length by omega]
                by_cases heq : p[k] = p[m]
                · have hbe : (p[k] == p[m]) = true := by simpa using heq
                  have Hhw := Lib.hid hw
                  have Hhin := Lib.hid hin
                  have He3 := Lib.hid e3
                  clear hw hin e3
                  clear heq
                  go_wp2_with fail
                  refine wp_region_quiet_below (by kernel_rfl) (by kernel_rfl) ?_
                  repeat (quiet_step (fail))
                  refine wpQuiet_nil ?_
                  intro _ hw'
                  obtain ⟨⟨dq, osq⟩, hw''⟩ := hw'
                  subst hw''
                  have hbq := below_regrown wr dq osq
                  generalize grow (redrawn wr dq) osq = wq at hbq ⊢
                  go_wp2_with fail
                  go_ret
                  exact ⟨⟨_, rfl, fun h => by cases h⟩, bstep Hhw.out hbq⟩
                · have hbe : (p[k] == p[m]) = false := by simpa using heq
                  have hne := Lib.hid heq
                  have Hhw := Lib.hid hw
                  have Hhin := Lib.hid hin
                  have He3 := Lib.hid e3
                  clear hw hin e3
                  clear heq
                  go_wp2_with fail
                  refine wp_region_quiet_below (by kernel_rfl) (by kernel_rfl) ?_
                  repeat (quiet_step (fail))
                  refine wpQuiet_nil ?_
                  intro _ hw'
                  obtain ⟨⟨dq, osq⟩, hw''⟩ := hw'
                  subst hw''
                  have hbq := below_regrown wr dq osq
                  generalize grow (redrawn wr dq) osq = wq at hbq ⊢
                  go_wp2_with fail
                  go_roundw
                  case rel =>
                    refine ⟨m + 1, by omega, by go_num, fun x hx => ?_, bstep Hhw.out hbq⟩
                    by_cases hxm : x = m
                    · subst hxm; rw [He0.out, He3.out]; exact hne.out
                    · exact Hhin.out x (by omega)
                  case measure => simp [intOf]; omega
              · obtain rfl : m = k := by omega
                have Hhw := Lib.hid hw
                have Hhin := Lib.hid hin
                clear hw hin
                go_wp2_with fail
                go_roundw
                case rel =>
                  refine ⟨m + 1, by omega, by go_num, fun j hj => ?_, Hhw.out⟩
                  by_cases hjm : j = m
                  · subst hjm; exact ⟨(by have h0 := He0.out; have h1 := He1.out; intro _; omega), Hhin.out⟩
                  · exact Hhall.out j (by omega)
                case measure => simp [intOf]; omega
        · obtain rfl : k = 0 := by omega
          clear r0 r1 g0 g1 e0 e1 z0 z1 z2 hk0
          have Hhw := Lib.hid hw
          have Hhall := Lib.hid hall
          clear hw hall
          go_wp2_with fail
          go_region
          go_wp2_with fail
          go_loopw [6] (fun j wr => j = .int .i64 0 ∧ Hid (Below w.heap.size w wr)) (fun _ _ => 0)
          case atStart => exact ⟨by first | rfl | trivial, by first | exact Hhw.out.drew | trivial⟩
          case round =>
            obtain ⟨rfl, hw2⟩ := hrel
            go_wp2_with fail
            go_roundw
            case rel => exact ⟨1, by omega, by go_num, fun j hj => ⟨fun h => absurd h (by omega), fun m hm => absurd hm (by omega)⟩, hw2.out⟩
            case measure => simp [intOf]; omega
      · obtain rfl : k = p.length := by omega
        go_wp2_with fail
        go_ret
        exact ⟨⟨_, rfl, fun _ => ⟨by first | rfl | trivial, fun i hi => hall.out i hi⟩⟩, hw⟩
  · have hb0 : ((p.length : Int) == n) = false := by simpa using h0
    go_enter Try.func34, Try.ntmps34
    go_wp2_with fail
    go_ret
    exact ⟨⟨_, rfl, fun h => by cases h⟩, Below.refl _ _⟩
/-- Has no symbol a higher rank? -/
def high (p : List Int) (i : Nat) : Bool := decide (∀ k, k < p.length → p.getD k 0 ≤ p.getD i 0)
set_option maxHeartbeats 1000000 in
theorem highest_any (p : List Int) (i : Nat) (w : World) (a : Option Addr) (c : Nat) (hi : i < p.length) (hc : p.length ≤ c) (hm : c ≤ maxLen) (hl : IsInts w p a) :
    Calls Try.prog 35 #[.slice a p.length c, .int .i64 i] w fun e w' => e = .returned (.bool (high p i)) ∧ Below w.heap.size w w' := by
  unfold maxLen at hm
  go_enter Try.func35, Try.ntmps35
  go_wp2_with fail
  go_loopw [5] (fun j wr => ∃ (k : Nat), k ≤ p.length ∧ j = .int .i64 k ∧ Hid (∀ x, x < k → p.getD x 0 ≤ p.getD i 0) ∧ Below w.heap.size w wr) (fun j _ => p.length - (intOf j).toNat)
  case atStart => exact ⟨0, Nat.zero_le _, rfl, fun x hx => absurd hx (by omega), Below.refl _ _⟩
  case round =>
    obtain ⟨k, hk, rfl, hall, hw⟩ := hrel
    by_cases hlt : k < p.length
    · obtain ⟨b, o, rfl, g0, _⟩ := hl.at_ hw k hlt
      obtain ⟨b', o', e', g1, _⟩ := hl.at_ hw i hi
      simp only [Option.some.injEq, Addr.mk.injEq, and_true] at e'
      obtain ⟨rfl, rfl⟩ := e'
      have z0 : (0 : Int) ≤ (k : Int) := by omega
      have z1 : (k : Int) < (p.length : Int) := by omega
      have z2 : (0 : Int) ≤ (i : Int) := by omega
      have z3 : (i : Int) < (p.length : Int) := by omega
      have e0 : p.getD k 0 = p[k] := by simp [hlt]
      have e1 : p.getD i 0 = p[i] := by simp [hi]
      by_cases hki : k = i
      · subst hki
        have Hhw := Lib.hid hw
        have Hhall := Lib.hid hall
        clear hw hall
        clear g0 g1 e0 e1
        go_wp2_with fail
        go_region
        go_wp2_with fail
        go_roundw
        case rel =>
          refine ⟨k + 1, by omega, by go_num, fun x hx => ?_, Hhw.out.drew⟩
          by_cases hxk : x = k
          · subst hxk; omega
          · exact Hhall.out x (by omega)
        case measure => simp [intOf]; omega
      · have hb : ((k : Int) == (i : Int)) = false := by simp only [beq_eq_false_iff_ne, ne_eq]; omega
        have hb2 : ¬ (k : Int) = (i : Int) := by omega
        have r0 := cell_regrown g0
        have r1 := cell_regrown g1
        by_cases hgt : p[i] < p[k]
        · have HV := Lib.hid (show high p i = false from decide_eq_false (fun h => by have := h k hlt; omega))
          have Hhw := Lib.hid hw
          have Hhall := Lib.hid hall
          have He0 := Lib.hid e0
          have He1 := Lib.hid e1
          clear hw hall e0 e1
          go_wp2_with fail
          refine wp_region_quiet_below (by kernel_rfl) (by kernel_rfl) ?_
          repeat (quiet_step (fail))
          refine wpQuiet_nil ?_
          intro _ hw'
          obtain ⟨⟨dq, osq⟩, hw''⟩ := hw'
          subst hw''
          have hbq := below_regrown wr dq osq
          generalize grow (redrawn wr dq) osq = wq at hbq ⊢
          go_wp2_with fail
          go_ret
          exact ⟨rbool HV.out, bstep Hhw.out hbq⟩
        · have hle := Lib.hid hgt
          have Hhw := Lib.hid hw
          have Hhall := Lib.hid hall
          have He0 := Lib.hid e0
          have He1 := Lib.hid e1
          clear hw hall e0 e1
          go_wp2_with fail
          refine wp_region_quiet_below (by kernel_rfl) (by kernel_rfl) ?_
          repeat (quiet_step (fail))
          refine wpQuiet_nil ?_
          intro _ hw'
          obtain ⟨⟨dq, osq⟩, hw''⟩ := hw'
          subst hw''
          have hbq := below_regrown wr dq osq
          generalize grow (redrawn wr dq) osq = wq at hbq ⊢
          go_wp2_with fail
          go_roundw
          case rel =>
            refine ⟨k + 1, by omega, by go_num, fun x hx => ?_, bstep Hhw.out hbq⟩
            by_cases hxk : x = k
            · have h0 := He0.out; have h1 := He1.out; have h2 := hle.out; rw [hxk]; omega
            · exact Hhall.out x (by omega)
          case measure => simp [intOf]; omega
    · go_wp2_with fail
      go_ret
      exact ⟨rbool (show high p i = true from decide_eq_true (fun x hx => hall.out x (by omega))), hw⟩
end Go.Proofs.Ytmdpiafeiopimaa

/- Signatures: how they lie in memory, that what reads as one is one; which ones may be, as plain functions. -/
namespace Go.Proofs.Ytmdpiafeiopimaa
open Go.RowKit
/-- A symbol. -/
structure Sy where
  name : ByteArray
  ar : Int
  pred : Bool
  deriving DecidableEq
instance : Inhabited Sy := ⟨⟨ByteArray.empty, 0, false⟩⟩
def IsSy (_ : World) (x : Sy) (cs : List Value) : Prop := cs = [.string x.name, .int .i64 x.ar, .bool x.pred] ∧ I64 x.ar ∧ x.name.size ≤ maxLen
def IsSys (w : World) (l : List Sy) (a : Option Addr) : Prop := IsRow w 3 IsSy l a
theorem IsSys.below {w w' : World} (hb : Below w.heap.size w w') {l : List Sy} {a : Option Addr} (h : IsSys w l a) : IsSys w' l a := IsRow.keep h hb (fun _ _ h => h)
theorem IsSys.at_ {w w' : World} {l : List Sy} {a : Option Addr} (h : IsSys w l a) (hb : Below w.heap.size w w') (k : Nat) (hk : k < l.length) :
    ∃ (b o : Nat), a = some ⟨b, o, none⟩ ∧ w'.cell? ⟨b, o + k * 3, none⟩ = some (.string l[k].name) ∧ w'.cell? ⟨b, o + k * 3 + 1, none⟩ = some (.int .i64 l[k].ar) ∧ w'.cell? ⟨b, o + k * 3 + 2, none⟩ = some (.bool l[k].pred) ∧ I64 l[k].ar ∧ l[k].name.size ≤ maxLen := by
  obtain ⟨b, o, cs, h1, _, h3, rfl, h4, h5⟩ := h k hk
  have e0 := h3 0 (by omega)
  have e1 := h3 1 (by omega)
  have e2 := h3 2 (by omega)
  simp only [List.getElem?_cons_zero, List.getElem?_cons_succ, Nat.add_zero] at e0 e1 e2
  exact ⟨b, o, h1, bkeeps hb _ _ e0, bkeeps hb _ _ e1, bkeeps hb _ _ e2, h4, h5⟩
/-- The value is the signature. -/
def IsSig (w : World) (l : List Sy) (v : Value) : Prop := ∃ (a : Option Addr) (c : Nat), v = .agg #[.slice a l.length c] ∧ l.length ≤ c ∧ c ≤ maxLen ∧ IsSys w l a
theorem IsSig.below {w w' : World} (hb : Below w.heap.size w w') {l : List Sy} {v : Value} (h : IsSig w l v) : IsSig w' l v := by
  obtain ⟨a, c, h1, h2, h3, h4⟩ := h
  exact ⟨a, c, h1, h2, h3, h4.below hb⟩
section
variable {H : Type} {enc : TypeId × Value → H} {w : World} {base : Nat} {spare : Nat → Bool} {held : Bool}
set_option maxRecDepth 100000 in
theorem open_Sy (fuel : Nat) (cs : List Value) (x : DataW H × List MemPlace) (h : DataW.trod enc Try.prog w base spare held fuel 47 cs = some x) : ∃ y : Sy, IsSy w y cs := by
  have hC : Try.prog.cellsOf 47 = 3 := by kernel_rfl
  have hC1 : Try.prog.cellsOf 9 = 1 := by kernel_rfl
  have hC2 : Try.prog.cellsOf 3 = 1 := by kernel_rfl
  have hC3 : Try.prog.cellsOf 4 = 1 := by kernel_rfl
  obtain ⟨xs, n, rfl, rfl, hl, hlen, hf⟩ := DataW.trod_struct Try.underlying47 h
  rw [hC] at hl
  match xs, hlen, cs, hl with
  | [y0, y1, y2], _, [c0, c1, c2], _ =>
    have g0 : DataW.trod enc Try.prog w base spare held n 9 [c0] = some y0 := by simpa [hC1] using hf 0 _ rfl
    have g1 : DataW.trod enc Try.prog w base spare held n 3 [c1] = some y1 := by simpa [hC2] using hf 1 _ rfl
    have g2 : DataW.trod enc Try.prog w base spare held n 4 [c2] = some y2 := by simpa [hC3] using hf 2 _ rfl
    obtain ⟨s, e0, rfl, hs⟩ := DataW.trod_string Try.underlying9 g0
    obtain ⟨m, e1, rfl, wf⟩ := DataW.trod_int Try.underlying3 g1
    obtain ⟨b, e2, rfl⟩ := DataW.trod_bool Try.underlying4 g2
    simp only [List.cons.injEq, and_true] at e0 e1 e2
    subst e0 e1 e2
    exact ⟨⟨s, m, b⟩, rfl, i64_wf wf, hs⟩
set_option maxRecDepth 100000 in
theorem open_Sys (fuel : Nat) (cs : List Value) (x : DataW H × List MemPlace) (h : DataW.trod enc Try.prog w base spare held fuel 22 cs = some x) :
    ∃ (l : List Sy) (a : Option Addr) (cap : Nat), cs = [.slice a l.length cap] ∧ l.length ≤ cap ∧ cap ≤ maxLen ∧ IsSys w l a := by
  obtain ⟨l, a, cap, ds, sp, rfl, h1, h2, h3, _⟩ := open_row Try.underlying22 (k := 3) (by kernel_rfl) (by omega) h (R := IsSy) (S := fun _ _ => True) (fun n cs x hx => by
    obtain ⟨y, hy⟩ := open_Sy _ _ _ hx
    exact ⟨y, hy, trivial⟩)
  exact ⟨l, a, cap, rfl, h1, h2, h3⟩
set_option maxRecDepth 100000 in
theorem open_Sig (fuel : Nat) (cs : List Value) (x : DataW H × List MemPlace) (h : DataW.trod enc Try.prog w base spare held fuel 24 cs = some x) :
    ∃ (l : List Sy) (v : Value), cs = [v] ∧ IsSig w l (.agg #[v]) := by
  have hC : Try.prog.cellsOf 24 = 1 := by kernel_rfl
  have hC1 : Try.prog.cellsOf 22 = 1 := by kernel_rfl
  obtain ⟨xs, n, rfl, rfl, hl, hlen, hf⟩ := DataW.trod_struct Try.underlying24 h
  rw [hC] at hl
  match xs, hlen, cs, hl with
  | [y0], _, [c0], _ =>
    have g0 : DataW.trod enc Try.prog w base spare held n 22 [c0] = some y0 := by simpa [hC1] using hf 0 _ rfl
    obtain ⟨l, a, cap, e, h1, h2, h3⟩ := open_Sys _ _ _ g0
    simp only [List.cons.injEq, and_true] at e
    subst e
    exact ⟨l, _, rfl, a, cap, rfl, h1, h2, h3⟩
end
/-! ### The plain functions -/
def byteOk (c : UInt8) : Bool := (97 ≤ c && c ≤ 122) || (65 ≤ c && c ≤ 90) || (48 ≤ c && c ≤ 57) || c == 95
def named (s : ByteArray) : Bool := decide (1 ≤ s.size ∧ s.size ≤ 40) && s.data.toList.all byteOk
def Sy.one (x : Sy) : Int := if named x.name then (if x.ar < 0 ∨ 6 < x.ar then 112 else 0) else 111
def truth : Sy := ⟨⟨#[36, 116, 114, 117, 101]⟩, 0, true⟩
/-- A symbol's place in a row, from 'k' on. -/
def syAt (x : Sy) : List Sy → Int → Int
  | [], _ => -1
  | y :: r, k => if y = x then k else syAt x r (k + 1)
/-- The first error among the symbols from the k-th on. -/
def symsErr (all : List Sy) : List Sy → Int → Int
  | [], _ => 0
  | x :: r, k => if x.one ≠ 0 then x.one else if syAt x all 0 < k then 113 else symsErr all r (k + 1)
def sigCheck (l : List Sy) : Int :=
  if 96 < l.length then 3 else if l.head? ≠ some truth then 110 else symsErr l (l.drop 1) 1
end Go.Proofs.Ytmdpiafeiopimaa

/- The walks through the document's check of a signature. -/
namespace Go.Proofs.Ytmdpiafeiopimaa
open Go.RowKit Go.Sort Go
theorem truth_any (w : World) : Calls Try.prog 38 #[] w fun e w' => e = .returned (.agg #[.string truth.name, .int .i64 truth.ar, .bool truth.pred]) ∧ Below w.heap.size w w' := by
  go_enter Try.func38, Try.ntmps38
  go_wp2_with fail
  refine bodyPost_ret (v := .agg #[.string truth.name, .int .i64 truth.ar, .bool truth.pred]) (by simp [results, Try.results38, go_sem, truth]) rfl ?_
  exact ⟨rfl, balloc _ _⟩
set_option maxHeartbeats 4000000 in
theorem named_any (s : ByteArray) (w : World) (hs : s.size ≤ maxLen) : Calls Try.prog 54 #[.string s] w fun e w' => e = .returned (.bool (named s)) ∧ Below w.heap.size w w' := by
  unfold maxLen at hs
  by_cases h1 : s.size < 1
  · have HV := Lib.hid (show named s = false by unfold named; simp; omega)
    go_enter Try.func54, Try.ntmps54
    go_wp2_with fail
    go_ret
    exact ⟨rbool HV.out, Below.refl _ _⟩
  by_cases h2 : 40 < s.size
  · have HV := Lib.hid (show named s = false by unfold named; simp; omega)
    go_enter Try.func54, Try.ntmps54
    go_wp2_with fail
    go_ret
    exact ⟨rbool HV.out, Below.refl _ _⟩
  have HV := Lib.hid (show named s = s.data.toList.all byteOk by
    unfold named
    rw [decide_eq_true (by omega), Bool.true_and])
  go_enter Try.func54, Try.ntmps54
  go_wp2_with fail
  go_loopw [3, 4] (fun i _ wr => ∃ (k : Nat), k ≤ s.size ∧ i = .int .i64 k ∧ Hid ((s.data.toList.take k).all byteOk = true) ∧ Hid (Below w.heap.size w wr)) (fun i _ _ => s.size - (intOf i).toNat)
  case atStart => exact ⟨0, Nat.zero_le _, rfl, rfl, Below.refl _ _⟩
  case round =>
    obtain ⟨k, hk, rfl, hall, hw⟩ := hrel
    by_cases hlt : k < s.size
    · have hd : k < s.data.toList.length := by simpa using hlt
      have hg : s.data.toList[k] = s[k] := by simp [ByteArray.getElem_eq_getElem_data]
      have htk : (s.data.toList.take (k + 1)).all byteOk = byteOk s[k] := by
        rw [List.take_succ_eq_append_getElem hd, List.all_append, hall.out, hg]; simp
      have hP : byteOk s[k] = true ↔ (97 ≤ (s[k].toNat : Int) ∧ (s[k].toNat : Int) ≤ 122) ∨ (65 ≤ (s[k].toNat : Int) ∧ (s[k].toNat : Int) ≤ 90) ∨ (48 ≤ (s[k].toNat : Int) ∧ (s[k].toNat : Int) ≤ 57) ∨ (s[k].toNat : Int) = 95 := by
        unfold byteOk
        simp only [Bool.or_eq_true, Bool.and_eq_true, decide_eq_true_eq, beq_iff_eq, UInt8.le_iff_toNat_le, ← UInt8.toNat_inj]
        simp
        omega
      cases hb : byteOk s[k] with
      | true =>
        rw [hb] at htk
        have hP := Lib.hid (hP.1 hb)
        have htk := Lib.hid htk
        clear hb hall
        go_wp2_with fail
        all_goals first
          | (exfalso; have hq := hP.out; (try simp only [Bool.not_eq_true', decide_eq_false_iff_not, beq_eq_false_iff_ne, ne_eq] at *); omega)
          | (go_roundw
             case rel => exact ⟨k + 1, by omega, by go_num, htk.out, hw.out⟩
             case measure => simp [intOf]; omega)
      | false =>
        have HN := Lib.hid (show named s = false by
          rw [HV.out]
          refine List.all_eq_false.2 ⟨s[k], ?_, by rw [hb]; simp⟩
          rw [← hg]; exact List.getElem_mem hd)
        have hP := Lib.hid (mt hP.2 (by rw [hb]; simp))
        clear hb hall htk
        go_wp2_with fail
        all_goals first
          | (exfalso; have hq := hP.out; (try simp only [Bool.not_eq_true', Bool.not_eq_false', decide_eq_false_iff_not, decide_eq_true_eq, beq_eq_false_iff_ne, beq_iff_eq, ne_eq] at *); omega)
          | (go_ret
             exact ⟨rbool HN.out, hw.out⟩)
    · obtain rfl : k = s.size := by omega
      have HN := Lib.hid (show named s = true by
        rw [HV.out]
        have := hall.out
        rwa [List.take_of_length_le (by simp)] at this)
      go_wp2_with fail
      go_ret
      exact ⟨rbool HN.out, hw.out⟩
end Go.Proofs.Ytmdpiafeiopimaa

/- The walks through the document's check of a signature, the rest. -/
namespace Go.Proofs.Ytmdpiafeiopimaa
open Go.RowKit Go.Sort Go
def Sy.val (x : Sy) : Value := .agg #[.string x.name, .int .i64 x.ar, .bool x.pred]
theorem bytes_ext {n m : ByteArray} (h : n.toList = m.toList) : n = m := by
  rw [ByteArray.toList_eq, ByteArray.toList_eq] at h
  exact ByteArray.ext (Array.toList_inj.1 h)
theorem eqSy (n m : ByteArray) (a b : Int) (p q : Bool) (w : World) : (binOp .eql 47 (.agg #[.string n, .int .i64 a, .bool p]) (.agg #[.string m, .int .i64 b, .bool q])).run Try.prog w = .ok (.bool (decide ((⟨n, a, p⟩ : Sy) = ⟨m, b, q⟩))) w := by
  have hS : Try.prog.underlying 47 = some (.struct (Try.prog.fieldsOf 47)) := by kernel_rfl
  have hp : Try.prog.stoodInHeld 47 = false := by kernel_rfl
  have u1 := Try.underlying9
  have u2 := Try.underlying3
  have u3 := Try.underlying4
  rw [run_eql_struct, show (10000 : Nat) = 9999 + 1 from rfl, run_equalIn_agg w 9999 47 _ _ hS hp]
  simp only [Program.fieldsOf, Try.underlying47]
  go_simp
  have hn : ¬ n = m → ¬ n.toList = m.toList := fun h e => h (bytes_ext e)
  by_cases h1 : n = m <;> by_cases h2 : a = b <;> by_cases h3 : p = q <;> simp_all
theorem neqSy (n m : ByteArray) (a b : Int) (p q : Bool) (w : World) : (binOp .neq 47 (.agg #[.string n, .int .i64 a, .bool p]) (.agg #[.string m, .int .i64 b, .bool q])).run Try.prog w = .ok (.bool (!decide ((⟨n, a, p⟩ : Sy) = ⟨m, b, q⟩))) w := by
  have h := eqSy n m a b p q w
  rw [run_eql_struct] at h
  rw [run_neq_struct]
  cases hr : (Op.equalIn 10000 47 (.agg #[.string n, .int .i64 a, .bool p]) (.agg #[.string m, .int .i64 b, .bool q])).run Try.prog w with
  | ok b' w' =>
    rw [hr] at h
    simp only [Result.andThen_ok, Result.ok.injEq, Value.bool.injEq] at h ⊢
    exact ⟨by rw [h.1], h.2⟩
  | halt x w' => rw [hr] at h; simp [Result.andThen] at h
theorem guardSy (op : BinOp) (x y : Operand) (xs ys : Array Value) (w : World) : (eqGuard op 47 x y (.agg xs) (.agg ys)).run Try.prog w = .ok () w := run_eqGuard_agg w op _ x y xs ys (by kernel_rfl)
theorem one_any (x : Sy) (w : World) (hs : x.name.size ≤ maxLen) : Calls Try.prog 39 #[x.val] w fun e w' => e = .returned (.int .i64 x.one) ∧ Below w.heap.size w w' := by
  have NM := fun w => named_any x.name w hs
  have E : x.one = if named x.name then (if x.ar < 0 ∨ 6 < x.ar then 112 else 0) else 111 := rfl
  obtain ⟨name, ar, pred⟩ := x
  unfold Sy.val
  generalize Sy.one ⟨name, ar, pred⟩ = r at *
  simp only at *
  generalize named name = b at *
  cases b with
  | false =>
    have HE := Lib.hid (show r = 111 by rw [E]; rfl)
    clear E
    go_enter Try.func39, Try.ntmps39
    go_wp2_with fail
    refine (NM _).mono ?_
    rintro e w1 ⟨rfl, hb1⟩
    go_wp2_with fail
    go_ret
    exact ⟨rint HE.out, bcall hb1⟩
  | true =>
    have HE := Lib.hid (show r = if ar < 0 ∨ 6 < ar then 112 else 0 by rw [E]; simp)
    clear E
    go_enter Try.func39, Try.ntmps39
    go_wp2_with fail
    refine (NM _).mono ?_
    rintro e w1 ⟨rfl, hb1⟩
    obtain ⟨B1, hw⟩ := box1 hb1
    have k0 := B1 0 _ rfl
    have k1 := B1 1 _ rfl
    have k2 := B1 2 _ rfl
    have Hhw := Lib.hid hw
    clear hw
    clear hb1 B1
    by_cases h1 : ar < 0
    · have HV := Lib.hid (show r = 112 by rw [HE.out, if_pos (.inl h1)])
      go_wp2_with fail
      go_ret
      exact ⟨rint HV.out, Hhw.out⟩
    · by_cases h2 : 6 < ar
      · have HV := Lib.hid (show r = 112 by rw [HE.out, if_pos (.inr h2)])
        go_wp2_with fail
        go_ret
        exact ⟨rint HV.out, Hhw.out⟩
      · have HV := Lib.hid (show r = 0 by rw [HE.out, if_neg (by omega)])
        go_wp2_with fail
        go_ret
        exact ⟨rint HV.out, Hhw.out⟩
theorem at_any (x : Sy) (l : List Sy) (w : World) (a : Option Addr) (c : Nat) (hc : l.length ≤ c) (hm : c ≤ maxLen) (hl : IsSys w l a) :
    Calls Try.prog 40 #[.slice a l.length c, x.val] w fun e w' => e = .returned (.int .i64 (syAt x l 0)) ∧ Below w.heap.size w w' := by
  unfold maxLen at hm
  obtain ⟨name, ar, pred⟩ := x
  unfold Sy.val
  simp only
  go_enter Try.func40, Try.ntmps40
  go_wp2_with fail
  go_loopw [5] (fun i wr => ∃ (k : Nat), k ≤ l.length ∧ i = .int .i64 k ∧ Hid (syAt ⟨name, ar, pred⟩ l 0 = syAt ⟨name, ar, pred⟩ (l.drop k) k) ∧ Below w.heap.size w wr ∧ Box wr w.heap.size [.string name, .int .i64 ar, .bool pred]) (fun i _ => l.length - (intOf i).toNat)
  case atStart => exact ⟨0, Nat.zero_le _, rfl, by simp [Hid], balloc _ _, Box.new _ _ _⟩
  case round =>
    obtain ⟨k, hk, rfl, hx, hw, hB⟩ := hrel
    by_cases hlt : k < l.length
    · obtain ⟨b, o, rfl, g0, g1, g2, _, _⟩ := hl.at_ hw k hlt
      have k0 := hB 0 _ rfl
      have k1 := hB 1 _ rfl
      have k2 := hB 2 _ rfl
      have r0 := cell_regrown k0
      have r1 := cell_regrown k1
      have r2 := cell_regrown k2
      have r3 := cell_regrown g0
      have r4 := cell_regrown g1
      have r5 := cell_regrown g2
      have z0 : (0 : Int) ≤ (k : Int) := by omega
      have z1 : (k : Int) < (l.length : Int) := by omega
      have hd : syAt ⟨name, ar, pred⟩ (l.drop k) k = if l[k] = ⟨name, ar, pred⟩ then (k : Int) else syAt ⟨name, ar, pred⟩ (l.drop (k + 1)) (k + 1 : Nat) := by
        rw [List.drop_eq_getElem_cons hlt, syAt]; rfl
      have Hhw := Lib.hid hw
      have HhB := Lib.hid hB
      have Hhd := Lib.hid hd
      clear hw hB hd
      go_wp2_with fail
      have GD := guardSy
      by_cases he : l[k] = ⟨name, ar, pred⟩
      · have EQ := fun w => eqSy l[k].name name l[k].ar ar l[k].pred pred w
        rw [decide_eq_true (show (⟨l[k].name, l[k].ar, l[k].pred⟩ : Sy) = ⟨name, ar, pred⟩ from he)] at EQ
        have HV := Lib.hid (show syAt ⟨name, ar, pred⟩ l 0 = k by rw [hx.out, Hhd.out, if_pos he])
        clear he
        refine wp_region_quiet_below (by kernel_rfl) (by kernel_rfl) ?_
        repeat (quiet_step (fail))
        refine wpQuiet_nil ?_
        intro _ hw'
        obtain ⟨⟨dq, osq⟩, hw''⟩ := hw'
        subst hw''
        have hbq := below_regrown wr dq osq
        generalize grow (redrawn wr dq) osq = wq at hbq ⊢
        go_wp2_with fail
        go_ret
        exact ⟨rint HV.out, bstep Hhw.out hbq⟩
      · have EQ := fun w => eqSy l[k].name name l[k].ar ar l[k].pred pred w
        rw [decide_eq_false (show ¬ (⟨l[k].name, l[k].ar, l[k].pred⟩ : Sy) = ⟨name, ar, pred⟩ from he)] at EQ
        have HV := Lib.hid (show syAt ⟨name, ar, pred⟩ l 0 = syAt ⟨name, ar, pred⟩ (l.drop (k + 1)) (k + 1 : Nat) by rw [hx.out, Hhd.out, if_neg he])
        clear he
        refine wp_region_quiet_below (by kernel_rfl) (by kernel_rfl) ?_
        repeat (quiet_step (fail))
        refine wpQuiet_nil ?_
        intro _ hw'
        obtain ⟨⟨dq, osq⟩, hw''⟩ := hw'
        subst hw''
        have hbq := below_regrown wr dq osq
        generalize grow (redrawn wr dq) osq = wq at hbq ⊢
        go_wp2_with fail
        go_roundw
        case rel => exact ⟨k + 1, by omega, by go_num, HV.out, bstep Hhw.out hbq, HhB.out.below hbq⟩
        case measure => simp [intOf]; omega
    · have HV := Lib.hid (show syAt ⟨name, ar, pred⟩ l 0 = -1 by rw [hx.out, List.drop_eq_nil_of_le (by omega), syAt])
      go_wp2_with fail
      go_ret
      exact ⟨rint HV.out, hw⟩
end Go.Proofs.Ytmdpiafeiopimaa

/- The walk through the document's check of a signature: the check. -/
namespace Go.Proofs.Ytmdpiafeiopimaa
open Go.RowKit Go.Sort Go
set_option maxHeartbeats 1000000 in
theorem sigCheck_any (l : List Sy) (w : World) (v : Value) (hv : IsSig w l v) :
    Calls Try.prog 22 #[v] w fun e w' => e = .returned (.int .i64 (sigCheck l)) ∧ Below w.heap.size w w' := by
  obtain ⟨a, c, rfl, hc, hm, hl⟩ := hv
  have hm0 := hm
  unfold maxLen at hm
  have E : sigCheck l = if 96 < l.length then 3 else if l.head? ≠ some truth then 110 else symsErr l (l.drop 1) 1 := rfl
  generalize hr : sigCheck l = r at *
  clear hr
  by_cases h1 : 96 < l.length
  · have HE := Lib.hid (show r = 3 by rw [E, if_pos h1])
    clear E
    go_enter Try.func22, Try.ntmps22
    go_wp2_with fail
    go_ret
    exact ⟨rint HE.out, balloc _ _⟩
  rw [if_neg h1] at E
  by_cases h2 : l.length = 0
  · obtain rfl : l = [] := List.length_eq_zero_iff.1 h2
    have HE := Lib.hid (show r = 110 by rw [E, if_pos (by simp)])
    clear E h1 h2 hl
    simp only [List.length_nil] at *
    go_enter Try.func22, Try.ntmps22
    go_wp2_with fail
    obtain ⟨B1, hw⟩ := box1 (Below.refl _ (w.alloc (.cells #[.slice a 0 c] 24)))
    generalize w.alloc (.cells #[.slice a 0 c] 24) = W0 at B1 hw ⊢
    have r0 := cell_regrown (B1 0 _ rfl)
    have Hhw := Lib.hid hw
    clear hw
    refine wp_region_quiet_below (by kernel_rfl) (by kernel_rfl) ?_
    repeat (quiet_step (fail))
    refine wpQuiet_nil ?_
    intro _ hw'
    obtain ⟨⟨dq, osq⟩, hw''⟩ := hw'
    subst hw''
    have hbq := below_regrown W0 dq osq
    generalize grow (redrawn W0 dq) osq = wq at hbq ⊢
    go_wp2_with fail
    go_ret
    exact ⟨rint HE.out, bstep Hhw.out hbq⟩
  have hb2 : ((l.length : Int) == 0) = false := by simp only [beq_eq_false_iff_ne, ne_eq]; omega
  have h0 : 0 < l.length := by omega
  have hhd : l.head? = some l[0] := by rw [List.head?_eq_getElem?, List.getElem?_eq_getElem h0]
  rw [hhd] at E
  have TR := fun w => truth_any w
  have GD := guardSy
  by_cases h3 : l[0] = truth
  · rw [if_neg (by rw [h3]; simp)] at E
    have HE := Lib.hid E
    have EQ := fun w => neqSy l[0].name truth.name l[0].ar truth.ar l[0].pred truth.pred w
    rw [decide_eq_true (show (⟨l[0].name, l[0].ar, l[0].pred⟩ : Sy) = ⟨truth.name, truth.ar, truth.pred⟩ from h3)] at EQ
    clear E h3 hhd
    go_enter Try.func22, Try.ntmps22
    go_wp2_with fail
    obtain ⟨B1, hw⟩ := box1 (Below.refl _ (w.alloc (.cells #[.slice a l.length c] 24)))
    generalize w.alloc (.cells #[.slice a l.length c] 24) = W0 at B1 hw ⊢
    have k0 := B1 0 _ rfl
    obtain ⟨b, o, rfl, g0, g1, g2, _, _⟩ := hl.at_ hw 0 h0
    simp only [Nat.zero_mul, Nat.add_zero] at g0 g1 g2
    have r0 := cell_regrown k0
    have r1 := cell_regrown g0
    have r2 := cell_regrown g1
    have r3 := cell_regrown g2
    have Hhw := Lib.hid hw
    have HB1 := Lib.hid B1
    clear hw B1
    refine wp_region_quiet_below (by kernel_rfl) (by kernel_rfl) ?_
    repeat (quiet_step (exact Calls.regrown_of (TR _)))
    refine wpQuiet_nil ?_
    intro _ hw'
    obtain ⟨⟨dq, osq⟩, hw''⟩ := hw'
    subst hw''
    have hbq := below_regrown W0 dq osq
    generalize grow (redrawn W0 dq) osq = wq at hbq ⊢
    have hw0 := Lib.hid (bstep Hhw.out hbq)
    have hB0 := Lib.hid (HB1.out.below hbq)
    clear r0 r1 r2 r3 k0 g0 g1 g2 hbq Hhw HB1 EQ TR
    go_wp2_with fail
    go_loopw [3] (fun i wr => ∃ (k : Nat), 1 ≤ k ∧ k ≤ l.length ∧ i = .int .i64 k ∧ Hid (r = symsErr l (l.drop k) k) ∧ Below w.heap.size w wr ∧ Box wr w.heap.size [.slice (some ⟨b, o, none⟩) l.length c]) (fun i _ => l.length - (intOf i).toNat)
    case atStart => exact ⟨1, by omega, by omega, rfl, HE.out, hw0.out, hB0.out⟩
    case round =>
      obtain ⟨k, hk0, hk, rfl, hx, hw, hB⟩ := hrel
      have k0 := hB 0 _ rfl
      by_cases hlt : k < l.length
      · obtain ⟨b', o', e', g0, g1, g2, _, hnm⟩ := hl.at_ hw k hlt
        simp only [Option.some.injEq, Addr.mk.injEq, and_true] at e'
        obtain ⟨rfl, rfl⟩ := e'
        have ON := fun w => one_any l[k] w hnm
        have AT := fun w h => at_any l[k] l w (some ⟨b, o, none⟩) c hc hm0 h
        have hd : symsErr l (l.drop k) k = if l[k].one ≠ 0 then l[k].one else if syAt l[k] l 0 < k then 113 else symsErr l (l.drop (k + 1)) (k + 1 : Nat) := by
          rw [List.drop_eq_getElem_cons hlt, symsErr]; rfl
        have hx := hx.out.trans hd
        clear hd
        unfold Sy.val at ON AT
        generalize l[k].one = q at *
        generalize syAt l[k] l 0 = p at *
        by_cases hq : q = 0
        · rw [if_neg (by simp [hq])] at hx
          have hqb : (q == 0) = true := by simpa using hq
          by_cases hp : p < k
          · rw [if_pos hp] at hx
            have Hhw := Lib.hid hw
            have HhB := Lib.hid hB
            have Hhx := Lib.hid hx
            clear hw hB hx
            clear hq
            go_wp2_with fail
            refine (ON _).mono ?_
            rintro e w1 ⟨rfl, hb1⟩
            have r0 := cell_regrown (bkeeps hb1 _ _ k0)
            have r1 := cell_regrown (bkeeps hb1 _ _ g0)
            have r2 := cell_regrown (bkeeps hb1 _ _ g1)
            have r3 := cell_regrown (bkeeps hb1 _ _ g2)
            have z0 : (0 : Int) ≤ (k : Int) := by omega
            have z1 : (k : Int) < (l.length : Int) := by omega
            have hw1 := Lib.hid (bstep Hhw.out hb1)
            have hB1 := Lib.hid (HhB.out.below hb1)
            have hl1 := Lib.hid (hl.below hw1.out)
            clear hb1 Hhw HhB hl
            go_wp2_with fail
            refine wp_region_quiet_below (by kernel_rfl) (by kernel_rfl) ?_
            repeat (quiet_step (exact Calls.regrown_of (AT _ (hl1.out.below (below_regrown _ _ _)))))
            refine wpQuiet_nil ?_
            intro _ hw'
            obtain ⟨⟨dq, osq⟩, hw''⟩ := hw'
            subst hw''
            have hbq := below_regrown w1 dq osq
            generalize grow (redrawn w1 dq) osq = wq at hbq ⊢
            go_wp2_with fail
            go_ret
            exact ⟨rint Hhx.out, bstep hw1.out hbq⟩
          · rw [if_neg hp] at hx
            have Hhw := Lib.hid hw
            have HhB := Lib.hid hB
            have Hhx := Lib.hid hx
            clear hw hB hx
            clear hq
            go_wp2_with fail
            refine (ON _).mono ?_
            rintro e w1 ⟨rfl, hb1⟩
            have r0 := cell_regrown (bkeeps hb1 _ _ k0)
            have r1 := cell_regrown (bkeeps hb1 _ _ g0)
            have r2 := cell_regrown (bkeeps hb1 _ _ g1)
            have r3 := cell_regrown (bkeeps hb1 _ _ g2)
            have z0 : (0 : Int) ≤ (k : Int) := by omega
            have z1 : (k : Int) < (l.length : Int) := by omega
            have hw1 := Lib.hid (bstep Hhw.out hb1)
            have hB1 := Lib.hid (HhB.out.below hb1)
            have hl1 := Lib.hid (hl.below hw1.out)
            clear hb1 Hhw HhB hl
            go_wp2_with fail
            refine wp_region_quiet_below (by kernel_rfl) (by kernel_rfl) ?_
            repeat (quiet_step (exact Calls.regrown_of (AT _ (hl1.out.below (below_regrown _ _ _)))))
            refine wpQuiet_nil ?_
            intro _ hw'
            obtain ⟨⟨dq, osq⟩, hw''⟩ := hw'
            subst hw''
            have hbq := below_regrown w1 dq osq
            generalize grow (redrawn w1 dq) osq = wq at hbq ⊢
            go_wp2_with fail
            go_roundw
            case rel => exact ⟨k + 1, by omega, by omega, by go_num, Hhx.out, bstep hw1.out hbq, hB1.out.below hbq⟩
            case measure => simp [intOf]; omega
        · rw [if_pos hq] at hx
          have hqb : (q == 0) = false := by simpa using hq
          have Hhw := Lib.hid hw
          have HhB := Lib.hid hB
          have Hhx := Lib.hid hx
          clear hw hB hx
          clear hq
          go_wp2_with fail
          refine (ON _).mono ?_
          rintro e w1 ⟨rfl, hb1⟩
          go_wp2_with fail
          go_ret
          exact ⟨rint Hhx.out, bstep Hhw.out hb1⟩
      · have HV := Lib.hid (show r = 0 by rw [hx.out, List.drop_eq_nil_of_le (by omega), symsErr])
        go_wp2_with fail
        go_ret
        exact ⟨rint HV.out, hw⟩
  · rw [if_pos (by simpa using h3)] at E
    have HE := Lib.hid E
    have EQ := fun w => neqSy l[0].name truth.name l[0].ar truth.ar l[0].pred truth.pred w
    rw [decide_eq_false (show ¬ (⟨l[0].name, l[0].ar, l[0].pred⟩ : Sy) = ⟨truth.name, truth.ar, truth.pred⟩ from h3)] at EQ
    clear E h3 hhd
    go_enter Try.func22, Try.ntmps22
    go_wp2_with fail
    obtain ⟨B1, hw⟩ := box1 (Below.refl _ (w.alloc (.cells #[.slice a l.length c] 24)))
    generalize w.alloc (.cells #[.slice a l.length c] 24) = W0 at B1 hw ⊢
    have k0 := B1 0 _ rfl
    obtain ⟨b, o, rfl, g0, g1, g2, _, _⟩ := hl.at_ hw 0 h0
    simp only [Nat.zero_mul, Nat.add_zero] at g0 g1 g2
    have r0 := cell_regrown k0
    have r1 := cell_regrown g0
    have r2 := cell_regrown g1
    have r3 := cell_regrown g2
    have Hhw := Lib.hid hw
    have HB1 := Lib.hid B1
    clear hw B1
    refine wp_region_quiet_below (by kernel_rfl) (by kernel_rfl) ?_
    repeat (quiet_step (exact Calls.regrown_of (TR _)))
    refine wpQuiet_nil ?_
    intro _ hw'
    obtain ⟨⟨dq, osq⟩, hw''⟩ := hw'
    subst hw''
    have hbq := below_regrown W0 dq osq
    generalize grow (redrawn W0 dq) osq = wq at hbq ⊢
    go_wp2_with fail
    go_ret
    exact ⟨rint HE.out, bstep Hhw.out hbq⟩
end Go.Proofs.Ytmdpiafeiopimaa

/- The walks through the document's check of a term. -/
namespace Go.Proofs.Ytmdpiafeiopimaa
open Go.RowKit Go.Sort Go
namespace T
mutual
def depth : T → Nat
  | .mk _ l => depthL l + 1
def depthL : List T → Nat
  | [] => 0
  | a :: r => max (depth a) (depthL r)
end
mutual
theorem depth_le : ∀ t : T, depth t ≤ size t
  | .mk f l => by have := depthL_le l; rw [depth, size]; omega
theorem depthL_le : ∀ l : List T, depthL l ≤ sizeL l
  | [] => by simp [depthL]
  | a :: r => by have := depth_le a; have := depthL_le r; have := size_eq a; rw [depthL, sizeL]; omega
end
theorem depthL_take_succ (l : List T) (k : Nat) (h : k < l.length) : depthL (l.take (k + 1)) = max (depthL (l.take k)) (depth l[k]) := by
  induction l generalizing k with
  | nil => simp at h
  | cons t r ih =>
    cases k with
    | zero => simp [depthL]
    | succ k => simp [depthL, ih k (by simpa using h), Nat.max_assoc]
theorem depthL_take_le (l : List T) (k : Nat) : depthL (l.take k) ≤ depthL l := by
  induction l generalizing k with
  | nil => simp [depthL]
  | cons t r ih =>
    cases k with
    | zero => simp [depthL]
    | succ k => simp only [List.take_succ_cons, depthL]; have := ih k; omega
mutual
def low (m : Int) : T → Bool
  | .mk f l => if f < 0 then decide (-m ≤ f) && l.isEmpty else lowL m l
def lowL (m : Int) : List T → Bool
  | [] => true
  | a :: r => low m a && lowL m r
end
theorem lowL_all (m : Int) : ∀ l, lowL m l = l.all (low m)
  | [] => rfl
  | a :: r => by rw [lowL, List.all_cons, lowL_all m r]
def small (m : Int) (t : T) : Bool := decide (t.size ≤ 300) && (decide (t.depth ≤ 30) && t.low m)
mutual
def over (sg : List Sy) : Bool → T → Bool
  | top, .mk f l => if f < 0 then true else match sg[f.toNat]? with
    | none => false
    | some s => if s.ar ≠ l.length ∨ (s.pred = true ∧ top = false) then false else overL sg l
def overL (sg : List Sy) : List T → Bool
  | [] => true
  | a :: r => over sg false a && overL sg r
end
theorem overL_all (sg : List Sy) : ∀ l, overL sg l = l.all (over sg false)
  | [] => rfl
  | a :: r => by rw [overL, List.all_cons, overL_all sg r]
end T
theorem depth_any (t : T) : ∀ (w : World) (v : Value), t.size ≤ 4294967296 → IsT w t v →
    Calls Try.prog 41 #[v] w fun e w' => e = .returned (.int .i64 t.depth) ∧ Below w.heap.size w w' := by
  induction t using T.ind with
  | h f l ih =>
  intro w v hz hv
  obtain ⟨_, a, c, rfl, hc, hm, hl⟩ := hv
  unfold maxLen at hm
  have hz2 : T.sizeL l ≤ 4294967296 := by rw [T.size] at hz; omega
  have hd := T.depthL_le l
  have E := Lib.hid (show (T.mk f l).depth = T.depthL l + 1 by rw [T.depth])
  clear hz
  go_enter Try.func41, Try.ntmps41
  go_wp2
  go_loopw [3, 4] (fun n i wr => ∃ (k : Nat), k ≤ l.length ∧ i = .int .i64 k ∧ n = .int .i64 (T.depthL (l.take k) : Nat) ∧ Below w.heap.size w wr ∧ Box wr w.heap.size [.int .i64 f, .slice a l.length c]) (fun _ i _ => l.length - (intOf i).toNat)
  case atStart => exact ⟨0, Nat.zero_le _, rfl, vint (by simp [T.depthL]), balloc _ _, Box.new _ _ _⟩
  case round =>
    obtain ⟨k, hk, rfl, rfl, hw, hB⟩ := hrel
    obtain ⟨_, b1⟩ := hB.two
    have hd2 := T.depthL_take_le l k
    by_cases hlt : k < l.length
    · obtain ⟨b, o, a', c', rfl, g1, g2, h3⟩ := hl.at_ hw k hlt
      have hsz := T.size_le_sizeL (List.getElem_mem hlt)
      have IH := fun w v => ih l[k] (List.getElem_mem hlt) w v (by omega)
      have hs := Lib.hid (T.depthL_take_succ l k hlt)
      have hd3 := T.depth_le l[k]
      generalize T.depthL (l.take k) = p at *
      generalize T.depth l[k] = q at *
      have Hh3 := Lib.hid h3
      have HhB := Lib.hid hB
      have Hhw := Lib.hid hw
      clear h3 hB hw
      clear ih hl
      go_wp2_with (go_at_call 41; refine (IH _ _ Hh3.out).mono ?_; rintro e w' ⟨rfl, hb'⟩)
      go_roundw
      case rel => exact ⟨k + 1, by omega, by go_num, by rw [hs.out]; congr 1; omega, bstep Hhw.out hb', HhB.out.below hb'⟩
      case measure => simp [intOf]; omega
    · obtain rfl : k = l.length := by omega
      go_wp2_with fail
      go_ret
      exact ⟨rint (by rw [E.out]; simp), hw⟩
theorem low_any (m : Int) (hm : 0 ≤ m ∧ m ≤ 1000) (t : T) : ∀ (w : World) (v : Value), IsT w t v →
    Calls Try.prog 42 #[v, .int .i64 m] w fun e w' => e = .returned (.bool (t.low m)) ∧ Below w.heap.size w w' := by
  induction t using T.ind with
  | h f l ih =>
  intro w v hv
  obtain ⟨hi, a, c, rfl, hc, hmm, hl⟩ := hv
  unfold maxLen at hmm
  have E : (T.mk f l).low m = if f < 0 then decide (-m ≤ f) && l.isEmpty else l.all (T.low m) := by rw [T.low, T.lowL_all]
  generalize hr : (T.mk f l).low m = r at *
  clear hr
  by_cases h0 : f < 0
  · rw [if_pos h0] at E
    by_cases h1 : -m ≤ f
    · have HE := Lib.hid (show r = ((l.length : Int) == 0) by rw [E, decide_eq_true h1]; cases l <;> simp; omega)
      clear E
      go_enter Try.func42, Try.ntmps42
      go_wp2_with fail
      go_ret
      exact ⟨rbool HE.out, balloc _ _⟩
    · have HE := Lib.hid (show r = false by rw [E, decide_eq_false h1]; rfl)
      clear E
      go_enter Try.func42, Try.ntmps42
      go_wp2_with fail
      go_ret
      exact ⟨rbool HE.out, balloc _ _⟩
  · rw [if_neg h0] at E
    have HE := Lib.hid E
    clear E
    go_enter Try.func42, Try.ntmps42
    go_wp2_with fail
    go_loopw [5] (fun i wr => ∃ (k : Nat), k ≤ l.length ∧ i = .int .i64 k ∧ Hid ((l.take k).all (T.low m) = true) ∧ Below w.heap.size w wr ∧ Box wr w.heap.size [.int .i64 f, .slice a l.length c]) (fun i _ => l.length - (intOf i).toNat)
    case atStart => exact ⟨0, Nat.zero_le _, rfl, rfl, balloc _ _, Box.new _ _ _⟩
    case round =>
      obtain ⟨k, hk, rfl, hall, hw, hB⟩ := hrel
      obtain ⟨_, b1⟩ := hB.two
      by_cases hlt : k < l.length
      · obtain ⟨b, o, a', c', rfl, g1, g2, h3⟩ := hl.at_ hw k hlt
        have IH := fun w v => ih l[k] (List.getElem_mem hlt) w v
        have hs : (l.take (k + 1)).all (T.low m) = T.low m l[k] := by
          rw [List.take_succ_eq_append_getElem hlt, List.all_append, hall.out]; simp
        have hf : T.low m l[k] = false → r = false := fun h => by
          rw [HE.out]; exact List.all_eq_false.2 ⟨l[k], List.getElem_mem hlt, by rw [h]; simp⟩
        cases hq : T.low m l[k] with
        | true =>
          rw [hq] at hs IH
          have Hh3 := Lib.hid h3
          have HhB := Lib.hid hB
          have Hhw := Lib.hid hw
          have Hhs := Lib.hid hs
          clear h3 hB hw hs
          clear ih hl hf hq
          go_wp2_with (go_at_call 42; refine (IH _ _ Hh3.out).mono ?_; rintro e w' ⟨rfl, hb'⟩)
          go_roundw
          case rel => exact ⟨k + 1, by omega, by go_num, Hhs.out, bstep Hhw.out hb', HhB.out.below hb'⟩
          case measure => simp [intOf]; omega
        | false =>
          rw [hq] at IH
          have HV := Lib.hid (hf hq)
          have Hh3 := Lib.hid h3
          have HhB := Lib.hid hB
          have Hhw := Lib.hid hw
          clear h3 hB hw
          clear ih hl hf hq hs
          go_wp2_with (go_at_call 42; refine (IH _ _ Hh3.out).mono ?_; rintro e w' ⟨rfl, hb'⟩)
          go_ret
          exact ⟨rbool HV.out, bstep Hhw.out hb'⟩
      · have HV := Lib.hid (show r = true by
          have := hall.out
          rw [List.take_of_length_le (by omega)] at this
          rw [HE.out, this])
        go_wp2_with fail
        go_ret
        exact ⟨rbool HV.out, hw⟩
theorem small_any (m : Int) (hm : 0 ≤ m ∧ m ≤ 1000) (t : T) (w : World) (v : Value) (hz : t.size ≤ 4294967296) (hv : IsT w t v) :
    Calls Try.prog 23 #[v, .int .i64 m] w fun e w' => e = .returned (.bool (t.small m)) ∧ Below w.heap.size w w' := by
  have hv0 := hv
  obtain ⟨_, a, c, rfl, _, _, _⟩ := hv.form
  have SZ := fun w v => size_any t w v
  have DP := fun w v => depth_any t w v hz
  have LW := fun w v => low_any m hm t w v
  have ew : wrap64 t.size = (t.size : Int) := wrap64_id (by omega)
  rw [ew] at SZ
  have E : t.small m = (decide (t.size ≤ 300) && (decide (t.depth ≤ 30) && t.low m)) := rfl
  generalize t.small m = r at *
  have hdz := T.depth_le t
  generalize t.depth = d at *
  generalize t.low m = lo at *
  have Hhv0 := Lib.hid hv0
  clear hv0
  clear hv ew
  by_cases h1 : t.size ≤ 300
  · have h1' : (t.size : Int) ≤ 300 := by omega
    by_cases h2 : d ≤ 30
    · have h2' : (d : Int) ≤ 30 := by omega
      have HE := Lib.hid (show r = lo by rw [E]; simp [h1, h2])
      clear E
      go_enter Try.func23, Try.ntmps23
      go_wp2_with fail
      refine (SZ _ _ (Hhv0.out.below (balloc _ _))).mono ?_
      rintro e w1 ⟨rfl, hb1⟩
      obtain ⟨B1, hw1⟩ := box1 hb1
      obtain ⟨t0, t1⟩ := B1.two
      have Hhw1 := Lib.hid hw1
      clear hw1
      go_wp2_with fail
      refine (DP _ _ (Hhv0.out.below Hhw1.out)).mono ?_
      rintro e w2 ⟨rfl, hb2⟩
      have B2 := B1.below hb2
      clear t0 t1 B1 hb1
      obtain ⟨t0, t1⟩ := B2.two
      have hw2 := bstep Hhw1.out hb2
      have Hhw2 := Lib.hid hw2
      clear hw2
      go_wp2_with fail
      refine (LW _ _ (Hhv0.out.below Hhw2.out)).mono ?_
      rintro e w3 ⟨rfl, hb3⟩
      go_wp2_with fail
      go_ret
      exact ⟨rbool HE.out, bstep Hhw2.out hb3⟩
    · have h2' : ¬ (d : Int) ≤ 30 := by omega
      have HE := Lib.hid (show r = false by rw [E]; simp [h2])
      clear E
      go_enter Try.func23, Try.ntmps23
      go_wp2_with fail
      refine (SZ _ _ (Hhv0.out.below (balloc _ _))).mono ?_
      rintro e w1 ⟨rfl, hb1⟩
      obtain ⟨B1, hw1⟩ := box1 hb1
      obtain ⟨t0, t1⟩ := B1.two
      have Hhw1 := Lib.hid hw1
      clear hw1
      go_wp2_with fail
      refine (DP _ _ (Hhv0.out.below Hhw1.out)).mono ?_
      rintro e w2 ⟨rfl, hb2⟩
      go_wp2_with fail
      go_ret
      exact ⟨rbool HE.out, bstep Hhw1.out hb2⟩
  · have h1' : ¬ (t.size : Int) ≤ 300 := by omega
    have HE := Lib.hid (show r = false by rw [E]; simp [h1])
    clear E
    go_enter Try.func23, Try.ntmps23
    go_wp2_with fail
    refine (SZ _ _ (Hhv0.out.below (balloc _ _))).mono ?_
    rintro e w1 ⟨rfl, hb1⟩
    go_wp2_with fail
    go_ret
    exact ⟨rbool HE.out, bcall hb1⟩
theorem over_any (sg : List Sy) (t : T) : ∀ (top : Bool) (w : World) (vs v : Value), IsSig w sg vs → IsT w t v →
    Calls Try.prog 24 #[vs, v, .bool top] w fun e w' => e = .returned (.bool (t.over sg top)) ∧ Below w.heap.size w w' := by
  induction t using T.ind with
  | h f l ih =>
  intro top w vs v hs hv
  have hs0 := hs
  obtain ⟨a', c', rfl, hc', hm', hsl⟩ := hs
  obtain ⟨⟨hf1, hf2⟩, a, c, rfl, hc, hm, hl⟩ := hv
  unfold maxLen at hm hm'
  have E : (T.mk f l).over sg top = if f < 0 then true else match sg[f.toNat]? with
    | none => false
    | some s => if s.ar ≠ l.length ∨ (s.pred = true ∧ top = false) then false else l.all (T.over sg false) := by
    rw [T.over]; simp only [T.overL_all]
  generalize hr : (T.mk f l).over sg top = r at *
  clear hr
  by_cases h0 : f < 0
  · have HE := Lib.hid (show r = true by rw [E, if_pos h0])
    clear E
    go_enter Try.func24, Try.ntmps24
    go_wp2_with fail
    go_ret
    exact ⟨rbool HE.out, balloc2 _ _ _⟩
  rw [if_neg h0] at E
  by_cases h1 : f < sg.length
  · obtain ⟨n, rfl⟩ : ∃ n : Nat, f = n := ⟨f.toNat, by omega⟩
    have hn : n < sg.length := by omega
    simp only [Int.toNat_natCast] at E
    rw [List.getElem?_eq_getElem hn] at E
    simp only at E
    obtain ⟨b, o, rfl, g0, g1, g2, ⟨hi1, hi2⟩, _⟩ := hsl.at_ (Below.refl _ w) n hn
    generalize sg[n].ar = ar at *
    generalize sg[n].name = nm at *
    generalize sg[n].pred = pr at *
    have q0 := calloc (calloc g0 (.cells #[.slice (some ⟨b, o, none⟩) sg.length c'] 24)) (.cells #[.int .i64 n, .slice a l.length c] 30)
    have q1 := calloc (calloc g1 (.cells #[.slice (some ⟨b, o, none⟩) sg.length c'] 24)) (.cells #[.int .i64 n, .slice a l.length c] 30)
    have q2 := calloc (calloc g2 (.cells #[.slice (some ⟨b, o, none⟩) sg.length c'] 24)) (.cells #[.int .i64 n, .slice a l.length c] 30)
    by_cases h2 : ar = l.length
    · have hb2 : (ar == (l.length : Int)) = true := by simpa using h2
      by_cases h3 : pr = true ∧ top = false
      · have HE := Lib.hid (show r = false by rw [E, if_pos (.inr h3)])
        obtain ⟨rfl, rfl⟩ := h3
        clear E
        go_enter Try.func24, Try.ntmps24
        go_wp2_with fail
        go_ret
        exact ⟨rbool HE.out, bstep (balloc2 _ _ _) (balloc _ _)⟩
      · have HE := Lib.hid (show r = l.all (T.over sg false) by rw [E, if_neg]; rintro (h | h); exact h h2; exact h3 h)
        have key : (pr = false) ∨ (pr = true ∧ top = true) := by cases pr <;> cases top <;> simp_all
        clear E h3
        rcases key with rfl | ⟨rfl, rfl⟩
        · go_enter Try.func24, Try.ntmps24
          go_wp2_with fail
          go_loopw [8] (fun i wr => ∃ (k : Nat), k ≤ l.length ∧ i = .int .i64 k ∧ Hid ((l.take k).all (T.over sg false) = true) ∧ Below w.heap.size w wr ∧ Box wr w.heap.size [.slice (some ⟨b, o, none⟩) sg.length c'] ∧ Box wr (w.heap.size + 1) [.int .i64 n, .slice a l.length c]) (fun i _ => l.length - (intOf i).toNat)
          case atStart =>
            obtain ⟨B1, B2, hb⟩ := box2 (balloc ((w.alloc (.cells #[.slice (some ⟨b, o, none⟩) sg.length c'] 24)).alloc (.cells #[.int .i64 n, .slice a l.length c] 30)) _)
            exact ⟨0, Nat.zero_le _, rfl, rfl, hb, B1, B2⟩
          case round =>
            obtain ⟨k, hk, rfl, hall, hw, hB1, hB2⟩ := hrel
            obtain ⟨t0, t1⟩ := hB2.two
            have u0 := hB1 0 _ rfl
            clear q0 q1 q2 g0 g1 g2
            by_cases hlt : k < l.length
            · obtain ⟨b2, o2, a2, c2, rfl, g1, g2, h3⟩ := hl.at_ hw k hlt
              have IH := fun w vs v => ih l[k] (List.getElem_mem hlt) false w vs v
              have hs2 : (l.take (k + 1)).all (T.over sg false) = T.over sg false l[k] := by
                rw [List.take_succ_eq_append_getElem hlt, List.all_append, hall.out]; simp
              have hf : T.over sg false l[k] = false → r = false := fun h => by
                rw [HE.out]; exact List.all_eq_false.2 ⟨l[k], List.getElem_mem hlt, by rw [h]; simp⟩
              have r0 := cell_regrown u0
              have r1 := cell_regrown t0
              have r2 := cell_regrown t1
              have r3 := cell_regrown g1
              have r4 := cell_regrown g2
              have z0 : (0 : Int) ≤ (k : Int) := by omega
              have z1 : (k : Int) < (l.length : Int) := by omega
              have hsw := Lib.hid (hs0.below hw)
              cases hq : T.over sg false l[k] with
              | true =>
                rw [hq] at hs2 IH
                have Hh3 := Lib.hid h3
                have HhB1 := Lib.hid hB1
                have HhB2 := Lib.hid hB2
                have Hhw := Lib.hid hw
                have Hhs2 := Lib.hid hs2
                clear h3 hB1 hB2 hw hs2
                clear ih hl hf hq hs0 hsl
                go_wp2_with fail
                refine wp_region_quiet_below (by kernel_rfl) (by kernel_rfl) ?_
                repeat (quiet_step (exact Calls.regrown_of (IH _ _ _ (hsw.out.below (below_regrown _ _ _)) (Hh3.out.below (below_regrown _ _ _)))))
                refine wpQuiet_nil ?_
                intro _ hw'
                obtain ⟨⟨dq, osq⟩, hw''⟩ := hw'
                subst hw''
                have hbq := below_regrown wr dq osq
                generalize grow (redrawn wr dq) osq = wq at hbq ⊢
                go_wp2_with fail
                go_roundw
                case rel => exact ⟨k + 1, by omega, by go_num, Hhs2.out, bstep Hhw.out hbq, HhB1.out.below hbq, HhB2.out.below hbq⟩
                case measure => simp [intOf]; omega
              | false =>
                rw [hq] at IH
                have HV := Lib.hid (hf hq)
                have Hh3 := Lib.hid h3
                have HhB1 := Lib.hid hB1
                have HhB2 := Lib.hid hB2
                have Hhw := Lib.hid hw
                clear h3 hB1 hB2 hw
                clear ih hl hf hq hs2 hs0 hsl
                go_wp2_with fail
                refine wp_region_quiet_below (by kernel_rfl) (by kernel_rfl) ?_
                repeat (quiet_step (exact Calls.regrown_of (IH _ _ _ (hsw.out.below (below_regrown _ _ _)) (Hh3.out.below (below_regrown _ _ _)))))
                refine wpQuiet_nil ?_
                intro _ hw'
                obtain ⟨⟨dq, osq⟩, hw''⟩ := hw'
                subst hw''
                have hbq := below_regrown wr dq osq
                generalize grow (redrawn wr dq) osq = wq at hbq ⊢
                go_wp2_with fail
                go_ret
                exact ⟨rbool HV.out, bstep Hhw.out hbq⟩
            · have HV := Lib.hid (show r = true by
                have := hall.out
                rw [List.take_of_length_le (by omega)] at this
                rw [HE.out, this])
              go_wp2_with fail
              go_ret
              exact ⟨rbool HV.out, hw⟩
        · go_enter Try.func24, Try.ntmps24
          go_wp2_with fail
          go_loopw [8] (fun i wr => ∃ (k : Nat), k ≤ l.length ∧ i = .int .i64 k ∧ Hid ((l.take k).all (T.over sg false) = true) ∧ Below w.heap.size w wr ∧ Box wr w.heap.size [.slice (some ⟨b, o, none⟩) sg.length c'] ∧ Box wr (w.heap.size + 1) [.int .i64 n, .slice a l.length c]) (fun i _ => l.length - (intOf i).toNat)
          case atStart =>
            obtain ⟨B1, B2, hb⟩ := box2 (balloc ((w.alloc (.cells #[.slice (some ⟨b, o, none⟩) sg.length c'] 24)).alloc (.cells #[.int .i64 n, .slice a l.length c] 30)) _)
            exact ⟨0, Nat.zero_le _, rfl, rfl, hb, B1, B2⟩
          case round =>
            obtain ⟨k, hk, rfl, hall, hw, hB1, hB2⟩ := hrel
            obtain ⟨t0, t1⟩ := hB2.two
            have u0 := hB1 0 _ rfl
            clear q0 q1 q2 g0 g1 g2
            by_cases hlt : k < l.length
            · obtain ⟨b2, o2, a2, c2, rfl, g1, g2, h3⟩ := hl.at_ hw k hlt
              have IH := fun w vs v => ih l[k] (List.getElem_mem hlt) false w vs v
              have hs2 : (l.take (k + 1)).all (T.over sg false) = T.over sg false l[k] := by
                rw [List.take_succ_eq_append_getElem hlt, List.all_append, hall.out]; simp
              have hf : T.over sg false l[k] = false → r = false := fun h => by
                rw [HE.out]; exact List.all_eq_false.2 ⟨l[k], List.getElem_mem hlt, by rw [h]; simp⟩
              have r0 := cell_regrown u0
              have r1 := cell_regrown t0
              have r2 := cell_regrown t1
              have r3 := cell_regrown g1
              have r4 := cell_regrown g2
              have z0 : (0 : Int) ≤ (k : Int) := by omega
              have z1 : (k : Int) < (l.length : Int) := by omega
              have hsw := Lib.hid (hs0.below hw)
              cases hq : T.over sg false l[k] with
              | true =>
                rw [hq] at hs2 IH
                have Hh3 := Lib.hid h3
                have HhB1 := Lib.hid hB1
                have HhB2 := Lib.hid hB2
                have Hhw := Lib.hid hw
                have Hhs2 := Lib.hid hs2
                clear h3 hB1 hB2 hw hs2
                clear ih hl hf hq hs0 hsl
                go_wp2_with fail
                refine wp_region_quiet_below (by kernel_rfl) (by kernel_rfl) ?_
                repeat (quiet_step (exact Calls.regrown_of (IH _ _ _ (hsw.out.below (below_regrown _ _ _)) (Hh3.out.below (below_regrown _ _ _)))))
                refine wpQuiet_nil ?_
                intro _ hw'
                obtain ⟨⟨dq, osq⟩, hw''⟩ := hw'
                subst hw''
                have hbq := below_regrown wr dq osq
                generalize grow (redrawn wr dq) osq = wq at hbq ⊢
                go_wp2_with fail
                go_roundw
                case rel => exact ⟨k + 1, by omega, by go_num, Hhs2.out, bstep Hhw.out hbq, HhB1.out.below hbq, HhB2.out.below hbq⟩
                case measure => simp [intOf]; omega
              | false =>
                rw [hq] at IH
                have HV := Lib.hid (hf hq)
                have Hh3 := Lib.hid h3
                have HhB1 := Lib.hid hB1
                have HhB2 := Lib.hid hB2
                have Hhw := Lib.hid hw
                clear h3 hB1 hB2 hw
                clear ih hl hf hq hs2 hs0 hsl
                go_wp2_with fail
                refine wp_region_quiet_below (by kernel_rfl) (by kernel_rfl) ?_
                repeat (quiet_step (exact Calls.regrown_of (IH _ _ _ (hsw.out.below (below_regrown _ _ _)) (Hh3.out.below (below_regrown _ _ _)))))
                refine wpQuiet_nil ?_
                intro _ hw'
                obtain ⟨⟨dq, osq⟩, hw''⟩ := hw'
                subst hw''
                have hbq := below_regrown wr dq osq
                generalize grow (redrawn wr dq) osq = wq at hbq ⊢
                go_wp2_with fail
                go_ret
                exact ⟨rbool HV.out, bstep Hhw.out hbq⟩
            · have HV := Lib.hid (show r = true by
                have := hall.out
                rw [List.take_of_length_le (by omega)] at this
                rw [HE.out, this])
              go_wp2_with fail
              go_ret
              exact ⟨rbool HV.out, hw⟩
    · have HE := Lib.hid (show r = false by rw [E, if_pos (.inl h2)])
      have hb2 : (ar == (l.length : Int)) = false := by simpa using h2
      clear E
      go_enter Try.func24, Try.ntmps24
      go_wp2_with fail
      go_ret
      exact ⟨rbool HE.out, bstep (balloc2 _ _ _) (balloc _ _)⟩
  · have HE := Lib.hid (show r = false by rw [E, List.getElem?_eq_none (by omega)])
    clear E
    go_enter Try.func24, Try.ntmps24
    go_wp2_with fail
    go_ret
    exact ⟨rbool HE.out, balloc2 _ _ _⟩
end Go.Proofs.Ytmdpiafeiopimaa

/- What orders and terms that may be over a signature have, plainly. -/
namespace Go.Proofs.Ytmdpiafeiopimaa
def SymOk (o : Od) (x : Sy) (i : Nat) : Prop := (0 ≤ o.weights.getD i 0 ∧ o.weights.getD i 0 ≤ 1000) ∧ (x.ar = 0 → o.var ≤ o.weights.getD i 0) ∧ (x.ar = 1 → o.weights.getD i 0 = 0 → ∀ k, k < o.prec.length → o.prec.getD k 0 ≤ o.prec.getD i 0)
/-- What an order that may be over a signature has. -/
structure OrdOk (sg : List Sy) (o : Od) : Prop where
  sig : sigCheck sg = 0
  len : o.prec.length = sg.length
  ranks : Ranks o.prec
  kbo : o.lpo = false → o.weights.length = sg.length ∧ 1 ≤ o.var ∧ o.var ≤ 1000 ∧ o.weights.getD 0 0 = o.var ∧
    ∀ i (h : i < sg.length), SymOk o sg[i] i
theorem sigCheck_pos {sg : List Sy} (h : sigCheck sg = 0) : 0 < sg.length := by
  cases sg with
  | nil => unfold sigCheck at h; simp at h
  | cons a r => simp
/-- May the term be over the signature? -/
def T.check (sg : List Sy) (t : T) : Int := if sigCheck sg = 0 ∧ t.small 48 = true ∧ t.over sg true = true then 0 else 2
end Go.Proofs.Ytmdpiafeiopimaa

/- The walk through the document's check of a term. -/
namespace Go.Proofs.Ytmdpiafeiopimaa
open Go.RowKit Go.Sort Go
set_option maxHeartbeats 2000000 in
theorem tcheck_any (sg : List Sy) (t : T) (w : World) (vs v : Value) (hz : t.size ≤ 4294967296) (hs : IsSig w sg vs) (hv : IsT w t v) :
    Calls Try.prog 9 #[vs, v] w fun e w' => e = .returned (.int .i64 (t.check sg)) ∧ Below w.heap.size w w' := by
  have hs0 := hs
  have hv0 := hv
  obtain ⟨a, c, rfl, hc, hm, hsl⟩ := hs
  obtain ⟨_, a1, c1, rfl, _, _, _⟩ := hv.form
  have E : t.check sg = if sigCheck sg = 0 ∧ t.small 48 = true ∧ t.over sg true = true then 0 else 2 := rfl
  have SC := fun w v h => sigCheck_any sg w v h
  have SM := fun w v h => small_any 48 (by omega) t w v hz h
  have OV := fun w vs v a b => over_any sg t true w vs v a b
  generalize t.check sg = r at *
  generalize sigCheck sg = q at *
  generalize t.small 48 = p at *
  generalize t.over sg true = o at *
  clear hv hsl
  have Hhs0 := Lib.hid hs0
  have Hhv0 := Lib.hid hv0
  have HE := Lib.hid E
  clear hs0 hv0 E
  go_enter Try.func9, Try.ntmps9
  go_wp2_with fail
  refine (SC _ _ (Hhs0.out.below (balloc2 _ _ _))).mono ?_
  rintro e w1 ⟨rfl, hb1⟩
  obtain ⟨B1, B2, hw1⟩ := box2 hb1
  have k0 := B1 0 _ rfl
  obtain ⟨u0, u1⟩ := B2.two
  have Hhw1 := Lib.hid hw1
  have HB1 := Lib.hid B1
  have HB2 := Lib.hid B2
  clear hw1 B1 B2
  clear hb1 SC
  by_cases h1 : q = 0
  · have q0 : (q != 0) = false := by simp [h1]
    have h1 := Lib.hid h1
    go_wp2_with fail
    refine (SM _ _ (Hhv0.out.below Hhw1.out)).mono ?_
    rintro e w2 ⟨rfl, hb2⟩
    have hw2 := bstep Hhw1.out hb2
    have C1 := HB1.out.below hb2
    have C2 := HB2.out.below hb2
    clear k0 u0 u1 hb2 Hhw1 HB1 HB2 SM
    have k0 := C1 0 _ rfl
    obtain ⟨u0, u1⟩ := C2.two
    have Hhw2 := Lib.hid hw2
    have HC1 := Lib.hid C1
    have HC2 := Lib.hid C2
    clear hw2 C1 C2
    cases p with
    | false =>
      go_wp2_with fail
      go_ret
      exact ⟨rint (by rw [HE.out, if_neg (by simp)]), Hhw2.out⟩
    | true =>
      go_wp2_with fail
      refine (OV _ _ _ (Hhs0.out.below Hhw2.out) (Hhv0.out.below Hhw2.out)).mono ?_
      rintro e w3 ⟨rfl, hb3⟩
      have hw3 := bstep Hhw2.out hb3
      clear k0 u0 u1 hb3 Hhw2 HC1 HC2 OV
      have Hhw3 := Lib.hid hw3
      clear hw3
      cases o with
      | false =>
        go_wp2_with fail
        go_ret
        exact ⟨rint (by rw [HE.out, if_neg (by simp)]), Hhw3.out⟩
      | true =>
        go_wp2_with fail
        go_ret
        exact ⟨rint (by rw [HE.out, if_pos ⟨h1.out, by first | rfl | trivial, by first | rfl | trivial⟩]), Hhw3.out⟩
  · have q0 : (q != 0) = true := by simpa using h1
    have h1 := Lib.hid h1
    go_wp2_with fail
    go_ret
    exact ⟨rint (by rw [HE.out, if_neg (fun h => h1.out h.1)]), Hhw1.out⟩
end Go.Proofs.Ytmdpiafeiopimaa

/- Rows of symbols, opened whole. -/
namespace Go.Proofs.Ytmdpiafeiopimaa
open Go.RowKit Go
def sget (l : List Sy) (k : Nat) : Sy := l.getD k default
theorem sget_lt {l : List Sy} {k : Nat} (h : k < l.length) : sget l k = l[k] := by simp [sget, h]
theorem IsSys.open {w : World} {l : List Sy} {a : Option Addr} (h : IsSys w l a) : ∃ (b o : Nat), (∀ k, k < l.length → a = some ⟨b, o, none⟩) ∧
    ∀ k, k < l.length → w.cell? ⟨b, o + k * 3, none⟩ = some (.string (sget l k).name) ∧ w.cell? ⟨b, o + k * 3 + 1, none⟩ = some (.int .i64 (sget l k).ar) ∧ w.cell? ⟨b, o + k * 3 + 2, none⟩ = some (.bool (sget l k).pred) := by
  rcases Nat.eq_zero_or_pos l.length with h0 | h0
  · exact ⟨0, 0, fun k hk => by omega, fun k hk => by omega⟩
  · obtain ⟨b, o, ha, _⟩ := h.at_ (Below.refl _ _) 0 h0
    refine ⟨b, o, fun _ _ => ha, fun k hk => ?_⟩
    obtain ⟨b', o', ha', h1, h2, h3, _⟩ := h.at_ (Below.refl _ _) k hk
    rw [ha] at ha'
    simp only [Option.some.injEq, Addr.mk.injEq, and_true] at ha'
    obtain ⟨rfl, rfl⟩ := ha'
    rw [sget_lt hk]; exact ⟨h1, h2, h3⟩
theorem IsSys.wf {w : World} {l : List Sy} {a : Option Addr} (h : IsSys w l a) {k : Nat} (hk : k < l.length) : I64 (sget l k).ar ∧ (sget l k).name.size ≤ maxLen := by
  obtain ⟨_, _, _, _, _, _, h4, h5⟩ := h.at_ (Below.refl _ _) k hk
  rw [sget_lt hk]; exact ⟨h4, h5⟩
theorem IsRow.drop {α : Type} {w : World} {sz c k : Nat} {R : World → α → List Value → Prop} {l : List α} {a : Option Addr} (h : IsRow w sz R l a) (hc : l.length ≤ c) : IsRow w sz R (l.drop k) (slA a k sz c) := by
  intro i hi
  simp only [List.length_drop] at hi
  obtain ⟨b, o, cs, rfl, h2, h3, h4⟩ := h (k + i) (by omega)
  refine ⟨b, o + k * sz, cs, slA_some (by omega), h2, fun j hj => ?_, by simpa using h4⟩
  have := h3 j hj
  rwa [Nat.add_mul, ← Nat.add_assoc] at this
end Go.Proofs.Ytmdpiafeiopimaa

namespace Go.Proofs.Ytmdpiafeiopimaa
open Go.RowKit Go
set_option linter.unusedVariables false
set_option linter.unusedSimpArgs false
set_option maxRecDepth 100000
theorem len_22 {w : World} {a : Act} {K : Act → World → Prop} {Q : Exit → Act → World → Prop} {o : Oper} {x : Operand} {r : Option Addr} {n c : Nat} (ho : o.op = .call { callee := .builtin .len, args := #[x], argTypes := #[22] }) (hx : a.eval x = .slice r n c) (hK : K (a.put o.dst (.int .i64 n)) w) : o.wp Try.prog a w K Q := by
  unfold Oper.wp execOp
  simp only [ho, resolve, List.map_toArray, List.map_cons, List.map_nil, hx]
  go_simp
  exact hK
theorem fld_27_3 {w : World} {a : Act} {K : Act → World → Prop} {Q : Exit → Act → World → Prop} {o : Oper} {x : Operand} {b p : Nat} (ho : o.op = .fieldAddr 27 x 3) (hx : a.eval x = .pointer (some ⟨b, p, none⟩)) (hK : K (a.put o.dst (.pointer (some ⟨b, p + 3, none⟩))) w) : o.wp Try.prog a w K Q := by
  unfold Oper.wp execOp
  simp only [ho, hx]
  go_simp
  exact hK
theorem fld_47_1 {w : World} {a : Act} {K : Act → World → Prop} {Q : Exit → Act → World → Prop} {o : Oper} {x : Operand} {b p : Nat} (ho : o.op = .fieldAddr 47 x 1) (hx : a.eval x = .pointer (some ⟨b, p, none⟩)) (hK : K (a.put o.dst (.pointer (some ⟨b, p + 1, none⟩))) w) : o.wp Try.prog a w K Q := by
  unfold Oper.wp execOp
  simp only [ho, hx]
  go_simp
  exact hK
theorem fld_44_0 {w : World} {a : Act} {K : Act → World → Prop} {Q : Exit → Act → World → Prop} {o : Oper} {x : Operand} {b p : Nat} (ho : o.op = .fieldAddr 44 x 0) (hx : a.eval x = .pointer (some ⟨b, p, none⟩)) (hK : K (a.put o.dst (.pointer (some ⟨b, p, none⟩))) w) : o.wp Try.prog a w K Q := by
  unfold Oper.wp execOp
  simp only [ho, hx]
  go_simp
  exact hK
theorem st_28 {w : World} {a : Act} {K : Act → World → Prop} {Q : Exit → Act → World → Prop} {o : Oper} {x y : Operand} {g p : Nat} {ty : TypeId} {cs : Array Value} {c0a : Option Addr} {c0n c0c : Nat} (ho : o.op = .store 28 x y) (hx : a.eval x = .pointer (some ⟨g, p, none⟩)) (hy : a.eval y = .slice c0a c0n c0c) (hB : Blk w g ty cs) (hp : p + 0 < cs.size) (hK : ∀ v, K (a.put o.dst v) (w.setCell ⟨g, p, none⟩ (.slice c0a c0n c0c))) : o.wp Try.prog a w K Q := by
  have h0 := (hB.cell (p)).trans (Array.getElem?_eq_getElem (by first | omega | (simp; omega)))
  have f0 := hB.frozen (p)
  clear hB
  unfold Oper.wp execOp
  simp only [ho, hx, hy]
  go_simp
  exact hK _
theorem build_30_ {w : World} {a : Act} {K : Act → World → Prop} {Q : Exit → Act → World → Prop} {o : Oper}   (ho : o.op = .build 30 #[])  (hK : K (a.put o.dst (.agg #[.int .i64 0, .slice none 0 0])) w) : o.wp Try.prog a w K Q := by
  unfold Oper.wp execOp
  simp only [ho, List.map_toArray, List.map_cons, List.map_nil, ]
  go_simp
  exact hK
end Go.Proofs.Ytmdpiafeiopimaa
