/- Rows of rows of terms; rows of pointers to literals; the members of a literal. -/
import Derived.Test.YtmdpiafeiopimaaOSe
import Derived.Test.YtmdpiafeiopimaaOSf
import Derived.Test.YtmdpiafeiopimaaOSa

/- Multisets of terms. -/
namespace Go.Proofs.Ytmdpiafeiopimaa
open Go.RowKit Go
set_option linter.unusedVariables false
set_option linter.unusedSimpArgs false
set_option maxRecDepth 100000 in
theorem allT_any (o : Od) (go : Nat) (p1 p2 : Option Addr) (k1 k2 : Nat) (L R : List T) (w0 w : World) (gb : Nat) (r1 r2 : Option Addr) (c1 c2 : Nat) (S1 S2 : Nat → Prop) (hL : PRow (AtT w0) w S1 r1 L.length L) (hR : PRow (AtT w0) w S2 r2 R.length R) (hz1 : ∀ x ∈ L, x.size ≤ 4294967296) (hz2 : ∀ x ∈ R, x.size ≤ 4294967296) (hl1 : L.length ≤ 1048576) (hl2 : R.length ≤ 1048576) (hw : Below w0.heap.size w0 w) (hB : Blk w0 go 27 #[.bool o.lpo, .slice p1 o.prec.length k1, .slice p2 o.weights.length k2, .int .i64 o.var]) (ho : IsOd w0 o (.agg #[.bool o.lpo, .slice p1 o.prec.length k1, .slice p2 o.weights.length k2, .int .i64 o.var])) (hgb : Blk w gb 65 #[.func (.func 43) #[] #[.pointer (some ⟨go, 0, none⟩)]]) :
  Calls Try.prog 46 #[.slice r1 L.length c1, .slice r2 R.length c2, .pointer (some ⟨gb, 0, none⟩)] w (Ret fun v' w' => v' = .bool (allAb o.ok2 L R) ∧ Below w.heap.size w w') := by
 refine Calls.walk (l := [.slice r1 L.length c1, .slice r2 R.length c2, .pointer (some ⟨gb, 0, none⟩)]) Try.func46 rfl (by kernel_rfl) ?_
 refine WC.sub (K' := [(0, .slice r1 L.length c1), (1, .slice r2 R.length c2), (2, .pointer (some ⟨gb, 0, none⟩))]) ⟨rfl, rfl, rfl, trivial⟩ ?_
 refine WC.seq (WC.region (WL.asg rfl rfl rfl rfl rfl (WL.nil (WE.next (WC.seq (WC.seq (WC.region (WL.mv rfl rfl rfl rfl rfl ?_))))))))
 refine WL.val (.int .i64 (((R.length : Nat) : Int))) rfl rfl rfl (fun za zC zh zk => len_83 rfl (zh.ev rfl) zk) ?_
 refine WL.mv rfl rfl rfl rfl rfl (WL.nil (WE.next (WC.block ?_)))
 refine WC.loop (X := Nat) (fun j => R.length - j) (fun j => [(0, .slice r1 L.length c1), (1, .slice r2 R.length c2), (2, .pointer (some ⟨gb, 0, none⟩)), (11, .slice r2 R.length c2), (12, .int .i64 (((R.length : Nat) : Int))), (13, .int .i64 (((j : Nat) : Int)))]) (fun j w1 => j ≤ R.length ∧ (∀ q, q < j → L.any (fun p => o.ok2 p (tget R q) == 3) = true) ∧ Below w.heap.size w w1 ∧ Blk w1 gb 65 #[.func (.func 43) #[] #[.pointer (some ⟨go, 0, none⟩)]]) 0 ⟨rfl, rfl, rfl, rfl, rfl, rfl, trivial⟩ ?_ ?_
 ·exact ⟨Nat.zero_le _, fun q h => absurd h (Nat.not_lt_zero q), (Below.refl _ _), hgb⟩
 ·rintro j w1 ⟨hj, hE, hb2, hB3⟩
  refine WC.seq (WC.region ?_)
  refine WL.val (.bool ((decide ((((j : Nat) : Int) : Int) < (((R.length : Nat) : Int) : Int))))) rfl rfl rfl (fun za zC zh zk => lss_3 rfl (zh.ev rfl) (zh.ev rfl) zk) ?_
  refine WL.nil (WE.next (WC.seq ?_))
  refine WC.cond rfl (fun h4 => ?_) (fun h4 => ?_)
  ·have h4 : (((j : Nat) : Int) : Int) < (((R.length : Nat) : Int) : Int) := by simpa using h4
   refine WC.skip (WE.next (WC.seq (WC.block (WC.seq (WC.region ?_)))))
   obtain ⟨b5, o6, Bf7, Pf8, A9, C10, ha11, hc12⟩ := PRow.openT (hR.below hb2)
   refine WL.val _ rfl rfl rfl (fun za zC zh zk => ix_83 (k := j) rfl (zh.ev rfl) (ha11 j (by first | omega | (simp; omega))) (zh.ev rfl) (by first | omega | (simp; omega)) zk) ?_
   refine WL.val _ rfl rfl rfl (fun za zC zh zk => ld_84 rfl (zh.ev rfl) (hc12 j (by first | omega | (simp; omega))).1 zk) ?_
   refine WL.asg rfl rfl rfl rfl rfl (WL.nil (WE.next (WC.seq (WC.region (WL.asg rfl rfl rfl rfl rfl (WL.nil (WE.next (WC.seq (WC.seq (WC.region (WL.mv rfl rfl rfl rfl rfl ?_)))))))))))
   refine WL.val (.int .i64 (((L.length : Nat) : Int))) rfl rfl rfl (fun za zC zh zk => len_83 rfl (zh.ev rfl) zk) ?_
   refine WL.mv rfl rfl rfl rfl rfl (WL.nil (WE.next (WC.block ?_)))
   refine WC.loop (X := Nat) (fun i => L.length - i) (fun i => [(0, .slice r1 L.length c1), (1, .slice r2 R.length c2), (2, .pointer (some ⟨gb, 0, none⟩)), (7, .pointer (some ⟨(Bf7 j), (Pf8 j), none⟩)), (8, .bool (((L.take i).any (fun p => o.ok2 p (tget R j) == 3)))), (11, .slice r2 R.length c2), (12, .int .i64 (((R.length : Nat) : Int))), (13, .int .i64 (((j : Nat) : Int))), (14, .bool ((decide ((((j : Nat) : Int) : Int) < (((R.length : Nat) : Int) : Int))))), (17, .slice r1 L.length c1), (18, .int .i64 (((L.length : Nat) : Int))), (19, .int .i64 (((i : Nat) : Int)))]) (fun i w13 => i ≤ L.length ∧ Below w.heap.size w w13 ∧ Blk w13 gb 65 #[.func (.func 43) #[] #[.pointer (some ⟨go, 0, none⟩)]]) 0 ⟨rfl, rfl, rfl, rfl, rfl, rfl, rfl, rfl, rfl, rfl, rfl, rfl, trivial⟩ ?_ ?_
   ·exact ⟨Nat.zero_le _, hb2, hB3⟩
   ·rintro i w13 ⟨hi, hb14, hB15⟩
    refine WC.seq (WC.region ?_)
    refine WL.val (.bool ((decide ((((i : Nat) : Int) : Int) < (((L.length : Nat) : Int) : Int))))) rfl rfl rfl (fun za zC zh zk => lss_3 rfl (zh.ev rfl) (zh.ev rfl) zk) ?_
    refine WL.nil (WE.next (WC.seq ?_))
    refine WC.cond rfl (fun h16 => ?_) (fun h16 => ?_)
    ·have h16 : (((i : Nat) : Int) : Int) < (((L.length : Nat) : Int) : Int) := by simpa using h16
     refine WC.skip (WE.next (WC.seq (WC.block (WC.seq (WC.region ?_)))))
     obtain ⟨b17, o18, Bf19, Pf20, A21, C22, ha23, hc24⟩ := PRow.openT (hL.below hb14)
     refine WL.val _ rfl rfl rfl (fun za zC zh zk => ix_83 (k := i) rfl (zh.ev rfl) (ha23 i (by first | omega | (simp; omega))) (zh.ev rfl) (by first | omega | (simp; omega)) zk) ?_
     refine WL.val _ rfl rfl rfl (fun za zC zh zk => ld_84 rfl (zh.ev rfl) (hc24 i (by first | omega | (simp; omega))).1 zk) ?_
     refine WL.asg rfl rfl rfl rfl rfl (WL.nil (WE.next ?_))
     refine WC.seqV (S := ((fun b => b < 0))) [(true, .val (.bool (((L.take i).any (fun p => o.ok2 p (tget R j) == 3))))), (true, .val (.bool (((L.take i).any (fun p => o.ok2 p (tget R j) == 3))))), ((true && !((L.take i).any (fun p => o.ok2 p (tget R j) == 3))), .val (.func (.func 43) #[] #[.pointer (some ⟨go, 0, none⟩)])), ((true && !((L.take i).any (fun p => o.ok2 p (tget R j) == 3))), .val (.pointer (some ⟨(Bf19 i), (Pf20 i), none⟩))), ((true && !((L.take i).any (fun p => o.ok2 p (tget R j) == 3))), .val (.pointer (some ⟨(Bf19 i), (Pf20 i), none⟩))), ((true && !((L.take i).any (fun p => o.ok2 p (tget R j) == 3))), .val (.agg #[.int .i64 ((tget L i).f), .slice ((A21 i)) ((tget L i).args.length) ((C22 i))])), ((true && !((L.take i).any (fun p => o.ok2 p (tget R j) == 3))), .val (.pointer (some ⟨(Bf7 j), (Pf8 j), none⟩))), ((true && !((L.take i).any (fun p => o.ok2 p (tget R j) == 3))), .val (.pointer (some ⟨(Bf7 j), (Pf8 j), none⟩))), ((true && !((L.take i).any (fun p => o.ok2 p (tget R j) == 3))), .val (.agg #[.int .i64 ((tget R j).f), .slice ((A9 j)) ((tget R j).args.length) ((C10 j))])), ((true && !((L.take i).any (fun p => o.ok2 p (tget R j) == 3))), .val (.int .i64 ((o.ok2 (tget L i) (tget R j))))), ((true && !((L.take i).any (fun p => o.ok2 p (tget R j) == 3))), .val (.bool ((((o.ok2 (tget L i) (tget R j)) : Int) == (3 : Int))))), (true, .val (.bool ((((L.take i).any (fun p => o.ok2 p (tget R j) == 3)) || (((o.ok2 (tget L i) (tget R j)) : Int) == (3 : Int)))))), (true, .val undef)] [(0, .slice r1 L.length c1), (1, .slice r2 R.length c2), (2, .pointer (some ⟨gb, 0, none⟩)), (7, .pointer (some ⟨(Bf7 j), (Pf8 j), none⟩)), (10, .pointer (some ⟨(Bf19 i), (Pf20 i), none⟩)), (11, .slice r2 R.length c2), (12, .int .i64 (((R.length : Nat) : Int))), (13, .int .i64 (((j : Nat) : Int))), (14, .bool ((decide ((((j : Nat) : Int) : Int) < (((R.length : Nat) : Int) : Int))))), (17, .slice r1 L.length c1), (18, .int .i64 (((L.length : Nat) : Int))), (19, .int .i64 (((i : Nat) : Int))), (20, .bool ((decide ((((i : Nat) : Int) : Int) < (((L.length : Nat) : Int) : Int)))))] [12] [some (true, .bool ((((L.take i).any (fun p => o.ok2 p (tget R j) == 3)) || (o.ok2 (tget L i) (tget R j) == 3))))] (fun _ _ => True) ((fun _ _ _ _ _ => trivial)) (by decide) ⟨rfl, rfl, rfl, rfl, rfl, rfl, rfl, rfl, rfl, rfl, rfl, rfl, rfl, trivial⟩ (by kernel_rfl) (by kernel_rfl) (by kernel_rfl) (by kernel_rfl) trivial ?_ ?_
     ·refine ⟨.inl ⟨rfl, true, .none rfl, (fun gg b h => by cases h), fun h w => optUndef h, fun zβ za zw zc => ?_⟩, ?_⟩
      ·exact wp_move rfl ((evt za 8).trans (zc.old 8 _ rfl (by kernel_rfl))) ⟨_, rfl, Below.refl _ _, optDef zβ rfl⟩
      refine ⟨.inl ⟨rfl, true, .none rfl, (fun gg b h => by cases h), fun h w => optUndef h, fun zβ za zw zc => ?_⟩, ?_⟩
      ·exact wp_move rfl ((evt za 23).trans (optSVal (zc.dep 0 23 (by kernel_rfl) (by decide)) rfl rfl)) ⟨_, rfl, Below.refl _ _, optDef zβ rfl⟩
      refine ⟨.inl ⟨rfl, (true && !((L.take i).any (fun p => o.ok2 p (tget R j) == 3))), .no (c := ((L.take i).any (fun p => o.ok2 p (tget R j) == 3))) (d := true) rfl (fun v w h => h), (fun gg b h => by cases h; rfl), fun h w => optUndef h, fun zβ za zw zc => ?_⟩, ?_⟩
      ·exact ld_65 rfl (zc.kn.ev rfl) (bkeeps (Chg.toBelow zc.chg) _ _ ((hB15.cell 0).trans rfl)) ⟨_, rfl, Below.refl _ _, optDef zβ rfl⟩
      refine ⟨.inl ⟨rfl, (true && !((L.take i).any (fun p => o.ok2 p (tget R j) == 3))), .no (c := ((L.take i).any (fun p => o.ok2 p (tget R j) == 3))) (d := true) rfl (fun v w h => h), (fun gg b h => by cases h; rfl), fun h w => optUndef h, fun zβ za zw zc => ?_⟩, ?_⟩
      ·exact wp_move rfl (zc.kn.ev rfl) ⟨_, rfl, Below.refl _ _, optDef zβ rfl⟩
      refine ⟨.inl ⟨rfl, (true && !((L.take i).any (fun p => o.ok2 p (tget R j) == 3))), .no (c := ((L.take i).any (fun p => o.ok2 p (tget R j) == 3))) (d := true) rfl (fun v w h => h), (fun gg b h => by cases h; rfl), fun h w => optUndef h, fun zβ za zw zc => ?_⟩, ?_⟩
      ·exact nilCheck_ rfl ((evt za 26).trans (optSVal (zc.dep 3 26 (by kernel_rfl) (by decide)) rfl zβ)) ⟨_, rfl, Below.refl _ _, optDef zβ rfl⟩
      refine ⟨.inl ⟨rfl, (true && !((L.take i).any (fun p => o.ok2 p (tget R j) == 3))), .no (c := ((L.take i).any (fun p => o.ok2 p (tget R j) == 3))) (d := true) rfl (fun v w h => h), (fun gg b h => by cases h; rfl), fun h w => optUndef h, fun zβ za zw zc => ?_⟩, ?_⟩
      ·exact ld_30 rfl ((evt za 27).trans (optSVal (zc.dep 4 27 (by kernel_rfl) (by decide)) rfl zβ)) (bkeeps (Chg.toBelow zc.chg) _ _ (bkeeps (bstep hw hb14) _ _ (hc24 i (by first | omega | (have zz := zβ; simp only [Bool.and_eq_true, Bool.or_eq_true, Bool.true_and, Bool.not_eq_true', Bool.or_eq_false_iff, Bool.and_eq_false_iff, beq_eq_false_iff_ne, ne_eq, beq_iff_eq, decide_eq_true_eq, decide_eq_false_iff_not, bne_iff_ne, bne_eq_false_iff_eq] at zz; omega))).2.1)) (bkeeps (Chg.toBelow zc.chg) _ _ (bkeeps (bstep hw hb14) _ _ (hc24 i (by first | omega | (have zz := zβ; simp only [Bool.and_eq_true, Bool.or_eq_true, Bool.true_and, Bool.not_eq_true', Bool.or_eq_false_iff, Bool.and_eq_false_iff, beq_eq_false_iff_ne, ne_eq, beq_iff_eq, decide_eq_true_eq, decide_eq_false_iff_not, bne_iff_ne, bne_eq_false_iff_eq] at zz; omega))).2.2.1)) ⟨_, rfl, Below.refl _ _, optDef zβ rfl⟩
      refine ⟨.inl ⟨rfl, (true && !((L.take i).any (fun p => o.ok2 p (tget R j) == 3))), .no (c := ((L.take i).any (fun p => o.ok2 p (tget R j) == 3))) (d := true) rfl (fun v w h => h), (fun gg b h => by cases h; rfl), fun h w => optUndef h, fun zβ za zw zc => ?_⟩, ?_⟩
      ·exact wp_move rfl (zc.kn.ev rfl) ⟨_, rfl, Below.refl _ _, optDef zβ rfl⟩
      refine ⟨.inl ⟨rfl, (true && !((L.take i).any (fun p => o.ok2 p (tget R j) == 3))), .no (c := ((L.take i).any (fun p => o.ok2 p (tget R j) == 3))) (d := true) rfl (fun v w h => h), (fun gg b h => by cases h; rfl), fun h w => optUndef h, fun zβ za zw zc => ?_⟩, ?_⟩
      ·exact nilCheck_ rfl ((evt za 29).trans (optSVal (zc.dep 6 29 (by kernel_rfl) (by decide)) rfl zβ)) ⟨_, rfl, Below.refl _ _, optDef zβ rfl⟩
      refine ⟨.inl ⟨rfl, (true && !((L.take i).any (fun p => o.ok2 p (tget R j) == 3))), .no (c := ((L.take i).any (fun p => o.ok2 p (tget R j) == 3))) (d := true) rfl (fun v w h => h), (fun gg b h => by cases h; rfl), fun h w => optUndef h, fun zβ za zw zc => ?_⟩, ?_⟩
      ·exact ld_30 rfl ((evt za 30).trans (optSVal (zc.dep 7 30 (by kernel_rfl) (by decide)) rfl zβ)) (bkeeps (Chg.toBelow zc.chg) _ _ (bkeeps (bstep hw hb14) _ _ (hc12 j (by first | omega | (have zz := zβ; simp only [Bool.and_eq_true, Bool.or_eq_true, Bool.true_and, Bool.not_eq_true', Bool.or_eq_false_iff, Bool.and_eq_false_iff, beq_eq_false_iff_ne, ne_eq, beq_iff_eq, decide_eq_true_eq, decide_eq_false_iff_not, bne_iff_ne, bne_eq_false_iff_eq] at zz; omega))).2.1)) (bkeeps (Chg.toBelow zc.chg) _ _ (bkeeps (bstep hw hb14) _ _ (hc12 j (by first | omega | (have zz := zβ; simp only [Bool.and_eq_true, Bool.or_eq_true, Bool.true_and, Bool.not_eq_true', Bool.or_eq_false_iff, Bool.and_eq_false_iff, beq_eq_false_iff_ne, ne_eq, beq_iff_eq, decide_eq_true_eq, decide_eq_false_iff_not, bne_iff_ne, bne_eq_false_iff_eq] at zz; omega))).2.2.1)) ⟨_, rfl, Below.refl _ _, optDef zβ rfl⟩
      refine ⟨.inl ⟨rfl, (true && !((L.take i).any (fun p => o.ok2 p (tget R j) == 3))), .no (c := ((L.take i).any (fun p => o.ok2 p (tget R j) == 3))) (d := true) rfl (fun v w h => h), (fun gg b h => by cases h; rfl), fun h w => optUndef h, fun zβ za zw zc => ?_⟩, ?_⟩
      ·exact wp_callv (by kernel_rfl) rfl ((evt za 25).trans (optSVal (zc.dep 2 25 (by kernel_rfl) (by decide)) rfl zβ)) (hv2 ((evt za 28).trans (optSVal (zc.dep 5 28 (by kernel_rfl) (by decide)) rfl zβ)) ((evt za 31).trans (optSVal (zc.dep 8 31 (by kernel_rfl) (by decide)) rfl zβ))) (oknows1_any o (tget L i) (tget R j) _ go _ _ p1 p2 k1 k2 (hz1 _ (tget_mem (by omega))) (hz2 _ (tget_mem (by omega))) (hB.below (bstep hw (bstep hb14 (Chg.toBelow zc.chg)))) (ho.below (bstep hw (bstep hb14 (Chg.toBelow zc.chg)))) (IsT.below (Chg.toBelow zc.chg) (IsT.below (bstep hw hb14) (hc24 i (by first | omega | (have zz := zβ; simp only [Bool.and_eq_true, Bool.or_eq_true, Bool.true_and, Bool.not_eq_true', Bool.or_eq_false_iff, Bool.and_eq_false_iff, beq_eq_false_iff_ne, ne_eq, beq_iff_eq, decide_eq_true_eq, decide_eq_false_iff_not, bne_iff_ne, bne_eq_false_iff_eq] at zz; omega))).2.2.2)) (IsT.below (Chg.toBelow zc.chg) (IsT.below (bstep hw hb14) (hc12 j (by first | omega | (have zz := zβ; simp only [Bool.and_eq_true, Bool.or_eq_true, Bool.true_and, Bool.not_eq_true', Bool.or_eq_false_iff, Bool.and_eq_false_iff, beq_eq_false_iff_ne, ne_eq, beq_iff_eq, decide_eq_true_eq, decide_eq_false_iff_not, bne_iff_ne, bne_eq_false_iff_eq] at zz; omega))).2.2.2))) (fun v w' h => ⟨v, rfl, h.2, optDef zβ h.1⟩)
      refine ⟨.inl ⟨rfl, (true && !((L.take i).any (fun p => o.ok2 p (tget R j) == 3))), .no (c := ((L.take i).any (fun p => o.ok2 p (tget R j) == 3))) (d := true) rfl (fun v w h => h), (fun gg b h => by cases h; rfl), fun h w => optUndef h, fun zβ za zw zc => ?_⟩, ?_⟩
      ·exact eql_48 rfl ((evt za 32).trans (optSVal (zc.dep 9 32 (by kernel_rfl) (by decide)) rfl zβ)) (zc.kn.ev rfl) ⟨_, rfl, Below.refl _ _, optDef zβ rfl⟩
      refine ⟨.inl ⟨rfl, true, .none rfl, (fun gg b h => by cases h), fun h w => optUndef h, fun zβ za zw zc => ?_⟩, ?_⟩
      ·exact wp_or rfl ((evt za 24).trans (optSVal (zc.dep 1 24 (by kernel_rfl) (by decide)) rfl rfl)) (fun hp => ((evt za 33).trans (optSVal (zc.dep 10 33 (by kernel_rfl) (by decide)) rfl (bMkN zβ hp)))) ⟨_, rfl, Below.refl _ _, optDef zβ rfl⟩
      refine ⟨.inr ⟨0, rfl, by kernel_rfl, true, .none rfl, (fun gg b h => by cases h), (fun h => (nomatch h)), fun zβ za zw zvals zc => ?_⟩, ?_⟩
      ·obtain rfl := vlen0 zc.len
       have zn := zc.now
       exact wp_assign rfl (((evt za 34).trans (optSVal (zc.dep 11 34 (by kernel_rfl) (by decide)) rfl rfl))) ⟨_, rfl, .ofBelow (Below.refl _ _), trivial, cvIs rfl⟩
      exact trivial
     ·intro za w26 zvals zh zl hG27 hc28 zu zw zk
      obtain ⟨z0, rfl⟩ := vlen1 zl
      have zh := zh.cons (d := 8) (v := .bool ((((L.take i).any (fun p => o.ok2 p (tget R j) == 3)) || (o.ok2 (tget L i) (tget R j) == 3)))) (zk 0 12 8 _ _ rfl (by kernel_rfl) rfl rfl)
      have hb29 := Chg.toBelow hc28
      clear zu zw zk
      refine WE.go zh ?_
      refine WE.blockNormal (WE.next (WC.region ?_))
      refine WL.val (.int .i64 ((((i + 1) : Nat) : Int))) rfl rfl rfl (fun za zC zh zk => addb_3 rfl (zh.ev rfl) (zh.ev rfl) (wrap_eq (by omega) (by omega) (by omega)) zk) ?_
      refine WL.mv rfl rfl rfl rfl rfl (WL.nil ?_)
      have he30 : (((L.take i).any (fun p => o.ok2 p (tget R j) == 3)) || (o.ok2 (tget L i) (tget R j) == 3)) = ((L.take (i + 1)).any (fun p => o.ok2 p (tget R j) == 3)) := by rw [← take_snoc (d := (.mk 0 [])) (show i < L.length by omega), List.any_append]; simp [tget]
      rw [he30]
      refine WE.round (i + 1) ⟨rfl, rfl, rfl, rfl, rfl, rfl, rfl, rfl, rfl, rfl, rfl, rfl, trivial⟩ ?_ ?_
      ·have hb31 : Below w.heap.size w w26 := (bstep hb14 hb29)
       have hB32 := hB15.below hb29
       exact ⟨by omega, hb31, hB32⟩
      ·omega
    ·have h16 : ¬ ((((i : Nat) : Int) : Int) < (((L.length : Nat) : Int) : Int)) := by simpa using h16
     refine WC.exit (WE.thenExit (WE.thenExit (WE.blockIs rfl (WE.next (WC.seq (WC.region (WL.mv rfl rfl rfl rfl rfl ?_)))))))
     refine WL.val (.bool ((!((L.take i).any (fun p => o.ok2 p (tget R j) == 3))))) rfl rfl rfl (fun za zC zh zk => wp_not rfl (zh.ev rfl) zk) ?_
     refine WL.nil (WE.next ?_)
     refine WC.cond rfl (fun h33 => ?_) (fun h33 => ?_)
     ·have h33 : ¬ (((L.take i).any (fun p => o.ok2 p (tget R j) == 3)) = true) := by simpa using h33
      refine WC.seq (WC.region (WL.asg rfl rfl rfl rfl rfl (WL.nil (WE.next (WC.ret (WE.blockRet (WE.thenRet (WE.thenRet (WE.blockRet (WE.thenRet (WE.ret1 rfl rfl ?_)))))))))))
      exact ⟨_, rfl, congrArg Value.bool (by symm; rw [Bool.eq_false_iff]; intro e; unfold allAb at e; rw [List.all_eq_true] at e; have z := e R[j] (List.getElem_mem (by omega)); have z2 := h33; rw [List.take_of_length_le (by omega), tget_lt (by omega)] at z2; exact absurd z (by simpa using z2)), hb14⟩
     ·have h33 : ¬ (¬ (((L.take i).any (fun p => o.ok2 p (tget R j) == 3)) = true)) := by simpa using h33
      refine WC.skip (WE.blockNormal (WE.next (WC.region ?_)))
      refine WL.val (.int .i64 ((((j + 1) : Nat) : Int))) rfl rfl rfl (fun za zC zh zk => addb_3 rfl (zh.ev rfl) (zh.ev rfl) (wrap_eq (by omega) (by omega) (by omega)) zk) ?_
      refine WL.mv rfl rfl rfl rfl rfl (WL.nil ?_)
      refine WE.round (j + 1) ⟨rfl, rfl, rfl, rfl, rfl, rfl, trivial⟩ ?_ ?_
      ·exact ⟨by omega, fun q hq => by
         by_cases e : q = j
         ·rw [e]; have z := h33; rw [List.take_of_length_le (by omega)] at z; simpa using z
         ·exact hE q (by omega), hb14, hB15⟩
      ·omega
  ·have h4 : ¬ ((((j : Nat) : Int) : Int) < (((R.length : Nat) : Int) : Int)) := by simpa using h4
   refine WC.exit (WE.thenExit (WE.thenExit (WE.blockIs rfl (WE.next (WC.seq (WC.region (WL.asg rfl rfl rfl rfl rfl (WL.nil (WE.next (WC.ret (WE.ret1 rfl rfl ?_)))))))))))
   exact ⟨_, rfl, congrArg Value.bool (by symm; unfold allAb; rw [List.all_eq_true]; intro q hq; obtain ⟨k, hk, rfl⟩ := List.getElem_of_mem hq; have z := hE k (by omega); rwa [tget_lt hk] at z), hb2⟩
set_option maxRecDepth 100000 in
theorem multiT_any (o : Od) (go : Nat) (p1 p2 : Option Addr) (k1 k2 : Nat) (a b : List T) (w : World) (xa xb : Option Addr) (ca cb : Nat) (ha : IsTs w a xa 0) (hb : IsTs w b xb 0) (hB : Blk w go 27 #[.bool o.lpo, .slice p1 o.prec.length k1, .slice p2 o.weights.length k2, .int .i64 o.var]) (ho : IsOd w o (.agg #[.bool o.lpo, .slice p1 o.prec.length k1, .slice p2 o.weights.length k2, .int .i64 o.var])) (hza : ∀ x ∈ a, x.size ≤ 4294967296) (hzb : ∀ x ∈ b, x.size ≤ 4294967296) (hla : a.length ≤ 1048576) (hlb : b.length ≤ 1048576) :
  Calls Try.prog 29 #[.slice xa a.length ca, .slice xb b.length cb, .func (.func 43) #[] #[.pointer (some ⟨go, 0, none⟩)]] w (Ret fun v' w' => v' = .int .i64 (multiP o.ok2 a b) ∧ Below w.heap.size w w') := by
 refine Calls.walk (l := [.slice xa a.length ca, .slice xb b.length cb, .func (.func 43) #[] #[.pointer (some ⟨go, 0, none⟩)]]) Try.func29 rfl (by kernel_rfl) ?_
 refine WC.sub (K' := [(0, .slice xa a.length ca), (1, .slice xb b.length cb), (2, .func (.func 43) #[] #[.pointer (some ⟨go, 0, none⟩)])]) ⟨rfl, rfl, rfl, trivial⟩ ?_
 refine WC.seq (WC.region ?_)
 refine WL.step (post := NewBlk w 65 #[.func (.func 43) #[] #[.pointer (some ⟨go, 0, none⟩)]]) rfl rfl rfl (fun za zC zh zk => box_65 rfl (zh.ev rfl) (zk _ _ (newBlk _ _ _))) ?_
 rintro _ w1 ⟨g2, rfl, hg3, hB4, hb5, hz6⟩
 have hl7 : w.heap.size ≤ g2 := by omega
 refine WL.asg rfl rfl rfl rfl rfl (WL.nil (WE.next (WC.scope rfl (WC.seq ?_))))
 refine WC.twoMk [(true, .slice xa a.length ca), (true, .int .i64 (((a.length : Nat) : Int))), (true, undef), (true, .slice xb b.length cb), (true, .int .i64 (((b.length : Nat) : Int))), (true, undef), (true, undef), (true, undef)] [(0, .slice xa a.length ca), (1, .slice xb b.length cb), (2, .func (.func 43) #[] #[.pointer (some ⟨go, 0, none⟩)]), (5, .pointer (some ⟨g2, 0, none⟩)), (6, .int .i64 0)] (n1 := 0) (c1 := a.length) (t1 := 84) (z1 := (madeCells (Value.cells (.pointer none)) a.length)) (n2 := b.length) (c2 := b.length) (t2 := 84) (z2 := (madeCells (Value.cells (.pointer none)) b.length)) 2 5 6 7 7 8 (by decide) (by kernel_rfl) rfl rfl ⟨rfl, rfl, rfl, rfl, rfl, trivial⟩ (by kernel_rfl) (by kernel_rfl) (by kernel_rfl) ?_ ?_
 ·refine ⟨.inl ⟨by decide, rfl, fun za zw zc => ?_⟩, ?_⟩
  ·exact wp_move rfl (zc.kn.ev rfl) ⟨_, rfl, rfl, optDef rfl rfl⟩
  refine ⟨.inl ⟨by decide, rfl, fun za zw zc => ?_⟩, ?_⟩
  ·exact len_28 rfl ((evt za 13).trans (valVal (zc.dep 0 13 (by kernel_rfl) (by decide)) rfl rfl)) ⟨_, rfl, rfl, optDef rfl rfl⟩
  refine ⟨.inr (.inl ⟨rfl, rfl, fun za zw zc => ?_⟩), ?_⟩
  ·exact wp_mkR (n := 0) (c := a.length) (z := .pointer none) (bytes := 8) Try.underlying83 (by kernel_rfl) (by decide) rfl (zc.kn.ev rfl) ((evt za 14).trans (valVal (zc.dep 1 14 (by kernel_rfl) (by decide)) rfl rfl)) (by omega) (by omega) ⟨rfl, rfl⟩
  refine ⟨.inl ⟨by decide, rfl, fun za zw zc => ?_⟩, ?_⟩
  ·exact wp_move rfl (zc.kn.ev rfl) ⟨_, rfl, rfl, optDef rfl rfl⟩
  refine ⟨.inl ⟨by decide, rfl, fun za zw zc => ?_⟩, ?_⟩
  ·exact len_28 rfl ((evt za 16).trans (valVal (zc.dep 3 16 (by kernel_rfl) (by decide)) rfl rfl)) ⟨_, rfl, rfl, optDef rfl rfl⟩
  refine ⟨.inr (.inr (.inl ⟨rfl, rfl, fun za zw zc => ?_⟩)), ?_⟩
  ·exact wp_mkR (n := b.length) (c := b.length) (z := .pointer none) (bytes := 8) Try.underlying83 (by kernel_rfl) (by decide) rfl ((evt za 17).trans (valVal (zc.dep 4 17 (by kernel_rfl) (by decide)) rfl rfl)) ((evt za 17).trans (valVal (zc.dep 4 17 (by kernel_rfl) (by decide)) rfl rfl)) (by omega) (by omega) ⟨rfl, rfl⟩
  refine ⟨.inr (.inr (.inr (.inl ⟨rfl, rfl, 15, by kernel_rfl, rfl⟩))), ?_⟩
  refine ⟨.inr (.inr (.inr (.inr ⟨rfl, rfl, 18, by kernel_rfl, rfl⟩))), ?_⟩
  exact trivial
 ·intro za w8 g9 g10 zh hb11 hg12 hg13 hne14 hB15 hB16 hv17 hv18 zu
  have hl19 : g2 < g9 := by have z1 := hB4.lt; omega
  have hl20 : w.heap.size ≤ g9 := by have z2 := (hb5).size; omega
  have hl21 : g2 < g10 := by have z1 := hB4.lt; omega
  have hl22 : w.heap.size ≤ g10 := by have z2 := (hb5).size; omega
  have zh := zh.cons (d := 7) hv17
  have zh := zh.cons (d := 8) hv18
  have hL23 : LRow (AtT w) w8 84 g9 a.length 0 [] := LRow.start hB15 (made_size _ _)
  have hL24 : LRow (AtT w) w8 84 g10 b.length 0 [] := LRow.start hB16 (made_size _ _)
  clear zu
  refine WE.go zh ?_
  refine WE.next (WC.seq (WC.seq (WC.region (WL.mv rfl rfl rfl rfl rfl ?_))))
  refine WL.val (.int .i64 (((b.length : Nat) : Int))) rfl rfl rfl (fun za zC zh zk => len_28 rfl (zh.ev rfl) zk) ?_
  refine WL.mv rfl rfl rfl rfl rfl (WL.nil (WE.next (WC.block ?_)))
  refine WC.loop (X := Nat) (fun i => b.length - i) (fun i => [(0, .slice xa a.length ca), (1, .slice xb b.length cb), (2, .func (.func 43) #[] #[.pointer (some ⟨go, 0, none⟩)]), (5, .pointer (some ⟨g2, 0, none⟩)), (6, .int .i64 0), (7, .slice ((some ⟨g9, 0, none⟩)) 0 a.length), (8, .slice ((some ⟨g10, 0, none⟩)) b.length b.length), (20, .int .i64 (((b.length : Nat) : Int))), (21, .int .i64 (((i : Nat) : Int)))]) (fun i w25 => i ≤ b.length ∧ Below w.heap.size w w25 ∧ Blk w25 g2 65 #[.func (.func 43) #[] #[.pointer (some ⟨go, 0, none⟩)]] ∧ LRow (AtT w) (w25) 84 g9 a.length (([] : List T)).length (([] : List T)) ∧ LRow (AtT w) (w25) 84 g10 b.length i (b.take i)) 0 ⟨rfl, rfl, rfl, rfl, rfl, rfl, rfl, rfl, rfl, trivial⟩ ?_ ?_
  ·have hb26 : Below w.heap.size w w8 := (bstep hb5 hb11)
   have hB27 := hB4.below hb11
   exact ⟨Nat.zero_le _, hb26, hB27, hL23, hL24⟩
  ·rintro i w25 ⟨hi, hb28, hB29, ho30, ho31⟩
   refine WC.seq (WC.region ?_)
   refine WL.val (.bool ((decide ((((i : Nat) : Int) : Int) < (((b.length : Nat) : Int) : Int))))) rfl rfl rfl (fun za zC zh zk => lss_3 rfl (zh.ev rfl) (zh.ev rfl) zk) ?_
   refine WL.nil (WE.next (WC.seq ?_))
   refine WC.cond rfl (fun h32 => ?_) (fun h32 => ?_)
   ·have h32 : (((i : Nat) : Int) : Int) < (((b.length : Nat) : Int) : Int) := by simpa using h32
    refine WC.skip (WE.next (WC.seq (WC.block (WC.seq (WC.region (WL.mv rfl rfl rfl rfl rfl (WL.asg rfl rfl rfl rfl rfl (WL.nil (WE.next (WC.region (WL.mv rfl rfl rfl rfl rfl (WL.mv rfl rfl rfl rfl rfl (WL.mv rfl rfl rfl rfl rfl (WL.mv rfl rfl rfl rfl rfl ?_))))))))))))))
    obtain ⟨b33, o34, A35, C36, ha37, hc38⟩ := IsTs.open hb
    refine WL.val _ rfl rfl rfl (fun za zC zh zk => ix_28 (k := i) rfl (zh.ev rfl) (ha37 i (by first | omega | (simp; omega))) (zh.ev rfl) (by first | omega | (simp; omega)) zk) ?_
    refine WL.val _ rfl rfl rfl (fun za zC zh zk => ix_83 (k := i) rfl (zh.ev rfl) rfl (zh.ev rfl) (by first | omega | (simp; omega)) zk) ?_
    obtain ⟨zcs, hx43, hx43z⟩ := ho31.cells (by omega)
    refine WL.step (post := fun _ w' => Upd g10 w25 w' ∧ LRow (AtT w) w' 84 g10 b.length (i + 1) (b.take (i + 1))) rfl rfl rfl (fun za zC zh zk => st_84 rfl (zh.ev rfl) (zh.ev rfl) hx43 hx43z (fun v => zk v _ ⟨Upd.at_ _ _ _ _, by rw [← take_snoc (d := (.mk 0 [])) (show i < b.length by omega)]; exact LRow.storeAt (by omega) ho31 (by omega) (show AtT w _ _ _ from ⟨_, _, hc38 i (by omega)⟩)⟩)) ?_
    rintro v42 w39 ⟨hu40, hL41⟩
    have hb44 := upd_below hb28 hu40 (by omega)
    have hB45 := upd_blk hB29 hu40 (by omega)
    have ho46 := ho30.upd hu40 (by omega)
    refine WL.nil (WE.blockNormal (WE.next (WC.region ?_)))
    refine WL.val (.int .i64 ((((i + 1) : Nat) : Int))) rfl rfl rfl (fun za zC zh zk => addb_3 rfl (zh.ev rfl) (zh.ev rfl) (wrap_eq (by omega) (by omega) (by omega)) zk) ?_
    refine WL.mv rfl rfl rfl rfl rfl (WL.nil ?_)
    refine WE.round (i + 1) ⟨rfl, rfl, rfl, rfl, rfl, rfl, rfl, rfl, rfl, trivial⟩ ?_ ?_
    ·exact ⟨by omega, hb44, hB45, ho46, hL41⟩
    ·omega
   ·have h32 : ¬ ((((i : Nat) : Int) : Int) < (((b.length : Nat) : Int) : Int)) := by simpa using h32
    refine WC.exit (WE.thenExit (WE.thenExit (WE.blockIs rfl (WE.next (WC.seq (WC.label (WE.next (WC.seq (WC.seq (WC.region (WL.mv rfl rfl rfl rfl rfl ?_)))))))))))
    refine WL.val (.int .i64 (((a.length : Nat) : Int))) rfl rfl rfl (fun za zC zh zk => len_28 rfl (zh.ev rfl) zk) ?_
    refine WL.mv rfl rfl rfl rfl rfl (WL.nil (WE.next (WC.block ?_)))
    have hib : i = b.length := by omega
    have hR47 : PRow (AtT w) w25 (fun b => w.heap.size ≤ b ∧ b ≠ g9) (some ⟨g10, 0, none⟩) b.length b := by
     have z := (ho31).prow
     rw [hib, List.take_of_length_le (Nat.le_refl _)] at z
     exact z.mono (fun q e _ => by subst e; exact ⟨by omega, fun e2 => hne14 e2.symm⟩)
    refine WC.loop (X := Nat × List T × Option Addr × Nat × List T) (fun x => a.length - x.1) (fun x => [(0, .slice xa a.length ca), (1, .slice xb b.length cb), (2, .func (.func 43) #[] #[.pointer (some ⟨go, 0, none⟩)]), (5, .pointer (some ⟨g2, 0, none⟩)), (6, .int .i64 0), (7, .slice ((some ⟨g9, 0, none⟩)) x.2.1.length a.length), (8, .slice x.2.2.1 x.2.2.2.2.length x.2.2.2.1), (20, .int .i64 (((b.length : Nat) : Int))), (21, .int .i64 (((i : Nat) : Int))), (22, .bool ((decide ((((i : Nat) : Int) : Int) < (((b.length : Nat) : Int) : Int))))), (32, .int .i64 (((a.length : Nat) : Int))), (33, .int .i64 (((x.1 : Nat) : Int)))]) (fun x w48 => x.1 ≤ a.length ∧ multiLR o.ok2 a b = (x.2.1 ++ (multiLR o.ok2 (a.drop x.1) x.2.2.2.2).1, (multiLR o.ok2 (a.drop x.1) x.2.2.2.2).2) ∧ x.2.1.length ≤ x.1 ∧ x.2.2.2.2.length ≤ x.2.2.2.1 ∧ x.2.2.2.2.length ≤ b.length ∧ (∀ y ∈ x.2.1, y ∈ a) ∧ (∀ y ∈ x.2.2.2.2, y ∈ b) ∧ Below w.heap.size w w48 ∧ Blk w48 g2 65 #[.func (.func 43) #[] #[.pointer (some ⟨go, 0, none⟩)]] ∧ LRow (AtT w) (w48) 84 g9 a.length (x.2.1).length x.2.1 ∧ PRow (AtT w) (w48) (fun b => w.heap.size ≤ b ∧ b ≠ g9) x.2.2.1 (x.2.2.2.2).length x.2.2.2.2) ((0, [], some ⟨g10, 0, none⟩, b.length, b)) ⟨rfl, rfl, rfl, rfl, rfl, rfl, rfl, rfl, rfl, rfl, rfl, rfl, trivial⟩ ?_ ?_
    ·exact ⟨Nat.zero_le _, by simp, Nat.le_refl _, Nat.le_refl _, Nat.le_refl _, (fun y hy => (nomatch hy)), fun y hy => hy, hb28, hB29, ho30, hR47⟩
    ·rintro x w48 ⟨hi, hM, hLl, hRc, hRb, hLm, hRm, hb49, hB50, ho51, ho52⟩
     refine WC.seq (WC.region ?_)
     refine WL.val (.bool ((decide ((((x.1 : Nat) : Int) : Int) < (((a.length : Nat) : Int) : Int))))) rfl rfl rfl (fun za zC zh zk => lss_3 rfl (zh.ev rfl) (zh.ev rfl) zk) ?_
     refine WL.nil (WE.next (WC.seq ?_))
     refine WC.cond rfl (fun h53 => ?_) (fun h53 => ?_)
     ·have h53 : (((x.1 : Nat) : Int) : Int) < (((a.length : Nat) : Int) : Int) := by simpa using h53
      refine WC.skip (WE.next (WC.seq (WC.block (WC.seq (WC.region (WL.mv rfl rfl rfl rfl rfl (WL.asg rfl rfl rfl rfl rfl (WL.nil (WE.next (WC.seq (WC.seq (WC.region (WL.mv rfl rfl rfl rfl rfl ?_)))))))))))))
      refine WL.val (.int .i64 (((x.2.2.2.2.length : Nat) : Int))) rfl rfl rfl (fun za zC zh zk => len_83 rfl (zh.ev rfl) zk) ?_
      refine WL.mv rfl rfl rfl rfl rfl (WL.nil (WE.next (WC.block ?_)))
      refine WC.loop (X := Nat) (fun j => x.2.2.2.2.length - j) (fun j => [(0, .slice xa a.length ca), (1, .slice xb b.length cb), (2, .func (.func 43) #[] #[.pointer (some ⟨go, 0, none⟩)]), (5, .pointer (some ⟨g2, 0, none⟩)), (6, .int .i64 0), (7, .slice ((some ⟨g9, 0, none⟩)) x.2.1.length a.length), (8, .slice x.2.2.1 x.2.2.2.2.length x.2.2.2.1), (10, .int .i64 (((x.1 : Nat) : Int))), (20, .int .i64 (((b.length : Nat) : Int))), (21, .int .i64 (((i : Nat) : Int))), (22, .bool ((decide ((((i : Nat) : Int) : Int) < (((b.length : Nat) : Int) : Int))))), (32, .int .i64 (((a.length : Nat) : Int))), (33, .int .i64 (((x.1 : Nat) : Int))), (34, .bool ((decide ((((x.1 : Nat) : Int) : Int) < (((a.length : Nat) : Int) : Int))))), (37, .int .i64 (((x.2.2.2.2.length : Nat) : Int))), (38, .int .i64 (((j : Nat) : Int)))]) (fun j w54 => j ≤ x.2.2.2.2.length ∧ (∀ q, q < j → ¬ o.ok2 (tget a x.1) (tget x.2.2.2.2 q) = 2) ∧ Below w.heap.size w w54 ∧ Blk w54 g2 65 #[.func (.func 43) #[] #[.pointer (some ⟨go, 0, none⟩)]] ∧ LRow (AtT w) (w54) 84 g9 a.length (x.2.1).length x.2.1 ∧ PRow (AtT w) (w54) (fun b => w.heap.size ≤ b ∧ b ≠ g9) x.2.2.1 (x.2.2.2.2).length x.2.2.2.2) 0 ⟨rfl, rfl, rfl, rfl, rfl, rfl, rfl, rfl, rfl, rfl, rfl, rfl, rfl, rfl, rfl, rfl, trivial⟩ ?_ ?_
      ·exact ⟨Nat.zero_le _, fun q h => absurd h (Nat.not_lt_zero q), hb49, hB50, ho51, ho52⟩
      ·rintro j w54 ⟨hj, hN, hb55, hB56, ho57, ho58⟩
       refine WC.seq (WC.region ?_)
       refine WL.val (.bool ((decide ((((j : Nat) : Int) : Int) < (((x.2.2.2.2.length : Nat) : Int) : Int))))) rfl rfl rfl (fun za zC zh zk => lss_3 rfl (zh.ev rfl) (zh.ev rfl) zk) ?_
       refine WL.nil (WE.next (WC.seq ?_))
       refine WC.cond rfl (fun h59 => ?_) (fun h59 => ?_)
       ·have h59 : (((j : Nat) : Int) : Int) < (((x.2.2.2.2.length : Nat) : Int) : Int) := by simpa using h59
        refine WC.skip (WE.next (WC.seq (WC.block (WC.seq (WC.region (WL.mv rfl rfl rfl rfl rfl (WL.asg rfl rfl rfl rfl rfl (WL.nil (WE.next (WC.seq ?_))))))))))
        obtain ⟨b60, o61, A62, C63, ha64, hc65⟩ := IsTs.open ha
        obtain ⟨b66, o67, Bf68, Pf69, A70, C71, ha72, hc73⟩ := PRow.openT ho58
        refine WC.opt [(true, .val (.func (.func 43) #[] #[.pointer (some ⟨go, 0, none⟩)])), (true, .val (.slice xa a.length ca)), (true, .val (.int .i64 (((x.1 : Nat) : Int)))), (true, .val (.pointer (some ⟨b60, o61 + x.1 * 2, none⟩))), (true, .val (.agg #[.int .i64 ((tget a x.1).f), .slice ((A62 x.1)) ((tget a x.1).args.length) ((C63 x.1))])), (true, .val (.slice x.2.2.1 x.2.2.2.2.length x.2.2.2.1)), (true, .val (.int .i64 (((j : Nat) : Int)))), (true, .val (.pointer (some ⟨b66, o67 + j, none⟩))), (true, .val (.pointer (some ⟨(Bf68 j), (Pf69 j), none⟩))), (true, .val (.pointer (some ⟨(Bf68 j), (Pf69 j), none⟩))), (true, .val (.agg #[.int .i64 ((tget x.2.2.2.2 j).f), .slice ((A70 j)) ((tget x.2.2.2.2 j).args.length) ((C71 j))])), (true, .val (.int .i64 ((o.ok2 (tget a x.1) (tget x.2.2.2.2 j))))), (true, .val (.bool ((((o.ok2 (tget a x.1) (tget x.2.2.2.2 j)) : Int) == (2 : Int)))))] [(0, .slice xa a.length ca), (1, .slice xb b.length cb), (2, .func (.func 43) #[] #[.pointer (some ⟨go, 0, none⟩)]), (5, .pointer (some ⟨g2, 0, none⟩)), (6, .int .i64 0), (7, .slice ((some ⟨g9, 0, none⟩)) x.2.1.length a.length), (8, .slice x.2.2.1 x.2.2.2.2.length x.2.2.2.1), (10, .int .i64 (((x.1 : Nat) : Int))), (11, .int .i64 (((j : Nat) : Int))), (20, .int .i64 (((b.length : Nat) : Int))), (21, .int .i64 (((i : Nat) : Int))), (22, .bool ((decide ((((i : Nat) : Int) : Int) < (((b.length : Nat) : Int) : Int))))), (32, .int .i64 (((a.length : Nat) : Int))), (33, .int .i64 (((x.1 : Nat) : Int))), (34, .bool ((decide ((((x.1 : Nat) : Int) : Int) < (((a.length : Nat) : Int) : Int))))), (37, .int .i64 (((x.2.2.2.2.length : Nat) : Int))), (38, .int .i64 (((j : Nat) : Int))), (39, .bool ((decide ((((j : Nat) : Int) : Int) < (((x.2.2.2.2.length : Nat) : Int) : Int)))))] ⟨rfl, rfl, rfl, rfl, rfl, rfl, rfl, rfl, rfl, rfl, rfl, rfl, rfl, rfl, rfl, rfl, rfl, rfl, trivial⟩ (by kernel_rfl) (by kernel_rfl) (by kernel_rfl) ?_ ?_
        ·refine ⟨⟨true, .none rfl, fun h w => optUndef h, fun zβ za zw zc => ?_⟩, ?_⟩
         ·exact ld_65 rfl (zc.kn.ev rfl) (bkeeps zc.below _ _ ((hB56.cell 0).trans rfl)) ⟨_, rfl, Below.refl _ _, optDef zβ rfl⟩
         refine ⟨⟨true, .none rfl, fun h w => optUndef h, fun zβ za zw zc => ?_⟩, ?_⟩
         ·exact wp_move rfl (zc.kn.ev rfl) ⟨_, rfl, Below.refl _ _, optDef zβ rfl⟩
         refine ⟨⟨true, .none rfl, fun h w => optUndef h, fun zβ za zw zc => ?_⟩, ?_⟩
         ·exact wp_move rfl (zc.kn.ev rfl) ⟨_, rfl, Below.refl _ _, optDef zβ rfl⟩
         refine ⟨⟨true, .none rfl, fun h w => optUndef h, fun zβ za zw zc => ?_⟩, ?_⟩
         ·exact ix_28 (k := x.1) rfl ((evt za 42).trans (optVal (zc.dep 1 42 (by kernel_rfl)) rfl rfl)) (ha64 x.1 (by first | omega | (simp; omega))) ((evt za 43).trans (optVal (zc.dep 2 43 (by kernel_rfl)) rfl rfl)) (by first | omega | (simp; omega)) ⟨_, rfl, Below.refl _ _, optDef zβ rfl⟩
         refine ⟨⟨true, .none rfl, fun h w => optUndef h, fun zβ za zw zc => ?_⟩, ?_⟩
         ·exact ld_30 rfl ((evt za 44).trans (optVal (zc.dep 3 44 (by kernel_rfl)) rfl rfl)) (bkeeps (bstep hb55 zc.below) _ _ (hc65 x.1 (by first | omega | (simp; omega))).1) (bkeeps (bstep hb55 zc.below) _ _ (hc65 x.1 (by first | omega | (simp; omega))).2.1) ⟨_, rfl, Below.refl _ _, optDef zβ rfl⟩
         refine ⟨⟨true, .none rfl, fun h w => optUndef h, fun zβ za zw zc => ?_⟩, ?_⟩
         ·exact wp_move rfl (zc.kn.ev rfl) ⟨_, rfl, Below.refl _ _, optDef zβ rfl⟩
         refine ⟨⟨true, .none rfl, fun h w => optUndef h, fun zβ za zw zc => ?_⟩, ?_⟩
         ·exact wp_move rfl (zc.kn.ev rfl) ⟨_, rfl, Below.refl _ _, optDef zβ rfl⟩
         refine ⟨⟨true, .none rfl, fun h w => optUndef h, fun zβ za zw zc => ?_⟩, ?_⟩
         ·exact ix_83 (k := j) rfl ((evt za 46).trans (optVal (zc.dep 5 46 (by kernel_rfl)) rfl rfl)) (ha72 j (by first | omega | (simp; omega))) ((evt za 47).trans (optVal (zc.dep 6 47 (by kernel_rfl)) rfl rfl)) (by first | omega | (simp; omega)) ⟨_, rfl, Below.refl _ _, optDef zβ rfl⟩
         refine ⟨⟨true, .none rfl, fun h w => optUndef h, fun zβ za zw zc => ?_⟩, ?_⟩
         ·exact ld_84 rfl ((evt za 48).trans (optVal (zc.dep 7 48 (by kernel_rfl)) rfl rfl)) (bkeeps zc.below _ _ (hc73 j (by first | omega | (simp; omega))).1) ⟨_, rfl, Below.refl _ _, optDef zβ rfl⟩
         refine ⟨⟨true, .none rfl, fun h w => optUndef h, fun zβ za zw zc => ?_⟩, ?_⟩
         ·exact nilCheck_ rfl ((evt za 49).trans (optVal (zc.dep 8 49 (by kernel_rfl)) rfl rfl)) ⟨_, rfl, Below.refl _ _, optDef zβ rfl⟩
         refine ⟨⟨true, .none rfl, fun h w => optUndef h, fun zβ za zw zc => ?_⟩, ?_⟩
         ·exact ld_30 rfl ((evt za 50).trans (optVal (zc.dep 9 50 (by kernel_rfl)) rfl rfl)) (bkeeps zc.below _ _ (bkeeps hb55 _ _ (hc73 j (by first | omega | (simp; omega))).2.1)) (bkeeps zc.below _ _ (bkeeps hb55 _ _ (hc73 j (by first | omega | (simp; omega))).2.2.1)) ⟨_, rfl, Below.refl _ _, optDef zβ rfl⟩
         refine ⟨⟨true, .none rfl, fun h w => optUndef h, fun zβ za zw zc => ?_⟩, ?_⟩
         ·exact wp_callv (by kernel_rfl) rfl ((evt za 41).trans (optVal (zc.dep 0 41 (by kernel_rfl)) rfl rfl)) (hv2 ((evt za 45).trans (optVal (zc.dep 4 45 (by kernel_rfl)) rfl rfl)) ((evt za 51).trans (optVal (zc.dep 10 51 (by kernel_rfl)) rfl rfl))) (oknows1_any o (tget a x.1) (tget x.2.2.2.2 j) _ go _ _ p1 p2 k1 k2 (hza _ (tget_mem (by omega))) (hzb _ (hRm _ (tget_mem (by omega)))) (hB.below (bstep hb55 zc.below)) (ho.below (bstep hb55 zc.below)) (IsT.below (bstep hb55 zc.below) (hc65 x.1 (by first | omega | (simp; omega))).2.2) (IsT.below zc.below (IsT.below hb55 (hc73 j (by first | omega | (simp; omega))).2.2.2))) (fun v w' h => ⟨v, rfl, h.2, optDef zβ h.1⟩)
         refine ⟨⟨true, .none rfl, fun h w => optUndef h, fun zβ za zw zc => ?_⟩, ?_⟩
         ·exact eql_48 rfl ((evt za 52).trans (optVal (zc.dep 11 52 (by kernel_rfl)) rfl rfl)) (zc.kn.ev rfl) ⟨_, rfl, Below.refl _ _, optDef zβ rfl⟩
         exact trivial
        ·intro za w75 zh hb76 zu
         have zh := zh.cons (d := 53) (v := .bool ((((o.ok2 (tget a x.1) (tget x.2.2.2.2 j)) : Int) == (2 : Int)))) (optVal (zu 12 53 (by kernel_rfl)) rfl rfl)
         clear zu
         refine WE.go zh ?_
         refine WE.next ?_
         refine WC.cond rfl (fun h77 => ?_) (fun h77 => ?_)
         ·have h77 : ((o.ok2 (tget a x.1) (tget x.2.2.2.2 j)) : Int) = (2 : Int) := by simpa using h77
          refine WC.seq ?_
          have ho78 := ho58.below hb76
          have ho79 := ho57.below hb76
          have hwz : w.heap.size ≤ w75.heap.size := (Nat.le_trans hb55.size hb76.size)
          have hg1z : g9 < w75.heap.size := ho79.lt
          refine WC.tail3 (S := ((fun b => b < 0))) [(true, .val (.slice x.2.2.1 x.2.2.2.2.length x.2.2.2.1)), (true, .val (.int .i64 (((j : Nat) : Int)))), (true, .val (.int .i64 (((j : Nat) : Int)))), (true, .val (.slice x.2.2.1 j j)), (true, .val (.slice x.2.2.1 x.2.2.2.2.length x.2.2.2.1)), (true, .val (.int .i64 (((j : Nat) : Int)))), (true, .val (.int .i64 ((((j + 1) : Nat) : Int)))), (true, .val (.slice ((slA x.2.2.1 ((j + 1)) 1 x.2.2.2.1)) ((x.2.2.2.2.length - (j + 1))) ((x.2.2.2.1 - (j + 1))))), (true, .val undef), (true, .val undef)] [(0, .slice xa a.length ca), (1, .slice xb b.length cb), (2, .func (.func 43) #[] #[.pointer (some ⟨go, 0, none⟩)]), (5, .pointer (some ⟨g2, 0, none⟩)), (6, .int .i64 0), (7, .slice ((some ⟨g9, 0, none⟩)) x.2.1.length a.length), (10, .int .i64 (((x.1 : Nat) : Int))), (11, .int .i64 (((j : Nat) : Int))), (20, .int .i64 (((b.length : Nat) : Int))), (21, .int .i64 (((i : Nat) : Int))), (22, .bool ((decide ((((i : Nat) : Int) : Int) < (((b.length : Nat) : Int) : Int))))), (32, .int .i64 (((a.length : Nat) : Int))), (33, .int .i64 (((x.1 : Nat) : Int))), (34, .bool ((decide ((((x.1 : Nat) : Int) : Int) < (((a.length : Nat) : Int) : Int))))), (37, .int .i64 (((x.2.2.2.2.length : Nat) : Int))), (38, .int .i64 (((j : Nat) : Int))), (39, .bool ((decide ((((j : Nat) : Int) : Int) < (((x.2.2.2.2.length : Nat) : Int) : Int))))), (53, .bool ((((o.ok2 (tget a x.1) (tget x.2.2.2.2 j)) : Int) == (2 : Int))))] 8 9 ((x.2.2.2.2.length - 1)) 62 8 (fun ra rc wz => PRow (AtT w) wz (fun b => w.heap.size ≤ b ∧ b ≠ g9) ra (x.2.2.2.2.length - 1) (x.2.2.2.2.eraseIdx j) ∧ x.2.2.2.2.length - 1 ≤ rc) (by decide) (fun ra rc w w' hb h => ⟨h.1.below hb, h.2⟩) ⟨rfl, rfl, rfl, rfl, rfl, rfl, rfl, rfl, rfl, rfl, rfl, rfl, rfl, rfl, rfl, rfl, rfl, rfl, trivial⟩ (by kernel_rfl) (by kernel_rfl) (by kernel_rfl) (by kernel_rfl) (by kernel_rfl) (by kernel_rfl) ?_ ?_
          ·refine ⟨.inl ⟨rfl, true, .none rfl, (fun gg b h => by cases h), fun h w => optUndef h, fun zβ za zw zc => ?_⟩, ?_⟩
           ·exact wp_move rfl ((evt za 8).trans (zc.old 8 _ rfl (by kernel_rfl))) ⟨_, rfl, Below.refl _ _, optDef zβ rfl⟩
           refine ⟨.inl ⟨rfl, true, .none rfl, (fun gg b h => by cases h), fun h w => optUndef h, fun zβ za zw zc => ?_⟩, ?_⟩
           ·exact wp_move rfl (zc.kn.ev rfl) ⟨_, rfl, Below.refl _ _, optDef zβ rfl⟩
           refine ⟨.inl ⟨rfl, true, .none rfl, (fun gg b h => by cases h), fun h w => optUndef h, fun zβ za zw zc => ?_⟩, ?_⟩
           ·exact wp_move rfl (zc.kn.ev rfl) ⟨_, rfl, Below.refl _ _, optDef zβ rfl⟩
           refine ⟨.inl ⟨rfl, true, .none rfl, (fun gg b h => by cases h), fun h w => optUndef h, fun zβ za zw zc => ?_⟩, ?_⟩
           ·exact shm_83 (k := j) (m := j) rfl ((evt za 54).trans (optSVal (zc.dep 0 54 (by kernel_rfl) (by decide)) rfl rfl)) ((evt za 55).trans (optSVal (zc.dep 1 55 (by kernel_rfl) (by decide)) rfl rfl)) ((evt za 56).trans (optSVal (zc.dep 2 56 (by kernel_rfl) (by decide)) rfl rfl)) (by omega) (by omega) ⟨_, rfl, Below.refl _ _, optDef zβ rfl⟩
           refine ⟨.inl ⟨rfl, true, .none rfl, (fun gg b h => by cases h), fun h w => optUndef h, fun zβ za zw zc => ?_⟩, ?_⟩
           ·exact wp_move rfl ((evt za 8).trans (zc.old 8 _ rfl (by kernel_rfl))) ⟨_, rfl, Below.refl _ _, optDef zβ rfl⟩
           refine ⟨.inl ⟨rfl, true, .none rfl, (fun gg b h => by cases h), fun h w => optUndef h, fun zβ za zw zc => ?_⟩, ?_⟩
           ·exact wp_move rfl (zc.kn.ev rfl) ⟨_, rfl, Below.refl _ _, optDef zβ rfl⟩
           refine ⟨.inl ⟨rfl, true, .none rfl, (fun gg b h => by cases h), fun h w => optUndef h, fun zβ za zw zc => ?_⟩, ?_⟩
           ·exact addb_3 rfl ((evt za 59).trans (optSVal (zc.dep 5 59 (by kernel_rfl) (by decide)) rfl rfl)) (zc.kn.ev rfl) (wrap_eq (by omega) (by omega) (by omega)) ⟨_, rfl, Below.refl _ _, optDef zβ rfl⟩
           refine ⟨.inl ⟨rfl, true, .none rfl, (fun gg b h => by cases h), fun h w => optUndef h, fun zβ za zw zc => ?_⟩, ?_⟩
           ·exact slo_83 (k := (j + 1)) rfl ((evt za 58).trans (optSVal (zc.dep 4 58 (by kernel_rfl) (by decide)) rfl rfl)) ((evt za 60).trans (optSVal (zc.dep 6 60 (by kernel_rfl) (by decide)) rfl rfl)) (by omega) (by omega) ⟨_, rfl, Below.refl _ _, optDef zβ rfl⟩
           refine ⟨.inr (.inl ⟨rfl, rfl, fun za zw zc => ?_⟩), ?_⟩
           ·exact wp_appCut (z := .pointer none) (bytes := 8) (S := (fun b => w.heap.size ≤ b ∧ b ≠ g9)) Try.underlying83 (by kernel_rfl) (by decide) rfl ((evt za 57).trans (optSVal (zc.dep 3 57 (by kernel_rfl) (by decide)) rfl rfl)) ((evt za 61).trans (optSVal (zc.dep 7 61 (by kernel_rfl) (by decide)) rfl rfl)) (ho78.below zc.below) (by omega) (by omega) (by omega) (by omega) (by have z := zc.below.size; exact ⟨by omega, by omega⟩) (fun r c2 w2 h1 h2 h3 => ⟨r, c2, rfl, ⟨h1, h2⟩, .ofBelow h3⟩)
           refine ⟨.inr (.inr ⟨rfl, rfl, 62, by kernel_rfl, rfl⟩), ?_⟩
           exact trivial
          ·intro za w80 ra83 rc84 zh zv zv2 hG81 hc82 zu
           have zh := zh.cons (d := 8) zv2
           have hb85 := Chg.toBelow hc82
           have hR86 : PRow (AtT w) w80 (fun b => w.heap.size ≤ b ∧ b ≠ g9) ra83 ((x.2.2.2.2.eraseIdx j)).length (x.2.2.2.2.eraseIdx j) := by have z := hG81.1; rwa [show ((x.2.2.2.2.eraseIdx j)).length = x.2.2.2.2.length - 1 from by rw [List.length_eraseIdx, if_pos (by omega)]]
           clear zu
           refine WE.go zh ?_
           refine WE.next (WC.exit (WE.blockNot rfl (WE.thenExit (WE.thenExit (WE.blockNot rfl (WE.thenExit (WE.blockIs rfl (WE.next (WC.region ?_)))))))))
           refine WL.val (.int .i64 ((((x.1 + 1) : Nat) : Int))) rfl rfl rfl (fun za zC zh zk => addb_3 rfl (zh.ev rfl) (zh.ev rfl) (wrap_eq (by omega) (by omega) (by omega)) zk) ?_
           refine WL.mv rfl rfl rfl rfl rfl (WL.nil ?_)
           rw [show x.2.2.2.2.length - 1 = (x.2.2.2.2.eraseIdx j).length from by rw [List.length_eraseIdx, if_pos (by omega)]]
           refine WE.round ((x.1 + 1, x.2.1, ra83, rc84, (x.2.2.2.2.eraseIdx j))) ⟨rfl, rfl, rfl, rfl, rfl, rfl, rfl, rfl, rfl, rfl, rfl, rfl, trivial⟩ ?_ ?_
           ·have hb87 : Below w.heap.size w w80 := (bstep (bstep hb55 hb76) hb85)
            have hb89 : Below w54.heap.size w54 w80 := (bstep hb76 hb85)
            have hB88 := hB56.below hb89
            have ho90 := ho79.below hb85
            exact ⟨by (try dsimp only at *); omega, by
              have z := multiLR_strike (c := o.ok2) (d := (.mk 0 [])) (R := x.2.2.2.2) (show x.1 < a.length by omega) (show j < x.2.2.2.2.length by omega) (by have z9 := h77; simpa [tget] using z9) (fun q hq => by have z9 := hN q hq; simpa [tget] using z9)
              rw [hM, z], by (try dsimp only at *); omega, by (try dsimp only); rw [List.length_eraseIdx, if_pos (by omega)]; exact hG81.2, by (try dsimp only); rw [List.length_eraseIdx, if_pos (by omega)]; omega, hLm, fun y hy => hRm y (List.mem_of_mem_eraseIdx hy), hb87, hB88, ho90, hR86⟩
           ·(try dsimp only at *); omega
         ·have h77 : ¬ (((o.ok2 (tget a x.1) (tget x.2.2.2.2 j)) : Int) = (2 : Int)) := by simpa using h77
          refine WC.skip (WE.blockNormal (WE.next (WC.region ?_)))
          refine WL.val (.int .i64 ((((j + 1) : Nat) : Int))) rfl rfl rfl (fun za zC zh zk => addb_3 rfl (zh.ev rfl) (zh.ev rfl) (wrap_eq (by omega) (by omega) (by omega)) zk) ?_
          refine WL.mv rfl rfl rfl rfl rfl (WL.nil ?_)
          refine WE.round (j + 1) ⟨rfl, rfl, rfl, rfl, rfl, rfl, rfl, rfl, rfl, rfl, rfl, rfl, rfl, rfl, rfl, rfl, trivial⟩ ?_ ?_
          ·have hb91 : Below w.heap.size w w75 := (bstep hb55 hb76)
           have hB92 := hB56.below hb76
           have ho93 := ho57.below hb76
           have ho94 := ho58.below hb76
           exact ⟨by omega, fun q hq => by
             by_cases e : q = j
             ·rw [e]; simpa using h77
             ·exact hN q (by omega), hb91, hB92, ho93, ho94⟩
          ·omega
       ·have h59 : ¬ ((((j : Nat) : Int) : Int) < (((x.2.2.2.2.length : Nat) : Int) : Int)) := by simpa using h59
        refine WC.exit (WE.thenExit (WE.thenExit (WE.blockIs rfl (WE.next (WC.region (WL.mv rfl rfl rfl rfl rfl (WL.mv rfl rfl rfl rfl rfl (WL.mv rfl rfl rfl rfl rfl ?_))))))))
        obtain ⟨b95, o96, A97, C98, ha99, hc100⟩ := IsTs.open ha
        refine WL.val _ rfl rfl rfl (fun za zC zh zk => ix_28 (k := x.1) rfl (zh.ev rfl) (ha99 x.1 (by first | omega | (simp; omega))) (zh.ev rfl) (by first | omega | (simp; omega)) zk) ?_
        refine WL.step (post := NewRow w54 84 #[.pointer (some ⟨b95, o96 + x.1 * 2, none⟩)] 1) rfl rfl rfl (fun za zC zh zk => row_83_1 rfl (zh.ev rfl) (zk _ _ (newRow _ _ _ _))) ?_
        rintro _ w101 ⟨g102, rfl, hg103, hB104, hb105, hz106⟩
        have hl107 : g2 < g102 := by have z1 := hB56.lt; omega
        have hl108 : g9 < g102 := by have z1 := ho57.lt; omega
        have hl109 : w.heap.size ≤ g102 := by have z2 := (hb55).size; omega
        have hl110 : w54.heap.size ≤ g102 := by omega
        have ho111 := ho57.below hb105
        refine WL.step (post := fun v w' => v = .slice (some ⟨g9, 0, none⟩) (x.2.1.length + 1) a.length ∧ Upd g9 w101 w' ∧ LRow (AtT w) w' 84 g9 a.length (x.2.1.length + 1) (x.2.1 ++ [(tget a x.1)])) rfl rfl rfl (fun za zC zh zk => wp_appL (z := .pointer none) (bytes := 8) Try.underlying83 (by kernel_rfl) rfl (zh.ev rfl) (zh.ev rfl) ho111 (by omega) hB104 (show AtT w _ _ _ from ⟨_, _, hc100 x.1 (by omega)⟩) (fun w2 h1 h2 => zk _ _ ⟨rfl, h2, h1⟩)) ?_
        rintro _ w112 ⟨rfl, hu113, hL114⟩
        have ho115 := ho58.below hb105
        have hb116 : Below w.heap.size w w101 := (bstep hb55 hb105)
        have hb117 := upd_below hb116 hu113 (by omega)
        have hB118 := hB56.below hb105
        have hB119 := upd_blk hB118 hu113 (by omega)
        have hR120 := ho115.upd hu113 (fun b hb => hb.2)
        have hL121 : LRow (AtT w) w112 84 g9 a.length ((x.2.1 ++ [(tget a x.1)])).length (x.2.1 ++ [(tget a x.1)]) := by rw [List.length_append]; exact hL114
        refine WL.asg rfl rfl rfl rfl rfl (WL.nil (WE.blockNormal (WE.next (WC.region ?_))))
        refine WL.val (.int .i64 ((((x.1 + 1) : Nat) : Int))) rfl rfl rfl (fun za zC zh zk => addb_3 rfl (zh.ev rfl) (zh.ev rfl) (wrap_eq (by omega) (by omega) (by omega)) zk) ?_
        refine WL.mv rfl rfl rfl rfl rfl (WL.nil ?_)
        rw [show x.2.1.length + 1 = (x.2.1 ++ [(tget a x.1)]).length from by simp]
        refine WE.round ((x.1 + 1, x.2.1 ++ [(tget a x.1)], x.2.2.1, x.2.2.2.1, x.2.2.2.2)) ⟨rfl, rfl, rfl, rfl, rfl, rfl, rfl, rfl, rfl, rfl, rfl, rfl, trivial⟩ ?_ ?_
        ·exact ⟨by (try dsimp only at *); omega, by
           have z := multiLR_keep (c := o.ok2) (d := (.mk 0 [])) (R := x.2.2.2.2) (show x.1 < a.length by omega) (fun q hq => by have z9 := hN q (by omega); simpa [tget] using z9)
           rw [hM, z]; simp [List.append_assoc, tget], by (try dsimp only); simp; omega, hRc, hRb, fun y hy => (List.mem_append.1 hy).elim (hLm y) (fun e => by rw [List.mem_singleton.1 e]; exact tget_mem (by omega)), hRm, hb117, hB119, hL121, hR120⟩
        ·(try dsimp only at *); omega
     ·have h53 : ¬ ((((x.1 : Nat) : Int) : Int) < (((a.length : Nat) : Int) : Int)) := by simpa using h53
      refine WC.exit (WE.thenExit (WE.thenExit (WE.blockIs rfl (WE.next (WC.seq (WC.seq ?_))))))
      refine WC.opt [(true, .val (.slice ((some ⟨g9, 0, none⟩)) x.2.1.length a.length)), (true, .val (.int .i64 (((x.2.1.length : Nat) : Int)))), (true, .val (.bool (((((x.2.1.length : Nat) : Int) : Int) == (0 : Int))))), (true, .val (.bool (((((x.2.1.length : Nat) : Int) : Int) == (0 : Int))))), ((true && ((((x.2.1.length : Nat) : Int) : Int) == (0 : Int))), .val (.slice x.2.2.1 x.2.2.2.2.length x.2.2.2.1)), ((true && ((((x.2.1.length : Nat) : Int) : Int) == (0 : Int))), .val (.int .i64 (((x.2.2.2.2.length : Nat) : Int)))), ((true && ((((x.2.1.length : Nat) : Int) : Int) == (0 : Int))), .val (.bool (((((x.2.2.2.2.length : Nat) : Int) : Int) == (0 : Int))))), (true, .val (.bool ((((((x.2.1.length : Nat) : Int) : Int) == (0 : Int)) && ((((x.2.2.2.2.length : Nat) : Int) : Int) == (0 : Int))))))] [(0, .slice xa a.length ca), (1, .slice xb b.length cb), (2, .func (.func 43) #[] #[.pointer (some ⟨go, 0, none⟩)]), (5, .pointer (some ⟨g2, 0, none⟩)), (6, .int .i64 0), (7, .slice ((some ⟨g9, 0, none⟩)) x.2.1.length a.length), (8, .slice x.2.2.1 x.2.2.2.2.length x.2.2.2.1), (20, .int .i64 (((b.length : Nat) : Int))), (21, .int .i64 (((i : Nat) : Int))), (22, .bool ((decide ((((i : Nat) : Int) : Int) < (((b.length : Nat) : Int) : Int))))), (32, .int .i64 (((a.length : Nat) : Int))), (33, .int .i64 (((x.1 : Nat) : Int))), (34, .bool ((decide ((((x.1 : Nat) : Int) : Int) < (((a.length : Nat) : Int) : Int)))))] ⟨rfl, rfl, rfl, rfl, rfl, rfl, rfl, rfl, rfl, rfl, rfl, rfl, rfl, trivial⟩ (by kernel_rfl) (by kernel_rfl) (by kernel_rfl) ?_ ?_
      ·refine ⟨⟨true, .none rfl, fun h w => optUndef h, fun zβ za zw zc => ?_⟩, ?_⟩
       ·exact wp_move rfl (zc.kn.ev rfl) ⟨_, rfl, Below.refl _ _, optDef zβ rfl⟩
       refine ⟨⟨true, .none rfl, fun h w => optUndef h, fun zβ za zw zc => ?_⟩, ?_⟩
       ·exact len_83 rfl ((evt za 71).trans (optVal (zc.dep 0 71 (by kernel_rfl)) rfl rfl)) ⟨_, rfl, Below.refl _ _, optDef zβ rfl⟩
       refine ⟨⟨true, .none rfl, fun h w => optUndef h, fun zβ za zw zc => ?_⟩, ?_⟩
       ·exact eql_3 rfl ((evt za 72).trans (optVal (zc.dep 1 72 (by kernel_rfl)) rfl rfl)) (zc.kn.ev rfl) ⟨_, rfl, Below.refl _ _, optDef zβ rfl⟩
       refine ⟨⟨true, .none rfl, fun h w => optUndef h, fun zβ za zw zc => ?_⟩, ?_⟩
       ·exact wp_move rfl ((evt za 73).trans (optVal (zc.dep 2 73 (by kernel_rfl)) rfl rfl)) ⟨_, rfl, Below.refl _ _, optDef zβ rfl⟩
       refine ⟨⟨_, .yes (c := ((((x.2.1.length : Nat) : Int) : Int) == (0 : Int))) (d := true) rfl (fun v w h => h), fun h w => optUndef h, fun zβ za zw zc => ?_⟩, ?_⟩
       ·exact wp_move rfl (zc.kn.ev rfl) ⟨_, rfl, Below.refl _ _, optDef zβ rfl⟩
       refine ⟨⟨_, .yes (c := ((((x.2.1.length : Nat) : Int) : Int) == (0 : Int))) (d := true) rfl (fun v w h => h), fun h w => optUndef h, fun zβ za zw zc => ?_⟩, ?_⟩
       ·exact len_83 rfl ((evt za 75).trans (optVal (zc.dep 4 75 (by kernel_rfl)) rfl zβ)) ⟨_, rfl, Below.refl _ _, optDef zβ rfl⟩
       refine ⟨⟨_, .yes (c := ((((x.2.1.length : Nat) : Int) : Int) == (0 : Int))) (d := true) rfl (fun v w h => h), fun h w => optUndef h, fun zβ za zw zc => ?_⟩, ?_⟩
       ·exact eql_3 rfl ((evt za 76).trans (optVal (zc.dep 5 76 (by kernel_rfl)) rfl zβ)) (zc.kn.ev rfl) ⟨_, rfl, Below.refl _ _, optDef zβ rfl⟩
       refine ⟨⟨true, .none rfl, fun h w => optUndef h, fun zβ za zw zc => ?_⟩, ?_⟩
       ·exact wp_and rfl ((evt za 74).trans (optVal (zc.dep 3 74 (by kernel_rfl)) rfl rfl)) (fun hp => ((evt za 77).trans (optVal (zc.dep 6 77 (by kernel_rfl)) rfl (bMk zβ hp)))) ⟨_, rfl, Below.refl _ _, optDef zβ rfl⟩
       exact trivial
      ·intro za w122 zh hb123 zu
       have zh := zh.cons (d := 78) (v := .bool ((((((x.2.1.length : Nat) : Int) : Int) == (0 : Int)) && ((((x.2.2.2.2.length : Nat) : Int) : Int) == (0 : Int))))) (optVal (zu 7 78 (by kernel_rfl)) rfl rfl)
       clear zu
       refine WE.go zh ?_
       refine WE.next ?_
       refine WC.cond rfl (fun h124 => ?_) (fun h124 => ?_)
       ·have h124 : ((((x.2.1.length : Nat) : Int) : Int) = (0 : Int)) ∧ ((((x.2.2.2.2.length : Nat) : Int) : Int) = (0 : Int)) := by simpa using h124
        refine WC.seq (WC.region (WL.asg rfl rfl rfl rfl rfl (WL.nil (WE.next (WC.ret (WE.thenRet (WE.scopeRet (WE.ret1 rfl rfl ?_))))))))
        have hd : a.drop x.1 = [] := List.drop_eq_nil_of_le (by omega)
        rw [hd] at hM
        simp only [multiLR, List.append_nil] at hM
        have e0 : (x.2.1.isEmpty && x.2.2.2.2.isEmpty) = true := by
         have z := h124
         simpa using z
        have hb125 : Below w.heap.size w w122 := (bstep hb49 hb123)
        exact ⟨_, rfl, congrArg (Value.int .i64) (by rw [multiP_eq hM, e0]; simp []), hb125⟩
       ·have h124 : ¬ (((((x.2.1.length : Nat) : Int) : Int) = (0 : Int)) ∧ ((((x.2.2.2.2.length : Nat) : Int) : Int) = (0 : Int))) := by simpa using h124
        refine WC.skip (WE.next (WC.seq (WC.region ?_)))
        refine WL.val (.func (Fn.func 46) #[] #[.pointer (some ⟨g2, 0, none⟩)]) rfl rfl rfl (fun za zC zh zk => mkfn rfl (hv0) (hv1 (zh.ev rfl)) zk) ?_
        refine WL.asg rfl rfl rfl rfl rfl (WL.nil (WE.next (WC.seq (WC.block (WC.seq (WC.region (WL.mv rfl rfl rfl rfl rfl (WL.mv rfl rfl rfl rfl rfl (WL.mv rfl rfl rfl rfl rfl ?_)))))))))
        have hB126 := hB50.below hb123
        have ho127 := ho51.below hb123
        have ho128 := ho52.below hb123
        have hb129 : Below w.heap.size w w122 := (bstep hb49 hb123)
        refine WL.call rfl rfl rfl (fun za zh zC => wp_callv (by kernel_rfl) rfl (zh.ev rfl) (hv2 (zh.ev rfl) (zh.ev rfl))) (allT_any o go p1 p2 k1 k2 x.2.1 x.2.2.2.2 w _ g2 _ _ _ _ _ _ ho127.prow ho128 (fun y hy => hza y (hLm y hy)) (fun y hy => hzb y (hRm y hy)) (by omega) (by omega) hb129 hB ho hB126) ?_
        rintro _ w131 ⟨rfl, hq130⟩
        refine WL.asg rfl rfl rfl rfl rfl (WL.nil (WE.next ?_))
        refine WC.cond rfl (fun h132 => ?_) (fun h132 => ?_)
        ·skip
         refine WC.seq (WC.region (WL.asg rfl rfl rfl rfl rfl (WL.nil (WE.next (WC.ret (WE.blockRet (WE.thenRet (WE.scopeRet (WE.ret1 rfl rfl ?_)))))))))
         have hd : a.drop x.1 = [] := List.drop_eq_nil_of_le (by omega)
         rw [hd] at hM
         simp only [multiLR, List.append_nil] at hM
         have e0 : (x.2.1.isEmpty && x.2.2.2.2.isEmpty) = false := by
          have z := h124
          rw [Bool.eq_false_iff]; intro e; apply z; simpa using e
         have hb133 : Below w.heap.size w w131 := (bstep hb129 hq130)
         exact ⟨_, rfl, congrArg (Value.int .i64) (by rw [multiP_eq hM, e0]; simp [h132]), hb133⟩
        ·skip
         refine WC.seq (WC.region (WL.mv rfl rfl rfl rfl rfl (WL.mv rfl rfl rfl rfl rfl (WL.mv rfl rfl rfl rfl rfl ?_))))
         have hB134 := hB126.below hq130
         have ho135 := ho127.below hq130
         have ho136 := ho128.below hq130
         have hb137 : Below w.heap.size w w131 := (bstep hb129 hq130)
         refine WL.call rfl rfl rfl (fun za zh zC => wp_callv (by kernel_rfl) rfl (zh.ev rfl) (hv2 (zh.ev rfl) (zh.ev rfl))) (allT_any o go p1 p2 k1 k2 x.2.2.2.2 x.2.1 w _ g2 _ _ _ _ _ _ ho136 ho135.prow (fun y hy => hzb y (hRm y hy)) (fun y hy => hza y (hLm y hy)) (by omega) (by omega) hb137 hB ho hB134) ?_
         rintro _ w139 ⟨rfl, hq138⟩
         refine WL.asg rfl rfl rfl rfl rfl (WL.nil (WE.next ?_))
         refine WC.cond rfl (fun h140 => ?_) (fun h140 => ?_)
         ·skip
          refine WC.seq (WC.region (WL.asg rfl rfl rfl rfl rfl (WL.nil (WE.next (WC.ret (WE.blockRet (WE.thenRet (WE.scopeRet (WE.ret1 rfl rfl ?_)))))))))
          have hd : a.drop x.1 = [] := List.drop_eq_nil_of_le (by omega)
          rw [hd] at hM
          simp only [multiLR, List.append_nil] at hM
          have e0 : (x.2.1.isEmpty && x.2.2.2.2.isEmpty) = false := by
           have z := h124
           rw [Bool.eq_false_iff]; intro e; apply z; simpa using e
          have hb141 : Below w.heap.size w w139 := (bstep hb137 hq138)
          exact ⟨_, rfl, congrArg (Value.int .i64) (by rw [multiP_eq hM, e0]; simp [h132, h140]), hb141⟩
         ·skip
          refine WC.skip (WE.blockNormal (WE.next (WC.seq (WC.region (WL.asg rfl rfl rfl rfl rfl (WL.nil (WE.next (WC.ret (WE.scopeRet (WE.ret1 rfl rfl ?_))))))))))
          have hd : a.drop x.1 = [] := List.drop_eq_nil_of_le (by omega)
          rw [hd] at hM
          simp only [multiLR, List.append_nil] at hM
          have e0 : (x.2.1.isEmpty && x.2.2.2.2.isEmpty) = false := by
           have z := h124
           rw [Bool.eq_false_iff]; intro e; apply z; simpa using e
          have hb142 : Below w.heap.size w w139 := (bstep hb137 hq138)
          exact ⟨_, rfl, congrArg (Value.int .i64) (by rw [multiP_eq hM, e0]; simp [h132, h140]), hb142⟩
end Go.Proofs.Ytmdpiafeiopimaa

/- Terms that lie within blocks of 'S'; rows of terms that are made. -/
namespace Go.Proofs.Ytmdpiafeiopimaa
open Go.RowKit Go
set_option linter.unusedVariables false
set_option linter.unusedSimpArgs false
mutual
/-- The value 'v' is the term 't', and all its rows lie in blocks of 'S'. -/
def InT (S : Nat → Prop) (w : World) : T → Value → Prop
  | .mk f l, v => I64 f ∧ ∃ (a : Option Addr) (c : Nat), v = .agg #[.int .i64 f, .slice a l.length c] ∧ l.length ≤ c ∧ c ≤ maxLen ∧ InTs S w l a 0
def InTs (S : Nat → Prop) (w : World) : List T → Option Addr → Nat → Prop
  | [], _, _ => True
  | t :: r, a, i => (∃ (b o : Nat) (u v : Value), a = some ⟨b, o, none⟩ ∧ S b ∧ w.cell? ⟨b, o + i * 2, none⟩ = some u ∧ w.cell? ⟨b, o + i * 2 + 1, none⟩ = some v ∧ InT S w t (.agg #[u, v])) ∧ InTs S w r a (i + 1)
end
mutual
theorem InT.keep {S : Nat → Prop} {w w' : World} (hb : ∀ (p : Addr) (x : Value), S p.block → w.cell? p = some x → w'.cell? p = some x) : ∀ {t : T} {v : Value}, InT S w t v → InT S w' t v
  | .mk _ _, _, ⟨h0, a, c, h1, h2, h3, h4⟩ => ⟨h0, a, c, h1, h2, h3, InTs.keep hb h4⟩
theorem InTs.keep {S : Nat → Prop} {w w' : World} (hb : ∀ (p : Addr) (x : Value), S p.block → w.cell? p = some x → w'.cell? p = some x) : ∀ {l : List T} {a : Option Addr} {i : Nat}, InTs S w l a i → InTs S w' l a i
  | [], _, _, _ => trivial
  | _ :: _, _, _, ⟨⟨b, o, u, v, ha, hs, h1, h2, h3⟩, h4⟩ => ⟨⟨b, o, u, v, ha, hs, hb ⟨b, _, none⟩ _ hs h1, hb ⟨b, _, none⟩ _ hs h2, InT.keep hb h3⟩, InTs.keep hb h4⟩
end
mutual
theorem InT.mono {S S' : Nat → Prop} {w : World} (hb : ∀ b, S b → b < w.heap.size → S' b) : ∀ {t : T} {v : Value}, InT S w t v → InT S' w t v
  | .mk _ _, _, ⟨h0, a, c, h1, h2, h3, h4⟩ => ⟨h0, a, c, h1, h2, h3, InTs.mono hb h4⟩
theorem InTs.mono {S S' : Nat → Prop} {w : World} (hb : ∀ b, S b → b < w.heap.size → S' b) : ∀ {l : List T} {a : Option Addr} {i : Nat}, InTs S w l a i → InTs S' w l a i
  | [], _, _, _ => trivial
  | _ :: _, _, _, ⟨⟨b, o, u, v, ha, hs, h1, h2, h3⟩, h4⟩ => ⟨⟨b, o, u, v, ha, hb _ hs (World.block_lt_of_cell? _ _ h1), h1, h2, InT.mono hb h3⟩, InTs.mono hb h4⟩
end
mutual
theorem InT.isT {S : Nat → Prop} {w : World} : ∀ {t : T} {v : Value}, InT S w t v → IsT w t v
  | .mk _ _, _, ⟨h0, a, c, h1, h2, h3, h4⟩ => ⟨h0, a, c, h1, h2, h3, InTs.isTs h4⟩
theorem InTs.isTs {S : Nat → Prop} {w : World} : ∀ {l : List T} {a : Option Addr} {i : Nat}, InTs S w l a i → IsTs w l a i
  | [], _, _, _ => trivial
  | _ :: _, _, _, ⟨⟨b, o, u, v, ha, hs, h1, h2, h3⟩, h4⟩ => ⟨⟨b, o, u, v, ha, h1, h2, InT.isT h3⟩, InTs.isTs h4⟩
end
mutual
theorem IsT.inT {w : World} : ∀ {t : T} {v : Value}, IsT w t v → InT (fun b => b < w.heap.size) w t v
  | .mk _ _, _, ⟨h0, a, c, h1, h2, h3, h4⟩ => ⟨h0, a, c, h1, h2, h3, IsTs.inTs h4⟩
theorem IsTs.inTs {w : World} : ∀ {l : List T} {a : Option Addr} {i : Nat}, IsTs w l a i → InTs (fun b => b < w.heap.size) w l a i
  | [], _, _, _ => trivial
  | _ :: _, _, _, ⟨⟨b, o, u, v, ha, h1, h2, h3⟩, h4⟩ => ⟨⟨b, o, u, v, ha, World.block_lt_of_cell? _ _ h1, h1, h2, IsT.inT h3⟩, IsTs.inTs h4⟩
end
theorem InT.below {S : Nat → Prop} {w w' : World} (hb : Below w.heap.size w w') {t : T} {v : Value} (h : InT S w t v) : InT S w' t v := h.keep fun p x _ hx => bkeeps hb p x hx
theorem InTs.below {S : Nat → Prop} {w w' : World} (hb : Below w.heap.size w w') {l : List T} {a : Option Addr} {i : Nat} (h : InTs S w l a i) : InTs S w' l a i := h.keep fun p x _ hx => bkeeps hb p x hx
/-- What keeps blocks below 'B' keeps what lies there. -/
theorem InT.old {B N : Nat} {w w' : World} (hb : Below N w w') (hBN : B ≤ N) {t : T} {v : Value} (h : InT (fun b => b < B) w t v) : InT (fun b => b < B) w' t v := InT.keep (S := fun b => b < B) (fun p x (hp : p.block < B) hx => (hb.cell (Nat.lt_of_lt_of_le hp hBN)).trans hx) h
theorem InTs.old {B N : Nat} {w w' : World} (hb : Below N w w') (hBN : B ≤ N) {l : List T} {a : Option Addr} {i : Nat} (h : InTs (fun b => b < B) w l a i) : InTs (fun b => b < B) w' l a i := InTs.keep (S := fun b => b < B) (fun p x (hp : p.block < B) hx => (hb.cell (Nat.lt_of_lt_of_le hp hBN)).trans hx) h
theorem InT.form {S : Nat → Prop} {w : World} {t : T} {v : Value} (h : InT S w t v) : I64 t.f ∧ ∃ (a : Option Addr) (c : Nat), v = .agg #[.int .i64 t.f, .slice a t.args.length c] ∧ t.args.length ≤ c ∧ c ≤ maxLen ∧ InTs S w t.args a 0 := by
  cases t; exact h
theorem InTs.at0 {S : Nat → Prop} {w : World} {l : List T} : ∀ {a : Option Addr} {i : Nat}, InTs S w l a i → ∀ k (hk : k < l.length),
    ∃ (b o : Nat) (u v : Value), a = some ⟨b, o, none⟩ ∧ S b ∧ w.cell? ⟨b, o + (i + k) * 2, none⟩ = some u ∧ w.cell? ⟨b, o + (i + k) * 2 + 1, none⟩ = some v ∧ InT S w l[k] (.agg #[u, v]) := by
  induction l with
  | nil => intro a i _ k hk; simp at hk
  | cons t r ih =>
    intro a i h k hk
    obtain ⟨h0, h1⟩ := h
    cases k with
    | zero => exact h0
    | succ k =>
      obtain ⟨b, o, u, v, h2, h3, h4, h5, h6⟩ := ih h1 k (by simpa using hk)
      refine ⟨b, o, u, v, h2, h3, ?_, ?_, by simpa using h6⟩
      · rw [show i + (k + 1) = i + 1 + k by omega]; exact h4
      · rw [show i + (k + 1) = i + 1 + k by omega]; exact h5
theorem InTs.at_ {S : Nat → Prop} {w : World} {l : List T} {a : Option Addr} (h : InTs S w l a 0) (k : Nat) (hk : k < l.length) :
    ∃ (b o : Nat) (u v : Value), a = some ⟨b, o, none⟩ ∧ S b ∧ w.cell? ⟨b, o + k * 2, none⟩ = some u ∧ w.cell? ⟨b, o + k * 2 + 1, none⟩ = some v ∧ InT S w l[k] (.agg #[u, v]) := by
  have := h.at0 k hk
  simpa using this
theorem InTs.of_at0 {S : Nat → Prop} {w : World} {a : Option Addr} : ∀ {l : List T} {i : Nat}, (∀ k (hk : k < l.length), ∃ (b o : Nat) (u v : Value), a = some ⟨b, o, none⟩ ∧ S b ∧ w.cell? ⟨b, o + (i + k) * 2, none⟩ = some u ∧ w.cell? ⟨b, o + (i + k) * 2 + 1, none⟩ = some v ∧ InT S w l[k] (.agg #[u, v])) → InTs S w l a i
  | [], _, _ => trivial
  | _ :: r, i, h => ⟨h 0 (by simp), InTs.of_at0 fun k hk => by
      obtain ⟨b, o, u, v, h1, h2, h3, h4, h5⟩ := h (k + 1) (by simpa using hk)
      refine ⟨b, o, u, v, h1, h2, ?_, ?_, by simpa using h5⟩
      · rw [show i + 1 + k = i + (k + 1) by omega]; exact h3
      · rw [show i + 1 + k = i + (k + 1) by omega]; exact h4⟩
theorem InT.chg {S S2 : Nat → Prop} {w w' : World} {t : T} {v : Value} (h : InT S w t v) (hc : Chg S2 w w') (hS : ∀ b, S b → ¬ S2 b) : InT S w' t v := h.keep fun p x hp hx => by
  have hb := World.block_lt_of_cell? _ _ hx
  unfold World.cell? at hx ⊢
  rw [hc.block p.block hb (hS _ hp)]; exact hx
theorem InT.upd {N g : Nat} {w w' : World} {t : T} {v : Value} (h : InT (fun b => N ≤ b) w t v) (hu : Upd g w w') (hg : g < N) : InT (fun b => N ≤ b) w' t v := h.chg (S2 := fun b => b = g) ⟨hu.os, hu.tape, hu.output, Nat.le_of_eq hu.size.symm, fun k _ hn => hu.block k hn⟩ (fun b hb e => by subst e; omega)
def eltT : Elt T where
  k := 2
  In := fun S w t cs => ∃ u v, cs = [u, v] ∧ InT S w t (.agg #[u, v])
  keep := fun hb ⟨u, v, e, h⟩ => ⟨u, v, e, h.keep hb⟩
  mono := fun hb ⟨u, v, e, h⟩ => ⟨u, v, e, h.mono hb⟩
  len := fun ⟨_, _, e, _⟩ => by rw [e]; rfl
  one := fun ⟨u, v, e, h⟩ x hx => by
    obtain ⟨_, a, c, e2, _⟩ := h.form
    simp only [Value.agg.injEq, Array.mk.injEq, List.cons.injEq, and_true] at e2
    rw [e] at hx
    simp only [List.mem_cons, List.not_mem_nil, or_false] at hx
    rcases hx with rfl | rfl
    · rw [e2.1]; rfl
    · rw [e2.2]; rfl
theorem InRow.ts {S : Nat → Prop} {w : World} {l : List T} {a : Option Addr} (h : InRow eltT S w l a) : InTs S w l a 0 := InTs.of_at0 fun k hk => by
  obtain ⟨b, o, cs, h1, h2, ⟨u, v, rfl, h3⟩, h4⟩ := h k hk
  have c0 := h4 0 (by decide)
  have c1 := h4 1 (by decide)
  refine ⟨b, o, u, v, h1, h2, ?_, ?_, h3⟩
  · rw [Nat.zero_add]; exact c0
  · rw [Nat.zero_add]; exact c1
/-- A term in memory that has come since 'w0'. -/
abbrev NewT (w0 w : World) (t : T) (v : Value) : Prop := InT (fun b => w0.heap.size ≤ b) w t v
theorem newT_mk {w0 w : World} {f : Int} {ts : List T} {a : Option Addr} {n c : Nat} (hf : I64 f) (hn : n = ts.length) (hc : n ≤ c) (hm : c ≤ maxLen) (h : InRow eltT (fun b => w0.heap.size ≤ b) w ts a) : NewT w0 w (.mk f ts) (.agg #[.int .i64 f, .slice a n c]) := by
  subst hn
  exact ⟨hf, a, c, rfl, hc, hm, h.ts⟩
theorem newT_row {w0 w : World} {B e : Nat} {f : Int} {ts : List T} {ra : Option Addr} {n rc : Nat} (hf : I64 f) (h : RowE eltT w B e ra rc n ts) (hB : w0.heap.size ≤ B) : NewT w0 w (.mk f ts) (.agg #[.int .i64 f, .slice ra n rc]) := by
  obtain ⟨h1, h2, h3, h4⟩ := h.inRow
  exact newT_mk hf h2 h3 h4 (h1.mono (by decide) (fun b hb _ => Nat.le_trans hB hb))
theorem newT_leaf {w0 w : World} {f : Int} (hf : I64 f) : NewT w0 w (.mk f []) (.agg #[.int .i64 f, .slice none 0 0]) := newT_mk hf rfl (Nat.le_refl _) (by unfold maxLen; omega) InRow.nil
end Go.Proofs.Ytmdpiafeiopimaa

/- Literals, clauses: how they lie in memory. -/
namespace Go.Proofs.Ytmdpiafeiopimaa
open Go.RowKit Go
set_option linter.unusedVariables false
set_option linter.unusedSimpArgs false
/-- A literal. -/
structure Li where
  neg : Bool
  l : T
  r : T
instance : Inhabited Li := ⟨⟨false, .mk 0 [], .mk 0 []⟩⟩
def Li.size (x : Li) : Nat := x.l.size + x.r.size
theorem InT.parts {S : Nat → Prop} {w : World} {t : T} {u v : Value} (h : InT S w t (.agg #[u, v])) : ∃ (a : Option Addr) (c : Nat), u = .int .i64 t.f ∧ v = .slice a t.args.length c := by
  obtain ⟨_, a, c, e, _⟩ := h.form
  simp only [Value.agg.injEq, Array.mk.injEq, List.cons.injEq, and_true] at e
  exact ⟨a, c, e.1, e.2⟩
def eltL : Elt Li where
  k := 5
  In := fun S w x cs => ∃ u1 u2 u3 u4, cs = [.bool x.neg, u1, u2, u3, u4] ∧ InT S w x.l (.agg #[u1, u2]) ∧ InT S w x.r (.agg #[u3, u4])
  keep := fun hb ⟨u1, u2, u3, u4, e, h0, h⟩ => ⟨u1, u2, u3, u4, e, h0.keep hb, h.keep hb⟩
  mono := fun hb ⟨u1, u2, u3, u4, e, h0, h⟩ => ⟨u1, u2, u3, u4, e, h0.mono hb, h.mono hb⟩
  len := fun ⟨_, _, _, _, e, _⟩ => by rw [e]; rfl
  one := fun ⟨u1, u2, u3, u4, e, h0, h⟩ x hx => by
    obtain ⟨a1, c1, rfl, rfl⟩ := h0.parts
    obtain ⟨a2, c2, rfl, rfl⟩ := h.parts
    rw [e] at hx
    simp only [List.mem_cons, List.not_mem_nil, or_false] at hx
    rcases hx with rfl | rfl | rfl | rfl | rfl <;> rfl
def lget (l : List Li) (k : Nat) : Li := l.getD k default
theorem lget_lt {l : List Li} {k : Nat} (h : k < l.length) : lget l k = l[k] := by simp [lget, h]
theorem lget_mem {l : List Li} {k : Nat} (h : k < l.length) : lget l k ∈ l := by rw [lget_lt h]; exact List.getElem_mem h
theorem InRow.openL {S : Nat → Prop} {w : World} {l : List Li} {a : Option Addr} (h : InRow eltL S w l a) : ∃ (b o : Nat) (A : Nat → Option Addr) (C : Nat → Nat) (A2 : Nat → Option Addr) (C2 : Nat → Nat), (∀ k, k < l.length → a = some ⟨b, o, none⟩) ∧
    ∀ k, k < l.length → w.cell? ⟨b, o + k * 5, none⟩ = some (.bool (lget l k).neg) ∧ w.cell? ⟨b, o + k * 5 + 1, none⟩ = some (.int .i64 (lget l k).l.f) ∧ w.cell? ⟨b, o + k * 5 + 2, none⟩ = some (.slice (A k) (lget l k).l.args.length (C k)) ∧
      w.cell? ⟨b, o + k * 5 + 3, none⟩ = some (.int .i64 (lget l k).r.f) ∧ w.cell? ⟨b, o + k * 5 + 4, none⟩ = some (.slice (A2 k) (lget l k).r.args.length (C2 k)) ∧
      InT S w (lget l k).l (.agg #[.int .i64 (lget l k).l.f, .slice (A k) (lget l k).l.args.length (C k)]) ∧ InT S w (lget l k).r (.agg #[.int .i64 (lget l k).r.f, .slice (A2 k) (lget l k).r.args.length (C2 k)]) := by
  rcases Nat.eq_zero_or_pos l.length with h0 | h0
  · exact ⟨0, 0, fun _ => none, fun _ => 0, fun _ => none, fun _ => 0, fun k hk => by omega, fun k hk => by omega⟩
  · obtain ⟨b, o, _, ha, _⟩ := h 0 h0
    have key : ∀ k, k < l.length → ∃ p : (Option Addr × Nat) × (Option Addr × Nat), w.cell? ⟨b, o + k * 5, none⟩ = some (.bool (lget l k).neg) ∧ w.cell? ⟨b, o + k * 5 + 1, none⟩ = some (.int .i64 (lget l k).l.f) ∧ w.cell? ⟨b, o + k * 5 + 2, none⟩ = some (.slice p.1.1 (lget l k).l.args.length p.1.2) ∧
      w.cell? ⟨b, o + k * 5 + 3, none⟩ = some (.int .i64 (lget l k).r.f) ∧ w.cell? ⟨b, o + k * 5 + 4, none⟩ = some (.slice p.2.1 (lget l k).r.args.length p.2.2) ∧
      InT S w (lget l k).l (.agg #[.int .i64 (lget l k).l.f, .slice p.1.1 (lget l k).l.args.length p.1.2]) ∧ InT S w (lget l k).r (.agg #[.int .i64 (lget l k).r.f, .slice p.2.1 (lget l k).r.args.length p.2.2]) := by
      intro k hk
      obtain ⟨b', o', cs, ha', _, ⟨u1, u2, u3, u4, rfl, h1, h2⟩, h3⟩ := h k hk
      rw [ha] at ha'
      simp only [Option.some.injEq, Addr.mk.injEq, and_true] at ha'
      obtain ⟨rfl, rfl⟩ := ha'
      obtain ⟨p1, q1, rfl, rfl⟩ := h1.parts
      obtain ⟨p2, q2, rfl, rfl⟩ := h2.parts
      rw [lget_lt hk]
      exact ⟨((p1, q1), (p2, q2)), h3 0 (by decide), h3 1 (by decide), h3 2 (by decide), h3 3 (by decide), h3 4 (by decide), h1, h2⟩
    have : Inhabited ((Option Addr × Nat) × (Option Addr × Nat)) := ⟨((none, 0), (none, 0))⟩
    obtain ⟨F, hF⟩ := Go.Deep.choose_lt key
    exact ⟨b, o, fun k => (F k).1.1, fun k => (F k).1.2, fun k => (F k).2.1, fun k => (F k).2.2, fun _ _ => ha, hF⟩
/-- A clause that came in. -/
abbrev IsLs (w : World) (l : List Li) (a : Option Addr) : Prop := InRow eltL (fun _ => True) w l a
/-- A clause that came in: it lies in memory, is no longer than that, its terms are no larger. -/
structure IsCl (w : World) (s : List Li) (a : Option Addr) (c : Nat) : Prop where
  rows : IsLs w s a
  len : s.length ≤ c
  cap : c ≤ maxLen
  small : s.length ≤ 4294967296
  partsL : ∀ b ∈ s, b.l.size ≤ 4294967296
  partsR : ∀ b ∈ s, b.r.size ≤ 4294967296
theorem IsCl.below {w w' : World} {s : List Li} {a : Option Addr} {c : Nat} (h : IsCl w s a c) (hb : Below w.heap.size w w') : IsCl w' s a c := ⟨h.rows.below hb, h.len, h.cap, h.small, h.partsL, h.partsR⟩
theorem IsCl.pr {w : World} {s : List Li} {a : Option Addr} {c k : Nat} (h : IsCl w s a c) (hk : k < s.length) : (lget s k).r.size ≤ 4294967296 := h.partsR _ (lget_mem hk)
/-- A literal in memory. -/
def IsLi (w : World) (x : Li) (v : Value) : Prop := ∃ u1 u2 u3 u4, v = .agg #[.bool x.neg, u1, u2, u3, u4] ∧ IsT w x.l (.agg #[u1, u2]) ∧ IsT w x.r (.agg #[u3, u4])
theorem IsLi.below {w w' : World} {x : Li} {v : Value} (hb : Below w.heap.size w w') (h : IsLi w x v) : IsLi w' x v := by
  obtain ⟨u1, u2, u3, u4, e, h1, h2⟩ := h
  exact ⟨u1, u2, u3, u4, e, h1.below hb, h2.below hb⟩
theorem IsLi.form {w : World} {x : Li} {v : Value} (h : IsLi w x v) : ∃ (a1 a2 : Option Addr) (c1 c2 : Nat), v = .agg #[.bool x.neg, .int .i64 x.l.f, .slice a1 x.l.args.length c1, .int .i64 x.r.f, .slice a2 x.r.args.length c2] ∧
    IsT w x.l (.agg #[.int .i64 x.l.f, .slice a1 x.l.args.length c1]) ∧ IsT w x.r (.agg #[.int .i64 x.r.f, .slice a2 x.r.args.length c2]) := by
  obtain ⟨u1, u2, u3, u4, e, h1, h2⟩ := h
  obtain ⟨p1, q1, rfl, rfl⟩ := h1.cells
  obtain ⟨p2, q2, rfl, rfl⟩ := h2.cells
  exact ⟨p1, p2, q1, q2, e, h1, h2⟩
/-- A literal in memory, made since. -/
def NewL (w0 w : World) (x : Li) (v : Value) : Prop := ∃ u1 u2 u3 u4, v = .agg #[.bool x.neg, u1, u2, u3, u4] ∧ InT (fun b => w0.heap.size ≤ b) w x.l (.agg #[u1, u2]) ∧ InT (fun b => w0.heap.size ≤ b) w x.r (.agg #[u3, u4])
/-- A literal in memory, in blocks of 'S'. -/
def LiIn (S : Nat → Prop) (w : World) (x : Li) (v : Value) : Prop := ∃ u1 u2 u3 u4, v = .agg #[.bool x.neg, u1, u2, u3, u4] ∧ InT S w x.l (.agg #[u1, u2]) ∧ InT S w x.r (.agg #[u3, u4])
theorem LiIn.keep {S : Nat → Prop} {w w' : World} {x : Li} {v : Value} (hb : ∀ (p : Addr) (y : Value), S p.block → w.cell? p = some y → w'.cell? p = some y) (h : LiIn S w x v) : LiIn S w' x v := by
  obtain ⟨u1, u2, u3, u4, e, h1, h2⟩ := h
  exact ⟨u1, u2, u3, u4, e, h1.keep hb, h2.keep hb⟩
theorem LiIn.mono {S S' : Nat → Prop} {w : World} {x : Li} {v : Value} (hb : ∀ b, S b → b < w.heap.size → S' b) (h : LiIn S w x v) : LiIn S' w x v := by
  obtain ⟨u1, u2, u3, u4, e, h1, h2⟩ := h
  exact ⟨u1, u2, u3, u4, e, h1.mono hb, h2.mono hb⟩
theorem LiIn.parts {S : Nat → Prop} {w : World} {x : Li} {v : Value} (h : LiIn S w x v) : ∃ (a1 a2 : Option Addr) (c1 c2 : Nat), v = .agg #[.bool x.neg, .int .i64 x.l.f, .slice a1 x.l.args.length c1, .int .i64 x.r.f, .slice a2 x.r.args.length c2] := by
  obtain ⟨u1, u2, u3, u4, e, h1, h2⟩ := h
  obtain ⟨p1, q1, rfl, rfl⟩ := h1.parts
  obtain ⟨p2, q2, rfl, rfl⟩ := h2.parts
  exact ⟨p1, p2, q1, q2, e⟩
theorem LiIn.two {S : Nat → Prop} {w : World} {x : Li} {v0 v1 v2 v3 v4 : Value} (h : LiIn S w x (.agg #[v0, v1, v2, v3, v4])) : InT S w x.l (.agg #[v1, v2]) ∧ InT S w x.r (.agg #[v3, v4]) := by
  obtain ⟨u1, u2, u3, u4, e, h1, h2⟩ := h
  simp only [Value.agg.injEq, Array.mk.injEq, List.cons.injEq, and_true] at e
  obtain ⟨rfl, rfl, rfl, rfl, rfl⟩ := e
  exact ⟨h1, h2⟩
theorem NewL.isLi {w0 w : World} {x : Li} {v : Value} (h : NewL w0 w x v) : IsLi w x v := by
  obtain ⟨u1, u2, u3, u4, e, h1, h2⟩ := h
  exact ⟨u1, u2, u3, u4, e, h1.isT, h2.isT⟩
theorem NewL.below {w0 w w' : World} {x : Li} {v : Value} (h : NewL w0 w x v) (hb : Below w.heap.size w w') : NewL w0 w' x v := by
  obtain ⟨u1, u2, u3, u4, e, h1, h2⟩ := h
  exact ⟨u1, u2, u3, u4, e, h1.below hb, h2.below hb⟩
theorem NewL.chg {S : Nat → Prop} {w0 w w' : World} {x : Li} {v : Value} (h : NewL w0 w x v) (hc : Chg S w w') (hS : ∀ b, w0.heap.size ≤ b → ¬ S b) : NewL w0 w' x v := by
  obtain ⟨u1, u2, u3, u4, e, h1, h2⟩ := h
  exact ⟨u1, u2, u3, u4, e, h1.chg hc hS, h2.chg hc hS⟩
theorem NewL.older {w0 w1 w : World} {x : Li} {v : Value} (h : NewL w1 w x v) (hl : w0.heap.size ≤ w1.heap.size) : NewL w0 w x v := by
  obtain ⟨u1, u2, u3, u4, e, h1, h2⟩ := h
  exact ⟨u1, u2, u3, u4, e, h1.mono (fun b hb _ => Nat.le_trans hl hb), h2.mono (fun b hb _ => Nat.le_trans hl hb)⟩
theorem NewL.parts {w0 w : World} {x : Li} {v : Value} (h : NewL w0 w x v) : ∃ (a1 a2 : Option Addr) (c1 c2 : Nat), v = .agg #[.bool x.neg, .int .i64 x.l.f, .slice a1 x.l.args.length c1, .int .i64 x.r.f, .slice a2 x.r.args.length c2] := by
  obtain ⟨u1, u2, u3, u4, e, h1, h2⟩ := h
  obtain ⟨p1, q1, rfl, rfl⟩ := h1.parts
  obtain ⟨p2, q2, rfl, rfl⟩ := h2.parts
  exact ⟨p1, p2, q1, q2, e⟩
theorem newL_mk {w0 w : World} {x : Li} {u1 u2 u3 u4 : Value} (h1 : NewT w0 w x.l (.agg #[u1, u2])) (h2 : NewT w0 w x.r (.agg #[u3, u4])) : NewL w0 w x (.agg #[.bool x.neg, u1, u2, u3, u4]) := ⟨_, _, _, _, rfl, h1, h2⟩
/-- A box in which a new literal lies. -/
def LiBox (w0 w : World) (g ty : Nat) (x : Li) : Prop := ∃ (a1 a2 : Option Addr) (c1 c2 : Nat), Blk w g ty #[.bool x.neg, .int .i64 x.l.f, .slice a1 x.l.args.length c1, .int .i64 x.r.f, .slice a2 x.r.args.length c2] ∧ NewL w0 w x (.agg #[.bool x.neg, .int .i64 x.l.f, .slice a1 x.l.args.length c1, .int .i64 x.r.f, .slice a2 x.r.args.length c2])
theorem LiBox.below {w0 w w' : World} {g ty : Nat} {x : Li} (h : LiBox w0 w g ty x) (hb : Below w.heap.size w w') : LiBox w0 w' g ty x := by
  obtain ⟨a1, a2, c1, c2, h1, h2⟩ := h
  exact ⟨a1, a2, c1, c2, h1.below hb, h2.below hb⟩
/-- A clause in memory, made since. -/
def NewC (w0 w : World) (l : List Li) (a : Option Addr) (c : Nat) : Prop := InRow eltL (fun b => w0.heap.size ≤ b) w l a ∧ l.length ≤ c ∧ c ≤ maxLen
theorem NewC.below {w0 w w' : World} {l : List Li} {a : Option Addr} {c : Nat} (h : NewC w0 w l a c) (hb : Below w.heap.size w w') : NewC w0 w' l a c := ⟨h.1.below hb, h.2⟩
end Go.Proofs.Ytmdpiafeiopimaa

/- Terms, literals, clauses that are built in a region: what is known of each. -/
namespace Go.Proofs.Ytmdpiafeiopimaa
open Go.RowKit Go
set_option linter.unusedVariables false
set_option linter.unusedSimpArgs false
/-- The value is a row of terms. -/
def RowT (l : List T) (v : Value) (w : World) : Prop := ∃ (a : Option Addr) (c : Nat), v = .slice a l.length c ∧ l.length ≤ c ∧ c ≤ maxLen ∧ IsTs w l a 0
theorem RowT.below {l : List T} {v : Value} {w w' : World} (hb : Below w.heap.size w w') (h : RowT l v w) : RowT l v w' := by
  obtain ⟨a, c, e, h1, h2, h3⟩ := h
  exact ⟨a, c, e, h1, h2, h3.below hb⟩
theorem RowT.nil {w : World} : RowT [] (.slice none 0 0) w := ⟨none, 0, rfl, Nat.le_refl _, Nat.zero_le _, trivial⟩
/-- The value is a clause. -/
def RowC (l : List Li) (v : Value) (w : World) : Prop := ∃ (a : Option Addr) (c : Nat), v = .slice a l.length c ∧ IsCl w l a c
theorem RowC.below {l : List Li} {v : Value} {w w' : World} (hb : Below w.heap.size w w') (h : RowC l v w) : RowC l v w' := by
  obtain ⟨a, c, e, h1⟩ := h
  exact ⟨a, c, e, h1.below hb⟩
theorem isT_mk {w : World} {f : Int} {l : List T} {a : Option Addr} {n c : Nat} (hf : I64 f) (h : RowT l (.slice a n c) w) : IsT w (.mk f l) (.agg #[.int .i64 f, .slice a n c]) := by
  obtain ⟨a', c', e, h1, h2, h3⟩ := h
  simp only [Value.slice.injEq] at e
  obtain ⟨rfl, rfl, rfl⟩ := e
  exact ⟨hf, _, _, rfl, h1, h2, h3⟩
theorem isT_lf {w : World} {f : Int} (hf : -9223372036854775808 ≤ f ∧ f ≤ 9223372036854775807) : IsT w (.mk f []) (.agg #[.int .i64 f, .slice none 0 0]) := isT_mk hf RowT.nil
theorem isLi_keep {x : Li} (v : Value) (w w' : World) (hb : Below w.heap.size w w') (h : IsLi w x v) : IsLi w' x v := h.below hb
theorem isLi_of {w : World} {x : Li} {u1 u2 u3 u4 : Value} (h1 : IsT w x.l (.agg #[u1, u2])) (h2 : IsT w x.r (.agg #[u3, u4])) : IsLi w x (.agg #[.bool x.neg, u1, u2, u3, u4]) := ⟨_, _, _, _, rfl, h1, h2⟩
theorem IsT.inAny {w : World} {t : T} {v : Value} (h : IsT w t v) : InT (fun _ => True) w t v := h.inT.mono (fun _ _ _ => trivial)
end Go.Proofs.Ytmdpiafeiopimaa

namespace Go.Proofs.Ytmdpiafeiopimaa
open Go.RowKit Go
set_option linter.unusedVariables false
/-- Rows of terms, in a row. -/
def IsRs (w : World) (l : List (List T)) (a : Option Addr) : Prop := ∀ k (hk : k < l.length), ∃ b o a1 c1, a = some ⟨b, o, none⟩ ∧ w.cell? ⟨b, o + k, none⟩ = some (.slice a1 l[k].length c1) ∧ IsTs w l[k] a1 0
theorem IsRs.below {w w' : World} {l : List (List T)} {a : Option Addr} (h : IsRs w l a) (hb : Below w.heap.size w w') : IsRs w' l a := fun k hk => by
  obtain ⟨b, o, a1, c1, e, h1, h2⟩ := h k hk
  exact ⟨b, o, a1, c1, e, bkeeps hb _ _ h1, h2.below hb⟩
theorem rget_lt {l : List (List T)} {k : Nat} (h : k < l.length) : rget l k = l[k] := by simp [rget, h]
theorem rget_mem {l : List (List T)} {k : Nat} (h : k < l.length) : rget l k ∈ l := by rw [rget_lt h]; exact List.getElem_mem h
theorem IsRs.open {w : World} {l : List (List T)} {a : Option Addr} (h : IsRs w l a) : ∃ (b o : Nat) (A : Nat → Option Addr) (C : Nat → Nat), (∀ k, k < l.length → a = some ⟨b, o, none⟩) ∧
    ∀ k, k < l.length → w.cell? ⟨b, o + k, none⟩ = some (.slice (A k) (rget l k).length (C k)) ∧ IsTs w (rget l k) (A k) 0 := by
  rcases Nat.eq_zero_or_pos l.length with h0 | h0
  · exact ⟨0, 0, fun _ => none, fun _ => 0, fun k hk => by omega, fun k hk => by omega⟩
  · obtain ⟨b, o, _, _, ha, _⟩ := h 0 h0
    have key : ∀ k, k < l.length → ∃ p : Option Addr × Nat, w.cell? ⟨b, o + k, none⟩ = some (.slice p.1 (rget l k).length p.2) ∧ IsTs w (rget l k) p.1 0 := by
      intro k hk
      obtain ⟨b', o', a', c', ha', h1, h2⟩ := h k hk
      rw [ha] at ha'
      simp only [Option.some.injEq, Addr.mk.injEq, and_true] at ha'
      obtain ⟨rfl, rfl⟩ := ha'
      rw [rget_lt hk]
      exact ⟨(a', c'), h1, h2⟩
    have : Inhabited (Option Addr × Nat) := ⟨(none, 0)⟩
    obtain ⟨F, hF⟩ := Go.Deep.choose_lt key
    exact ⟨b, o, fun k => (F k).1, fun k => (F k).2, fun _ _ => ha, hF⟩
/-- A literal's members. -/
def Li.mems (x : Li) : List (List T) := if x.neg = true then [[x.l, x.r]] else [[x.l], [x.r]]
theorem Li.mems_len (x : Li) : x.mems.length ≤ 2 := by unfold Li.mems; split <;> simp
theorem Li.mems_all {x : Li} : ∀ l ∈ x.mems, l.length ≤ 2 ∧ ∀ t ∈ l, t = x.l ∨ t = x.r := fun l hl => by
  unfold Li.mems at hl
  split at hl
  · simp only [List.mem_singleton] at hl; subst hl; simp
  · simp only [List.mem_cons, List.not_mem_nil, or_false] at hl
    rcases hl with rfl | rfl <;> simp
theorem isTs_one {w : World} {g e : Nat} {t : T} {a : Option Addr} {c : Nat} (hB : Blk w g e #[.int .i64 t.f, .slice a t.args.length c]) (h : IsT w t (.agg #[.int .i64 t.f, .slice a t.args.length c])) : IsTs w [t] (some ⟨g, 0, none⟩) 0 :=
  IsTs.of_at fun k hk => by
    obtain rfl : k = 0 := by simpa using hk
    exact ⟨g, 0, _, _, rfl, (hB.cell 0).trans rfl, (hB.cell 1).trans rfl, h⟩
theorem isTs_two {w : World} {g e : Nat} {t u : T} {a a2 : Option Addr} {c c2 : Nat} (hB : Blk w g e #[.int .i64 t.f, .slice a t.args.length c, .int .i64 u.f, .slice a2 u.args.length c2]) (h : IsT w t (.agg #[.int .i64 t.f, .slice a t.args.length c])) (h2 : IsT w u (.agg #[.int .i64 u.f, .slice a2 u.args.length c2])) : IsTs w [t, u] (some ⟨g, 0, none⟩) 0 :=
  IsTs.of_at fun k hk => by
    match k, hk with
    | 0, _ => exact ⟨g, 0, _, _, rfl, (hB.cell 0).trans rfl, (hB.cell 1).trans rfl, h⟩
    | 1, _ => exact ⟨g, 0, _, _, rfl, (hB.cell 2).trans rfl, (hB.cell 3).trans rfl, h2⟩
theorem isRs_one {w : World} {g e : Nat} {l : List T} {a : Option Addr} {n c : Nat} (hB : Blk w g e #[.slice a n c]) (h : IsTs w l a 0) (hn : n = l.length) : IsRs w [l] (some ⟨g, 0, none⟩) := fun k hk => by
  obtain rfl : k = 0 := by simpa using hk
  subst hn
  exact ⟨g, 0, a, c, rfl, (hB.cell 0).trans rfl, h⟩
theorem isRs_two {w : World} {g e : Nat} {l q : List T} {a a2 : Option Addr} {n n2 c c2 : Nat} (hB : Blk w g e #[.slice a n c, .slice a2 n2 c2]) (h : IsTs w l a 0) (h2 : IsTs w q a2 0) (hn : n = l.length) (hn2 : n2 = q.length) : IsRs w [l, q] (some ⟨g, 0, none⟩) := fun k hk => by
  subst hn hn2
  match k, hk with
  | 0, _ => exact ⟨g, 0, a, c, rfl, (hB.cell 0).trans rfl, h⟩
  | 1, _ => exact ⟨g, 0, a2, c2, rfl, (hB.cell 1).trans rfl, h2⟩
def RowR (l : List (List T)) (v : Value) (w : World) : Prop := ∃ (a : Option Addr) (c : Nat), v = .slice a l.length c ∧ IsRs w l a
theorem RowR.keep {l : List (List T)} (v : Value) (w w' : World) (hb : Below w.heap.size w w') (h : RowR l v w) : RowR l v w' := by
  obtain ⟨a, c, e, h1⟩ := h; exact ⟨a, c, e, h1.below hb⟩
/-- Where a literal lies. -/
def AtL (w0 : World) (b p : Nat) (x : Li) : Prop := ∃ a c a2 c2, w0.cell? ⟨b, p, none⟩ = some (.bool x.neg) ∧ w0.cell? ⟨b, p + 1, none⟩ = some (.int .i64 x.l.f) ∧ w0.cell? ⟨b, p + 2, none⟩ = some (.slice a x.l.args.length c) ∧ w0.cell? ⟨b, p + 3, none⟩ = some (.int .i64 x.r.f) ∧ w0.cell? ⟨b, p + 4, none⟩ = some (.slice a2 x.r.args.length c2) ∧
  IsT w0 x.l (.agg #[.int .i64 x.l.f, .slice a x.l.args.length c]) ∧ IsT w0 x.r (.agg #[.int .i64 x.r.f, .slice a2 x.r.args.length c2])
theorem PRow.openL {w0 w : World} {S : Nat → Prop} {r : Option Addr} {n : Nat} {ms : List Li} (h : PRow (AtL w0) w S r n ms) : ∃ (b p : Nat) (Bf Pf : Nat → Nat) (A : Nat → Option Addr) (C : Nat → Nat) (A2 : Nat → Option Addr) (C2 : Nat → Nat), (∀ k, k < n → r = some ⟨b, p, none⟩) ∧ ∀ k, k < n → w.cell? ⟨b, p + k, none⟩ = some (.pointer (some ⟨Bf k, Pf k, none⟩)) ∧
    w0.cell? ⟨Bf k, Pf k, none⟩ = some (.bool (lget ms k).neg) ∧ w0.cell? ⟨Bf k, Pf k + 1, none⟩ = some (.int .i64 (lget ms k).l.f) ∧ w0.cell? ⟨Bf k, Pf k + 2, none⟩ = some (.slice (A k) (lget ms k).l.args.length (C k)) ∧ w0.cell? ⟨Bf k, Pf k + 3, none⟩ = some (.int .i64 (lget ms k).r.f) ∧ w0.cell? ⟨Bf k, Pf k + 4, none⟩ = some (.slice (A2 k) (lget ms k).r.args.length (C2 k)) ∧
    IsT w0 (lget ms k).l (.agg #[.int .i64 (lget ms k).l.f, .slice (A k) (lget ms k).l.args.length (C k)]) ∧ IsT w0 (lget ms k).r (.agg #[.int .i64 (lget ms k).r.f, .slice (A2 k) (lget ms k).r.args.length (C2 k)]) := by
  obtain ⟨b, p, Bf, Pf, h1, h2⟩ := h.open default
  have key : ∀ k, k < n → ∃ q : (Option Addr × Nat) × (Option Addr × Nat), w0.cell? ⟨Bf k, Pf k, none⟩ = some (.bool (lget ms k).neg) ∧ w0.cell? ⟨Bf k, Pf k + 1, none⟩ = some (.int .i64 (lget ms k).l.f) ∧ w0.cell? ⟨Bf k, Pf k + 2, none⟩ = some (.slice q.1.1 (lget ms k).l.args.length q.1.2) ∧ w0.cell? ⟨Bf k, Pf k + 3, none⟩ = some (.int .i64 (lget ms k).r.f) ∧ w0.cell? ⟨Bf k, Pf k + 4, none⟩ = some (.slice q.2.1 (lget ms k).r.args.length q.2.2) ∧
    IsT w0 (lget ms k).l (.agg #[.int .i64 (lget ms k).l.f, .slice q.1.1 (lget ms k).l.args.length q.1.2]) ∧ IsT w0 (lget ms k).r (.agg #[.int .i64 (lget ms k).r.f, .slice q.2.1 (lget ms k).r.args.length q.2.2]) := fun k hk => by
    obtain ⟨a, c, a2, c2, h3⟩ := (h2 k hk).2; exact ⟨((a, c), (a2, c2)), h3⟩
  have : Inhabited ((Option Addr × Nat) × (Option Addr × Nat)) := ⟨((none, 0), (none, 0))⟩
  obtain ⟨F, hF⟩ := Go.Deep.choose_lt key
  exact ⟨b, p, Bf, Pf, fun k => (F k).1.1, fun k => (F k).1.2, fun k => (F k).2.1, fun k => (F k).2.2, h1, fun k hk => ⟨(h2 k hk).1, hF k hk⟩⟩
end Go.Proofs.Ytmdpiafeiopimaa
