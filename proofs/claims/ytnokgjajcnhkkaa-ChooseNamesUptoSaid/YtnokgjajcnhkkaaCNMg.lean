/- Multisets of rows of terms; how two literals stand. -/
import Derived.Test.YtnokgjajcnhkkaaCNMf
import Derived.Test.YtnokgjajcnhkkaaCNMb
import Derived.Test.YtnokgjajcnhkkaaCNMa

/- Multisets of terms. -/
namespace Go.Proofs.Ytnokgjajcnhkkaa
open Go.RowKit Go
set_option linter.unusedVariables false
set_option linter.unusedSimpArgs false
set_option maxRecDepth 100000 in
theorem allT_any (o : Od) (go : Nat) (p1 p2 : Option Addr) (k1 k2 : Nat) (L R : List T) (w0 w : World) (gb : Nat) (r1 r2 : Option Addr) (c1 c2 : Nat) (S1 S2 : Nat → Prop) (hL : PRow (AtT w0) w S1 r1 L.length L) (hR : PRow (AtT w0) w S2 r2 R.length R) (hz1 : ∀ x ∈ L, x.size ≤ 4294967296) (hz2 : ∀ x ∈ R, x.size ≤ 4294967296) (hl1 : L.length ≤ 1048576) (hl2 : R.length ≤ 1048576) (hw : Below w0.heap.size w0 w) (hB : Blk w0 go 24 #[.bool o.lpo, .slice p1 o.prec.length k1, .slice p2 o.weights.length k2, .int .i64 o.var]) (ho : IsOd w0 o (.agg #[.bool o.lpo, .slice p1 o.prec.length k1, .slice p2 o.weights.length k2, .int .i64 o.var])) (hgb : Blk w gb 64 #[.func (.func 45) #[] #[.pointer (some ⟨go, 0, none⟩)]]) :
  Calls Try.prog 49 #[.slice r1 L.length c1, .slice r2 R.length c2, .pointer (some ⟨gb, 0, none⟩)] w (Ret fun v' w' => v' = .bool (allAb o.ok2 L R) ∧ Below w.heap.size w w') := by
 refine Calls.walk (l := [.slice r1 L.length c1, .slice r2 R.length c2, .pointer (some ⟨gb, 0, none⟩)]) Try.func49 rfl (by kernel_rfl) ?_
 refine WC.sub (K' := [(0, .slice r1 L.length c1), (1, .slice r2 R.length c2), (2, .pointer (some ⟨gb, 0, none⟩))]) ⟨rfl, rfl, rfl, trivial⟩ ?_
 refine WC.seq (WC.region (WL.asg rfl rfl rfl rfl rfl (WL.nil (WE.next (WC.seq (WC.seq (WC.region (WL.mv rfl rfl rfl rfl rfl ?_))))))))
 refine WL.val (.int .i64 (((R.length : Nat) : Int))) rfl rfl rfl (fun za zC zh zk => len_76 rfl (zh.ev rfl) zk) ?_
 refine WL.mv rfl rfl rfl rfl rfl (WL.nil (WE.next (WC.block ?_)))
 refine WC.loop (X := Nat) (fun j => R.length - j) (fun j => [(0, .slice r1 L.length c1), (1, .slice r2 R.length c2), (2, .pointer (some ⟨gb, 0, none⟩)), (11, .slice r2 R.length c2), (12, .int .i64 (((R.length : Nat) : Int))), (13, .int .i64 (((j : Nat) : Int)))]) (fun j w1 => j ≤ R.length ∧ (∀ q, q < j → L.any (fun p => o.ok2 p (tget R q) == 3) = true) ∧ Below w.heap.size w w1 ∧ Blk w1 gb 64 #[.func (.func 45) #[] #[.pointer (some ⟨go, 0, none⟩)]]) 0 ⟨rfl, rfl, rfl, rfl, rfl, rfl, trivial⟩ ?_ ?_
 ·exact ⟨Nat.zero_le _, fun q h => absurd h (Nat.not_lt_zero q), (Below.refl _ _), hgb⟩
 ·rintro j w1 ⟨hj, hE, hb2, hB3⟩
  refine WC.seq (WC.region ?_)
  refine WL.val (.bool ((decide ((((j : Nat) : Int) : Int) < (((R.length : Nat) : Int) : Int))))) rfl rfl rfl (fun za zC zh zk => lss_3 rfl (zh.ev rfl) (zh.ev rfl) zk) ?_
  refine WL.nil (WE.next (WC.seq ?_))
  refine WC.cond rfl (fun h4 => ?_) (fun h4 => ?_)
  ·have h4 : (((j : Nat) : Int) : Int) < (((R.length : Nat) : Int) : Int) := by simpa using h4
   refine WC.skip (WE.next (WC.seq (WC.block (WC.seq (WC.region ?_)))))
   obtain ⟨b5, o6, Bf7, Pf8, A9, C10, ha11, hc12⟩ := PRow.openT (hR.below hb2)
   refine WL.val _ rfl rfl rfl (fun za zC zh zk => ix_76 (k := j) rfl (zh.ev rfl) (ha11 j (by first | omega | (simp; omega))) (zh.ev rfl) (by first | omega | (simp; omega)) zk) ?_
   refine WL.val _ rfl rfl rfl (fun za zC zh zk => ld_77 rfl (zh.ev rfl) (hc12 j (by first | omega | (simp; omega))).1 zk) ?_
   refine WL.asg rfl rfl rfl rfl rfl (WL.nil (WE.next (WC.seq (WC.region (WL.asg rfl rfl rfl rfl rfl (WL.nil (WE.next (WC.seq (WC.seq (WC.region (WL.mv rfl rfl rfl rfl rfl ?_)))))))))))
   refine WL.val (.int .i64 (((L.length : Nat) : Int))) rfl rfl rfl (fun za zC zh zk => len_76 rfl (zh.ev rfl) zk) ?_
   refine WL.mv rfl rfl rfl rfl rfl (WL.nil (WE.next (WC.block ?_)))
   refine WC.loop (X := Nat) (fun i => L.length - i) (fun i => [(0, .slice r1 L.length c1), (1, .slice r2 R.length c2), (2, .pointer (some ⟨gb, 0, none⟩)), (7, .pointer (some ⟨(Bf7 j), (Pf8 j), none⟩)), (8, .bool (((L.take i).any (fun p => o.ok2 p (tget R j) == 3)))), (11, .slice r2 R.length c2), (12, .int .i64 (((R.length : Nat) : Int))), (13, .int .i64 (((j : Nat) : Int))), (14, .bool ((decide ((((j : Nat) : Int) : Int) < (((R.length : Nat) : Int) : Int))))), (17, .slice r1 L.length c1), (18, .int .i64 (((L.length : Nat) : Int))), (19, .int .i64 (((i : Nat) : Int)))]) (fun i w13 => i ≤ L.length ∧ Below w.heap.size w w13 ∧ Blk w13 gb 64 #[.func (.func 45) #[] #[.pointer (some ⟨go, 0, none⟩)]]) 0 ⟨rfl, rfl, rfl, rfl, rfl, rfl, rfl, rfl, rfl, rfl, rfl, rfl, trivial⟩ ?_ ?_
   ·exact ⟨Nat.zero_le _, hb2, hB3⟩
   ·rintro i w13 ⟨hi, hb14, hB15⟩
    refine WC.seq (WC.region ?_)
    refine WL.val (.bool ((decide ((((i : Nat) : Int) : Int) < (((L.length : Nat) : Int) : Int))))) rfl rfl rfl (fun za zC zh zk => lss_3 rfl (zh.ev rfl) (zh.ev rfl) zk) ?_
    refine WL.nil (WE.next (WC.seq ?_))
    refine WC.cond rfl (fun h16 => ?_) (fun h16 => ?_)
    ·have h16 : (((i : Nat) : Int) : Int) < (((L.length : Nat) : Int) : Int) := by simpa using h16
     refine WC.skip (WE.next (WC.seq (WC.block (WC.seq (WC.region ?_)))))
     obtain ⟨b17, o18, Bf19, Pf20, A21, C22, ha23, hc24⟩ := PRow.openT (hL.below hb14)
     refine WL.val _ rfl rfl rfl (fun za zC zh zk => ix_76 (k := i) rfl (zh.ev rfl) (ha23 i (by first | omega | (simp; omega))) (zh.ev rfl) (by first | omega | (simp; omega)) zk) ?_
     refine WL.val _ rfl rfl rfl (fun za zC zh zk => ld_77 rfl (zh.ev rfl) (hc24 i (by first | omega | (simp; omega))).1 zk) ?_
     refine WL.asg rfl rfl rfl rfl rfl (WL.nil (WE.next ?_))
     refine WC.seqV (S := ((fun b => b < 0))) [(true, .val (.bool (((L.take i).any (fun p => o.ok2 p (tget R j) == 3))))), (true, .val (.bool (((L.take i).any (fun p => o.ok2 p (tget R j) == 3))))), ((true && !((L.take i).any (fun p => o.ok2 p (tget R j) == 3))), .val (.func (.func 45) #[] #[.pointer (some ⟨go, 0, none⟩)])), ((true && !((L.take i).any (fun p => o.ok2 p (tget R j) == 3))), .val (.pointer (some ⟨(Bf19 i), (Pf20 i), none⟩))), ((true && !((L.take i).any (fun p => o.ok2 p (tget R j) == 3))), .val (.pointer (some ⟨(Bf19 i), (Pf20 i), none⟩))), ((true && !((L.take i).any (fun p => o.ok2 p (tget R j) == 3))), .val (.agg #[.int .i64 ((tget L i).f), .slice ((A21 i)) ((tget L i).args.length) ((C22 i))])), ((true && !((L.take i).any (fun p => o.ok2 p (tget R j) == 3))), .val (.pointer (some ⟨(Bf7 j), (Pf8 j), none⟩))), ((true && !((L.take i).any (fun p => o.ok2 p (tget R j) == 3))), .val (.pointer (some ⟨(Bf7 j), (Pf8 j), none⟩))), ((true && !((L.take i).any (fun p => o.ok2 p (tget R j) == 3))), .val (.agg #[.int .i64 ((tget R j).f), .slice ((A9 j)) ((tget R j).args.length) ((C10 j))])), ((true && !((L.take i).any (fun p => o.ok2 p (tget R j) == 3))), .val (.int .i64 ((o.ok2 (tget L i) (tget R j))))), ((true && !((L.take i).any (fun p => o.ok2 p (tget R j) == 3))), .val (.bool ((((o.ok2 (tget L i) (tget R j)) : Int) == (3 : Int))))), (true, .val (.bool ((((L.take i).any (fun p => o.ok2 p (tget R j) == 3)) || (((o.ok2 (tget L i) (tget R j)) : Int) == (3 : Int)))))), (true, .val undef)] [(0, .slice r1 L.length c1), (1, .slice r2 R.length c2), (2, .pointer (some ⟨gb, 0, none⟩)), (7, .pointer (some ⟨(Bf7 j), (Pf8 j), none⟩)), (10, .pointer (some ⟨(Bf19 i), (Pf20 i), none⟩)), (11, .slice r2 R.length c2), (12, .int .i64 (((R.length : Nat) : Int))), (13, .int .i64 (((j : Nat) : Int))), (14, .bool ((decide ((((j : Nat) : Int) : Int) < (((R.length : Nat) : Int) : Int))))), (17, .slice r1 L.length c1), (18, .int .i64 (((L.length : Nat) : Int))), (19, .int .i64 (((i : Nat) : Int))), (20, .bool ((decide ((((i : Nat) : Int) : Int) < (((L.length : Nat) : Int) : Int)))))] [12] [some (true, .bool ((((L.take i).any (fun p => o.ok2 p (tget R j) == 3)) || (o.ok2 (tget L i) (tget R j) == 3))))] (fun _ _ => True) ((fun _ _ _ _ _ => trivial)) (by decide) ⟨rfl, rfl, rfl, rfl, rfl, rfl, rfl, rfl, rfl, rfl, rfl, rfl, rfl, trivial⟩ (by kernel_rfl) (by kernel_rfl) (by kernel_rfl) (by kernel_rfl) trivial ?_ ?_
     ·refine ⟨.inl ⟨rfl, true, .none rfl, (fun gg b h => by cases h), fun h w => optUndef h, fun zβ za zw zc => ?_⟩, ?_⟩
      ·exact wp_move rfl ((evt za 8).trans (zc.old 8 _ rfl (by kernel_rfl))) ⟨_, rfl, Below.refl _ _, optDef zβ rfl⟩
      refine ⟨.inl ⟨rfl, true, .none rfl, (fun gg b h => by cases h), fun h w => optUndef h, fun zβ za zw zc => ?_⟩, ?_⟩
      ·exact wp_move rfl ((evt za 23).trans (optSVal (zc.dep 0 23 (by kernel_rfl) (by decide)) rfl rfl)) ⟨_, rfl, Below.refl _ _, optDef zβ rfl⟩
      refine ⟨.inl ⟨rfl, (true && !((L.take i).any (fun p => o.ok2 p (tget R j) == 3))), .no (c := ((L.take i).any (fun p => o.ok2 p (tget R j) == 3))) (d := true) rfl (fun v w h => h), (fun gg b h => by cases h; rfl), fun h w => optUndef h, fun zβ za zw zc => ?_⟩, ?_⟩
      ·exact ld_64 rfl (zc.kn.ev rfl) (bkeeps (Chg.toBelow zc.chg) _ _ ((hB15.cell 0).trans rfl)) ⟨_, rfl, Below.refl _ _, optDef zβ rfl⟩
      refine ⟨.inl ⟨rfl, (true && !((L.take i).any (fun p => o.ok2 p (tget R j) == 3))), .no (c := ((L.take i).any (fun p => o.ok2 p (tget R j) == 3))) (d := true) rfl (fun v w h => h), (fun gg b h => by cases h; rfl), fun h w => optUndef h, fun zβ za zw zc => ?_⟩, ?_⟩
      ·exact wp_move rfl (zc.kn.ev rfl) ⟨_, rfl, Below.refl _ _, optDef zβ rfl⟩
      refine ⟨.inl ⟨rfl, (true && !((L.take i).any (fun p => o.ok2 p (tget R j) == 3))), .no (c := ((L.take i).any (fun p => o.ok2 p (tget R j) == 3))) (d := true) rfl (fun v w h => h), (fun gg b h => by cases h; rfl), fun h w => optUndef h, fun zβ za zw zc => ?_⟩, ?_⟩
      ·exact nilCheck_ rfl ((evt za 26).trans (optSVal (zc.dep 3 26 (by kernel_rfl) (by decide)) rfl zβ)) ⟨_, rfl, Below.refl _ _, optDef zβ rfl⟩
      refine ⟨.inl ⟨rfl, (true && !((L.take i).any (fun p => o.ok2 p (tget R j) == 3))), .no (c := ((L.take i).any (fun p => o.ok2 p (tget R j) == 3))) (d := true) rfl (fun v w h => h), (fun gg b h => by cases h; rfl), fun h w => optUndef h, fun zβ za zw zc => ?_⟩, ?_⟩
      ·exact ld_34 rfl ((evt za 27).trans (optSVal (zc.dep 4 27 (by kernel_rfl) (by decide)) rfl zβ)) (bkeeps (Chg.toBelow zc.chg) _ _ (bkeeps (bstep hw hb14) _ _ (hc24 i (by first | omega | (have zz := zβ; simp only [Bool.and_eq_true, Bool.or_eq_true, Bool.true_and, Bool.not_eq_true', Bool.or_eq_false_iff, Bool.and_eq_false_iff, beq_eq_false_iff_ne, ne_eq, beq_iff_eq, decide_eq_true_eq, decide_eq_false_iff_not, bne_iff_ne, bne_eq_false_iff_eq] at zz; omega))).2.1)) (bkeeps (Chg.toBelow zc.chg) _ _ (bkeeps (bstep hw hb14) _ _ (hc24 i (by first | omega | (have zz := zβ; simp only [Bool.and_eq_true, Bool.or_eq_true, Bool.true_and, Bool.not_eq_true', Bool.or_eq_false_iff, Bool.and_eq_false_iff, beq_eq_false_iff_ne, ne_eq, beq_iff_eq, decide_eq_true_eq, decide_eq_false_iff_not, bne_iff_ne, bne_eq_false_iff_eq] at zz; omega))).2.2.1)) ⟨_, rfl, Below.refl _ _, optDef zβ rfl⟩
      refine ⟨.inl ⟨rfl, (true && !((L.take i).any (fun p => o.ok2 p (tget R j) == 3))), .no (c := ((L.take i).any (fun p => o.ok2 p (tget R j) == 3))) (d := true) rfl (fun v w h => h), (fun gg b h => by cases h; rfl), fun h w => optUndef h, fun zβ za zw zc => ?_⟩, ?_⟩
      ·exact wp_move rfl (zc.kn.ev rfl) ⟨_, rfl, Below.refl _ _, optDef zβ rfl⟩
      refine ⟨.inl ⟨rfl, (true && !((L.take i).any (fun p => o.ok2 p (tget R j) == 3))), .no (c := ((L.take i).any (fun p => o.ok2 p (tget R j) == 3))) (d := true) rfl (fun v w h => h), (fun gg b h => by cases h; rfl), fun h w => optUndef h, fun zβ za zw zc => ?_⟩, ?_⟩
      ·exact nilCheck_ rfl ((evt za 29).trans (optSVal (zc.dep 6 29 (by kernel_rfl) (by decide)) rfl zβ)) ⟨_, rfl, Below.refl _ _, optDef zβ rfl⟩
      refine ⟨.inl ⟨rfl, (true && !((L.take i).any (fun p => o.ok2 p (tget R j) == 3))), .no (c := ((L.take i).any (fun p => o.ok2 p (tget R j) == 3))) (d := true) rfl (fun v w h => h), (fun gg b h => by cases h; rfl), fun h w => optUndef h, fun zβ za zw zc => ?_⟩, ?_⟩
      ·exact ld_34 rfl ((evt za 30).trans (optSVal (zc.dep 7 30 (by kernel_rfl) (by decide)) rfl zβ)) (bkeeps (Chg.toBelow zc.chg) _ _ (bkeeps (bstep hw hb14) _ _ (hc12 j (by first | omega | (have zz := zβ; simp only [Bool.and_eq_true, Bool.or_eq_true, Bool.true_and, Bool.not_eq_true', Bool.or_eq_false_iff, Bool.and_eq_false_iff, beq_eq_false_iff_ne, ne_eq, beq_iff_eq, decide_eq_true_eq, decide_eq_false_iff_not, bne_iff_ne, bne_eq_false_iff_eq] at zz; omega))).2.1)) (bkeeps (Chg.toBelow zc.chg) _ _ (bkeeps (bstep hw hb14) _ _ (hc12 j (by first | omega | (have zz := zβ; simp only [Bool.and_eq_true, Bool.or_eq_true, Bool.true_and, Bool.not_eq_true', Bool.or_eq_false_iff, Bool.and_eq_false_iff, beq_eq_false_iff_ne, ne_eq, beq_iff_eq, decide_eq_true_eq, decide_eq_false_iff_not, bne_iff_ne, bne_eq_false_iff_eq] at zz; omega))).2.2.1)) ⟨_, rfl, Below.refl _ _, optDef zβ rfl⟩
      refine ⟨.inl ⟨rfl, (true && !((L.take i).any (fun p => o.ok2 p (tget R j) == 3))), .no (c := ((L.take i).any (fun p => o.ok2 p (tget R j) == 3))) (d := true) rfl (fun v w h => h), (fun gg b h => by cases h; rfl), fun h w => optUndef h, fun zβ za zw zc => ?_⟩, ?_⟩
      ·exact wp_callv (by kernel_rfl) rfl ((evt za 25).trans (optSVal (zc.dep 2 25 (by kernel_rfl) (by decide)) rfl zβ)) (hv2 ((evt za 28).trans (optSVal (zc.dep 5 28 (by kernel_rfl) (by decide)) rfl zβ)) ((evt za 31).trans (optSVal (zc.dep 8 31 (by kernel_rfl) (by decide)) rfl zβ))) (oknows1_any o (tget L i) (tget R j) _ go _ _ p1 p2 k1 k2 (hz1 _ (tget_mem (by omega))) (hz2 _ (tget_mem (by omega))) (hB.below (bstep hw (bstep hb14 (Chg.toBelow zc.chg)))) (ho.below (bstep hw (bstep hb14 (Chg.toBelow zc.chg)))) (IsT.below (Chg.toBelow zc.chg) (IsT.below (bstep hw hb14) (hc24 i (by first | omega | (have zz := zβ; simp only [Bool.and_eq_true, Bool.or_eq_true, Bool.true_and, Bool.not_eq_true', Bool.or_eq_false_iff, Bool.and_eq_false_iff, beq_eq_false_iff_ne, ne_eq, beq_iff_eq, decide_eq_true_eq, decide_eq_false_iff_not, bne_iff_ne, bne_eq_false_iff_eq] at zz; omega))).2.2.2)) (IsT.below (Chg.toBelow zc.chg) (IsT.below (bstep hw hb14) (hc12 j (by first | omega | (have zz := zβ; simp only [Bool.and_eq_true, Bool.or_eq_true, Bool.true_and, Bool.not_eq_true', Bool.or_eq_false_iff, Bool.and_eq_false_iff, beq_eq_false_iff_ne, ne_eq, beq_iff_eq, decide_eq_true_eq, decide_eq_false_iff_not, bne_iff_ne, bne_eq_false_iff_eq] at zz; omega))).2.2.2))) (fun v w' h => ⟨v, rfl, h.2, optDef zβ h.1⟩)
      refine ⟨.inl ⟨rfl, (true && !((L.take i).any (fun p => o.ok2 p (tget R j) == 3))), .no (c := ((L.take i).any (fun p => o.ok2 p (tget R j) == 3))) (d := true) rfl (fun v w h => h), (fun gg b h => by cases h; rfl), fun h w => optUndef h, fun zβ za zw zc => ?_⟩, ?_⟩
      ·exact eql_60 rfl ((evt za 32).trans (optSVal (zc.dep 9 32 (by kernel_rfl) (by decide)) rfl zβ)) (zc.kn.ev rfl) ⟨_, rfl, Below.refl _ _, optDef zβ rfl⟩
      refine ⟨.inl ⟨rfl, true, .none rfl, (fun gg b h => by cases h), fun h w => optUndef h, fun zβ za zw zc => ?_⟩, ?_⟩
      ·exact wp_or rfl ((evt za 24).trans (optSVal (zc.dep 1 24 (by kernel_rfl) (by decide)) rfl rfl)) (fun hp => ((evt za 33).trans (optSVal (zc.dep 10 33 (by kernel_rfl) (by decide)) rfl (bMkN zβ hp)))) ⟨_, rfl, Below.refl _ _, optDef zβ rfl⟩
      refine ⟨.inr ⟨0, rfl, by kernel_rfl, true, .none rfl, (fun gg b h => by cases h), (fun h => (nomatch h)), fun zβ za zw zvals zc => ?_⟩, ?_⟩
      ·obtain rfl := vlen0 zc.len
       have zn := zc.now
       exact wp_assign rfl (((evt za 34).trans (optSVal (zc.dep 11 34 (by kernel_rfl) (by decide)) rfl rfl))) ⟨_, rfl, .ofBelow (Below.refl _ _), trivial, cvIs rfl⟩
      exact trivial
     ·intro za w26 zvals zh zl hG27 hc28 zu zw zk
      obtain ⟨z0, rfl⟩ := vlen1 zl
      have zh := zh.cons (d := 8) (v := .bool ((((L.take i).any (fun p => o.ok2 p (tget R j) == 3)) || (o.ok2 (tget L i) (tget R j) == 3)))) (zk 0 12 8 _ _ rfl (by kernel_rfl) rfl rfl)
      have hb29 := Chg.toBelow hc28
      clear zu zw zk
      refine WE.go zh ?_
      refine WE.blockNormal (WE.next (WC.region ?_))
      refine WL.val (.int .i64 ((((i + 1) : Nat) : Int))) rfl rfl rfl (fun za zC zh zk => addb_3 rfl (zh.ev rfl) (zh.ev rfl) (wrap_eq (by omega) (by omega) (by omega)) zk) ?_
      refine WL.mv rfl rfl rfl rfl rfl (WL.nil ?_)
      have he30 : (((L.take i).any (fun p => o.ok2 p (tget R j) == 3)) || (o.ok2 (tget L i) (tget R j) == 3)) = ((L.take (i + 1)).any (fun p => o.ok2 p (tget R j) == 3)) := by rw [← take_snoc (d := (.mk 0 [])) (show i < L.length by omega), List.any_append]; simp [tget]
      rw [he30]
      refine WE.round (i + 1) ⟨rfl, rfl, rfl, rfl, rfl, rfl, rfl, rfl, rfl, rfl, rfl, rfl, trivial⟩ ?_ ?_
      ·have hb31 : Below w.heap.size w w26 := (bstep hb14 hb29)
       have hB32 := hB15.below hb29
       exact ⟨by omega, hb31, hB32⟩
      ·omega
    ·have h16 : ¬ ((((i : Nat) : Int) : Int) < (((L.length : Nat) : Int) : Int)) := by simpa using h16
     refine WC.exit (WE.thenExit (WE.thenExit (WE.blockIs rfl (WE.next (WC.seq (WC.region (WL.mv rfl rfl rfl rfl rfl ?_)))))))
     refine WL.val (.bool ((!((L.take i).any (fun p => o.ok2 p (tget R j) == 3))))) rfl rfl rfl (fun za zC zh zk => wp_not rfl (zh.ev rfl) zk) ?_
     refine WL.nil (WE.next ?_)
     refine WC.cond rfl (fun h33 => ?_) (fun h33 => ?_)
     ·have h33 : ¬ (((L.take i).any (fun p => o.ok2 p (tget R j) == 3)) = true) := by simpa using h33
      refine WC.seq (WC.region (WL.asg rfl rfl rfl rfl rfl (WL.nil (WE.next (WC.ret (WE.blockRet (WE.thenRet (WE.thenRet (WE.blockRet (WE.thenRet (WE.ret1 rfl rfl ?_)))))))))))
      exact ⟨_, rfl, congrArg Value.bool (by symm; rw [Bool.eq_false_iff]; intro e; unfold allAb at e; rw [List.all_eq_true] at e; have z := e R[j] (List.getElem_mem (by omega)); have z2 := h33; rw [List.take_of_length_le (by omega), tget_lt (by omega)] at z2; exact absurd z (by simpa using z2)), hb14⟩
     ·have h33 : ¬ (¬ (((L.take i).any (fun p => o.ok2 p (tget R j) == 3)) = true)) := by simpa using h33
      refine WC.skip (WE.blockNormal (WE.next (WC.region ?_)))
      refine WL.val (.int .i64 ((((j + 1) : Nat) : Int))) rfl rfl rfl (fun za zC zh zk => addb_3 rfl (zh.ev rfl) (zh.ev rfl) (wrap_eq (by omega) (by omega) (by omega)) zk) ?_
      refine WL.mv rfl rfl rfl rfl rfl (WL.nil ?_)
      refine WE.round (j + 1) ⟨rfl, rfl, rfl, rfl, rfl, rfl, trivial⟩ ?_ ?_
      ·exact ⟨by omega, fun q hq => by
         by_cases e : q = j
         ·rw [e]; have z := h33; rw [List.take_of_length_le (by omega)] at z; simpa using z
         ·exact hE q (by omega), hb14, hB15⟩
      ·omega
  ·have h4 : ¬ ((((j : Nat) : Int) : Int) < (((R.length : Nat) : Int) : Int)) := by simpa using h4
   refine WC.exit (WE.thenExit (WE.thenExit (WE.blockIs rfl (WE.next (WC.seq (WC.region (WL.asg rfl rfl rfl rfl rfl (WL.nil (WE.next (WC.ret (WE.ret1 rfl rfl ?_)))))))))))
   exact ⟨_, rfl, congrArg Value.bool (by symm; unfold allAb; rw [List.all_eq_true]; intro q hq; obtain ⟨k, hk, rfl⟩ := List.getElem_of_mem hq; have z := hE k (by omega); rwa [tget_lt hk] at z), hb2⟩
set_option maxRecDepth 100000 in
theorem multiT_any (o : Od) (go : Nat) (p1 p2 : Option Addr) (k1 k2 : Nat) (a b : List T) (w : World) (xa xb : Option Addr) (ca cb : Nat) (ha : IsTs w a xa 0) (hb : IsTs w b xb 0) (hB : Blk w go 24 #[.bool o.lpo, .slice p1 o.prec.length k1, .slice p2 o.weights.length k2, .int .i64 o.var]) (ho : IsOd w o (.agg #[.bool o.lpo, .slice p1 o.prec.length k1, .slice p2 o.weights.length k2, .int .i64 o.var])) (hza : ∀ x ∈ a, x.size ≤ 4294967296) (hzb : ∀ x ∈ b, x.size ≤ 4294967296) (hla : a.length ≤ 1048576) (hlb : b.length ≤ 1048576) :
  Calls Try.prog 44 #[.slice xa a.length ca, .slice xb b.length cb, .func (.func 45) #[] #[.pointer (some ⟨go, 0, none⟩)]] w (Ret fun v' w' => v' = .int .i64 (multiP o.ok2 a b) ∧ Below w.heap.size w w') := by
 refine Calls.walk (l := [.slice xa a.length ca, .slice xb b.length cb, .func (.func 45) #[] #[.pointer (some ⟨go, 0, none⟩)]]) Try.func44 rfl (by kernel_rfl) ?_
 refine WC.sub (K' := [(0, .slice xa a.length ca), (1, .slice xb b.length cb), (2, .func (.func 45) #[] #[.pointer (some ⟨go, 0, none⟩)])]) ⟨rfl, rfl, rfl, trivial⟩ ?_
 refine WC.seq (WC.region ?_)
 refine WL.step (post := NewBlk w 64 #[.func (.func 45) #[] #[.pointer (some ⟨go, 0, none⟩)]]) rfl rfl rfl (fun za zC zh zk => box_64 rfl (zh.ev rfl) (zk _ _ (newBlk _ _ _))) ?_
 rintro _ w1 ⟨g2, rfl, hg3, hB4, hb5, hz6⟩
 have hl7 : w.heap.size ≤ g2 := by omega
 refine WL.asg rfl rfl rfl rfl rfl (WL.nil (WE.next (WC.scope rfl (WC.seq ?_))))
 refine WC.twoMk [(true, .slice xa a.length ca), (true, .int .i64 (((a.length : Nat) : Int))), (true, undef), (true, .slice xb b.length cb), (true, .int .i64 (((b.length : Nat) : Int))), (true, undef), (true, undef), (true, undef)] [(0, .slice xa a.length ca), (1, .slice xb b.length cb), (2, .func (.func 45) #[] #[.pointer (some ⟨go, 0, none⟩)]), (5, .pointer (some ⟨g2, 0, none⟩)), (6, .int .i64 0)] (n1 := 0) (c1 := a.length) (t1 := 77) (z1 := (madeCells (Value.cells (.pointer none)) a.length)) (n2 := b.length) (c2 := b.length) (t2 := 77) (z2 := (madeCells (Value.cells (.pointer none)) b.length)) 2 5 6 7 7 8 (by decide) (by kernel_rfl) rfl rfl ⟨rfl, rfl, rfl, rfl, rfl, trivial⟩ (by kernel_rfl) (by kernel_rfl) (by kernel_rfl) ?_ ?_
 ·refine ⟨.inl ⟨by decide, rfl, fun za zw zc => ?_⟩, ?_⟩
  ·exact wp_move rfl (zc.kn.ev rfl) ⟨_, rfl, rfl, optDef rfl rfl⟩
  refine ⟨.inl ⟨by decide, rfl, fun za zw zc => ?_⟩, ?_⟩
  ·exact len_32 rfl ((evt za 13).trans (valVal (zc.dep 0 13 (by kernel_rfl) (by decide)) rfl rfl)) ⟨_, rfl, rfl, optDef rfl rfl⟩
  refine ⟨.inr (.inl ⟨rfl, rfl, fun za zw zc => ?_⟩), ?_⟩
  ·exact wp_mkR (n := 0) (c := a.length) (z := .pointer none) (bytes := 8) Try.underlying76 (by kernel_rfl) (by decide) rfl (zc.kn.ev rfl) ((evt za 14).trans (valVal (zc.dep 1 14 (by kernel_rfl) (by decide)) rfl rfl)) (by omega) (by omega) ⟨rfl, rfl⟩
  refine ⟨.inl ⟨by decide, rfl, fun za zw zc => ?_⟩, ?_⟩
  ·exact wp_move rfl (zc.kn.ev rfl) ⟨_, rfl, rfl, optDef rfl rfl⟩
  refine ⟨.inl ⟨by decide, rfl, fun za zw zc => ?_⟩, ?_⟩
  ·exact len_32 rfl ((evt za 16).trans (valVal (zc.dep 3 16 (by kernel_rfl) (by decide)) rfl rfl)) ⟨_, rfl, rfl, optDef rfl rfl⟩
  refine ⟨.inr (.inr (.inl ⟨rfl, rfl, fun za zw zc => ?_⟩)), ?_⟩
  ·exact wp_mkR (n := b.length) (c := b.length) (z := .pointer none) (bytes := 8) Try.underlying76 (by kernel_rfl) (by decide) rfl ((evt za 17).trans (valVal (zc.dep 4 17 (by kernel_rfl) (by decide)) rfl rfl)) ((evt za 17).trans (valVal (zc.dep 4 17 (by kernel_rfl) (by decide)) rfl rfl)) (by omega) (by omega) ⟨rfl, rfl⟩
  refine ⟨.inr (.inr (.inr (.inl ⟨rfl, rfl, 15, by kernel_rfl, rfl⟩))), ?_⟩
  refine ⟨.inr (.inr (.inr (.inr ⟨rfl, rfl, 18, by kernel_rfl, rfl⟩))), ?_⟩
  exact trivial
 ·intro za w8 g9 g10 zh hb11 hg12 hg13 hne14 hB15 hB16 hv17 hv18 zu
  have hl19 : g2 < g9 := by have z1 := hB4.lt; omega
  have hl20 : w.heap.size ≤ g9 := by have z2 := (hb5).size; omega
  have hl21 : g2 < g10 := by have z1 := hB4.lt; omega
  have hl22 : w.heap.size ≤ g10 := by have z2 := (hb5).size; omega
  have zh := zh.cons (d := 7) hv17
  have zh := zh.cons (d := 8) hv18
  have hL23 : LRow (AtT w) w8 77 g9 a.length 0 [] := LRow.start hB15 (made_size _ _)
  have hL24 : LRow (AtT w) w8 77 g10 b.length 0 [] := LRow.start hB16 (made_size _ _)
  clear zu
  refine WE.go zh ?_
  refine WE.next (WC.seq (WC.seq (WC.region (WL.mv rfl rfl rfl rfl rfl ?_))))
  refine WL.val (.int .i64 (((b.length : Nat) : Int))) rfl rfl rfl (fun za zC zh zk => len_32 rfl (zh.ev rfl) zk) ?_
  refine WL.mv rfl rfl rfl rfl rfl (WL.nil (WE.next (WC.block ?_)))
  refine WC.loop (X := Nat) (fun i => b.length - i) (fun i => [(0, .slice xa a.length ca), (1, .slice xb b.length cb), (2, .func (.func 45) #[] #[.pointer (some ⟨go, 0, none⟩)]), (5, .pointer (some ⟨g2, 0, none⟩)), (6, .int .i64 0), (7, .slice ((some ⟨g9, 0, none⟩)) 0 a.length), (8, .slice ((some ⟨g10, 0, none⟩)) b.length b.length), (20, .int .i64 (((b.length : Nat) : Int))), (21, .int .i64 (((i : Nat) : Int)))]) (fun i w25 => i ≤ b.length ∧ Below w.heap.size w w25 ∧ Blk w25 g2 64 #[.func (.func 45) #[] #[.pointer (some ⟨go, 0, none⟩)]] ∧ LRow (AtT w) (w25) 77 g9 a.length (([] : List T)).length (([] : List T)) ∧ LRow (AtT w) (w25) 77 g10 b.length i (b.take i)) 0 ⟨rfl, rfl, rfl, rfl, rfl, rfl, rfl, rfl, rfl, trivial⟩ ?_ ?_
  ·have hb26 : Below w.heap.size w w8 := (bstep hb5 hb11)
   have hB27 := hB4.below hb11
   exact ⟨Nat.zero_le _, hb26, hB27, hL23, hL24⟩
  ·rintro i w25 ⟨hi, hb28, hB29, ho30, ho31⟩
   refine WC.seq (WC.region ?_)
   refine WL.val (.bool ((decide ((((i : Nat) : Int) : Int) < (((b.length : Nat) : Int) : Int))))) rfl rfl rfl (fun za zC zh zk => lss_3 rfl (zh.ev rfl) (zh.ev rfl) zk) ?_
   refine WL.nil (WE.next (WC.seq ?_))
   refine WC.cond rfl (fun h32 => ?_) (fun h32 => ?_)
   ·have h32 : (((i : Nat) : Int) : Int) < (((b.length : Nat) : Int) : Int) := by simpa using h32
    refine WC.skip (WE.next (WC.seq (WC.block (WC.seq (WC.region (WL.mv rfl rfl rfl rfl rfl (WL.asg rfl rfl rfl rfl rfl (WL.nil (WE.next (WC.region (WL.mv rfl rfl rfl rfl rfl (WL.mv rfl rfl rfl rfl rfl (WL.mv rfl rfl rfl rfl rfl (WL.mv rfl rfl rfl rfl rfl ?_))))))))))))))
    obtain ⟨b33, o34, A35, C36, ha37, hc38⟩ := IsTs.open hb
    refine WL.val _ rfl rfl rfl (fun za zC zh zk => ix_32 (k := i) rfl (zh.ev rfl) (ha37 i (by first | omega | (simp; omega))) (zh.ev rfl) (by first | omega | (simp; omega)) zk) ?_
    refine WL.val _ rfl rfl rfl (fun za zC zh zk => ix_76 (k := i) rfl (zh.ev rfl) rfl (zh.ev rfl) (by first | omega | (simp; omega)) zk) ?_
    obtain ⟨zcs, hx43, hx43z⟩ := ho31.cells (by omega)
    refine WL.step (post := fun _ w' => Upd g10 w25 w' ∧ LRow (AtT w) w' 77 g10 b.length (i + 1) (b.take (i + 1))) rfl rfl rfl (fun za zC zh zk => st_77 rfl (zh.ev rfl) (zh.ev rfl) hx43 hx43z (fun v => zk v _ ⟨Upd.at_ _ _ _ _, by rw [← take_snoc (d := (.mk 0 [])) (show i < b.length by omega)]; exact LRow.storeAt (by omega) ho31 (by omega) (show AtT w _ _ _ from ⟨_, _, hc38 i (by omega)⟩)⟩)) ?_
    rintro v42 w39 ⟨hu40, hL41⟩
    have hb44 := upd_below hb28 hu40 (by omega)
    have hB45 := upd_blk hB29 hu40 (by omega)
    have ho46 := ho30.upd hu40 (by omega)
    refine WL.nil (WE.blockNormal (WE.next (WC.region ?_)))
    refine WL.val (.int .i64 ((((i + 1) : Nat) : Int))) rfl rfl rfl (fun za zC zh zk => addb_3 rfl (zh.ev rfl) (zh.ev rfl) (wrap_eq (by omega) (by omega) (by omega)) zk) ?_
    refine WL.mv rfl rfl rfl rfl rfl (WL.nil ?_)
    refine WE.round (i + 1) ⟨rfl, rfl, rfl, rfl, rfl, rfl, rfl, rfl, rfl, trivial⟩ ?_ ?_
    ·exact ⟨by omega, hb44, hB45, ho46, hL41⟩
    ·omega
   ·have h32 : ¬ ((((i : Nat) : Int) : Int) < (((b.length : Nat) : Int) : Int)) := by simpa using h32
    refine WC.exit (WE.thenExit (WE.thenExit (WE.blockIs rfl (WE.next (WC.seq (WC.label (WE.next (WC.seq (WC.seq (WC.region (WL.mv rfl rfl rfl rfl rfl ?_)))))))))))
    refine WL.val (.int .i64 (((a.length : Nat) : Int))) rfl rfl rfl (fun za zC zh zk => len_32 rfl (zh.ev rfl) zk) ?_
    refine WL.mv rfl rfl rfl rfl rfl (WL.nil (WE.next (WC.block ?_)))
    have hib : i = b.length := by omega
    have hR47 : PRow (AtT w) w25 (fun b => w.heap.size ≤ b ∧ b ≠ g9) (some ⟨g10, 0, none⟩) b.length b := by
     have z := (ho31).prow
     rw [hib, List.take_of_length_le (Nat.le_refl _)] at z
     exact z.mono (fun q e _ => by subst e; exact ⟨by omega, fun e2 => hne14 e2.symm⟩)
    refine WC.loop (X := Nat × List T × Option Addr × Nat × List T) (fun x => a.length - x.1) (fun x => [(0, .slice xa a.length ca), (1, .slice xb b.length cb), (2, .func (.func 45) #[] #[.pointer (some ⟨go, 0, none⟩)]), (5, .pointer (some ⟨g2, 0, none⟩)), (6, .int .i64 0), (7, .slice ((some ⟨g9, 0, none⟩)) x.2.1.length a.length), (8, .slice x.2.2.1 x.2.2.2.2.length x.2.2.2.1), (20, .int .i64 (((b.length : Nat) : Int))), (21, .int .i64 (((i : Nat) : Int))), (22, .bool ((decide ((((i : Nat) : Int) : Int) < (((b.length : Nat) : Int) : Int))))), (32, .int .i64 (((a.length : Nat) : Int))), (33, .int .i64 (((x.1 : Nat) : Int)))]) (fun x w48 => x.1 ≤ a.length ∧ multiLR o.ok2 a b = (x.2.1 ++ (multiLR o.ok2 (a.drop x.1) x.2.2.2.2).1, (multiLR o.ok2 (a.drop x.1) x.2.2.2.2).2) ∧ x.2.1.length ≤ x.1 ∧ x.2.2.2.2.length ≤ x.2.2.2.1 ∧ x.2.2.2.2.length ≤ b.length ∧ (∀ y ∈ x.2.1, y ∈ a) ∧ (∀ y ∈ x.2.2.2.2, y ∈ b) ∧ Below w.heap.size w w48 ∧ Blk w48 g2 64 #[.func (.func 45) #[] #[.pointer (some ⟨go, 0, none⟩)]] ∧ LRow (AtT w) (w48) 77 g9 a.length (x.2.1).length x.2.1 ∧ PRow (AtT w) (w48) (fun b => w.heap.size ≤ b ∧ b ≠ g9) x.2.2.1 (x.2.2.2.2).length x.2.2.2.2) ((0, [], some ⟨g10, 0, none⟩, b.length, b)) ⟨rfl, rfl, rfl, rfl, rfl, rfl, rfl, rfl, rfl, rfl, rfl, rfl, trivial⟩ ?_ ?_
    ·exact ⟨Nat.zero_le _, by simp, Nat.le_refl _, Nat.le_refl _, Nat.le_refl _, (fun y hy => (nomatch hy)), fun y hy => hy, hb28, hB29, ho30, hR47⟩
    ·rintro x w48 ⟨hi, hM, hLl, hRc, hRb, hLm, hRm, hb49, hB50, ho51, ho52⟩
     refine WC.seq (WC.region ?_)
     refine WL.val (.bool ((decide ((((x.1 : Nat) : Int) : Int) < (((a.length : Nat) : Int) : Int))))) rfl rfl rfl (fun za zC zh zk => lss_3 rfl (zh.ev rfl) (zh.ev rfl) zk) ?_
     refine WL.nil (WE.next (WC.seq ?_))
     refine WC.cond rfl (fun h53 => ?_) (fun h53 => ?_)
     ·have h53 : (((x.1 : Nat) : Int) : Int) < (((a.length : Nat) : Int) : Int) := by simpa using h53
      refine WC.skip (WE.next (WC.seq (WC.block (WC.seq (WC.region (WL.mv rfl rfl rfl rfl rfl (WL.asg rfl rfl rfl rfl rfl (WL.nil (WE.next (WC.seq (WC.seq (WC.region (WL.mv rfl rfl rfl rfl rfl ?_)))))))))))))
      refine WL.val (.int .i64 (((x.2.2.2.2.length : Nat) : Int))) rfl rfl rfl (fun za zC zh zk => len_76 rfl (zh.ev rfl) zk) ?_
      refine WL.mv rfl rfl rfl rfl rfl (WL.nil (WE.next (WC.block ?_)))
      refine WC.loop (X := Nat) (fun j => x.2.2.2.2.length - j) (fun j => [(0, .slice xa a.length ca), (1, .slice xb b.length cb), (2, .func (.func 45) #[] #[.pointer (some ⟨go, 0, none⟩)]), (5, .pointer (some ⟨g2, 0, none⟩)), (6, .int .i64 0), (7, .slice ((some ⟨g9, 0, none⟩)) x.2.1.length a.length), (8, .slice x.2.2.1 x.2.2.2.2.length x.2.2.2.1), (10, .int .i64 (((x.1 : Nat) : Int))), (20, .int .i64 (((b.length : Nat) : Int))), (21, .int .i64 (((i : Nat) : Int))), (22, .bool ((decide ((((i : Nat) : Int) : Int) < (((b.length : Nat) : Int) : Int))))), (32, .int .i64 (((a.length : Nat) : Int))), (33, .int .i64 (((x.1 : Nat) : Int))), (34, .bool ((decide ((((x.1 : Nat) : Int) : Int) < (((a.length : Nat) : Int) : Int))))), (37, .int .i64 (((x.2.2.2.2.length : Nat) : Int))), (38, .int .i64 (((j : Nat) : Int)))]) (fun j w54 => j ≤ x.2.2.2.2.length ∧ (∀ q, q < j → ¬ o.ok2 (tget a x.1) (tget x.2.2.2.2 q) = 2) ∧ Below w.heap.size w w54 ∧ Blk w54 g2 64 #[.func (.func 45) #[] #[.pointer (some ⟨go, 0, none⟩)]] ∧ LRow (AtT w) (w54) 77 g9 a.length (x.2.1).length x.2.1 ∧ PRow (AtT w) (w54) (fun b => w.heap.size ≤ b ∧ b ≠ g9) x.2.2.1 (x.2.2.2.2).length x.2.2.2.2) 0 ⟨rfl, rfl, rfl, rfl, rfl, rfl, rfl, rfl, rfl, rfl, rfl, rfl, rfl, rfl, rfl, rfl, trivial⟩ ?_ ?_
      ·exact ⟨Nat.zero_le _, fun q h => absurd h (Nat.not_lt_zero q), hb49, hB50, ho51, ho52⟩
      ·rintro j w54 ⟨hj, hN, hb55, hB56, ho57, ho58⟩
       refine WC.seq (WC.region ?_)
       refine WL.val (.bool ((decide ((((j : Nat) : Int) : Int) < (((x.2.2.2.2.length : Nat) : Int) : Int))))) rfl rfl rfl (fun za zC zh zk => lss_3 rfl (zh.ev rfl) (zh.ev rfl) zk) ?_
       refine WL.nil (WE.next (WC.seq ?_))
       refine WC.cond rfl (fun h59 => ?_) (fun h59 => ?_)
       ·have h59 : (((j : Nat) : Int) : Int) < (((x.2.2.2.2.length : Nat) : Int) : Int) := by simpa using h59
        refine WC.skip (WE.next (WC.seq (WC.block (WC.seq (WC.region (WL.mv rfl rfl rfl rfl rfl (WL.asg rfl rfl rfl rfl rfl (WL.nil (WE.next (WC.seq ?_))))))))))
        obtain ⟨b60, o61, A62, C63, ha64, hc65⟩ := IsTs.open ha
        obtain ⟨b66, o67, Bf68, Pf69, A70, C71, ha72, hc73⟩ := PRow.openT ho58
        refine WC.opt [(true, .val (.func (.func 45) #[] #[.pointer (some ⟨go, 0, none⟩)])), (true, .val (.slice xa a.length ca)), (true, .val (.int .i64 (((x.1 : Nat) : Int)))), (true, .val (.pointer (some ⟨b60, o61 + x.1 * 2, none⟩))), (true, .val (.agg #[.int .i64 ((tget a x.1).f), .slice ((A62 x.1)) ((tget a x.1).args.length) ((C63 x.1))])), (true, .val (.slice x.2.2.1 x.2.2.2.2.length x.2.2.2.1)), (true, .val (.int .i64 (((j : Nat) : Int)))), (true, .val (.pointer (some ⟨b66, o67 + j, none⟩))), (true, .val (.pointer (some ⟨(Bf68 j), (Pf69 j), none⟩))), (true, .val (.pointer (some ⟨(Bf68 j), (Pf69 j), none⟩))), (true, .val (.agg #[.int .i64 ((tget x.2.2.2.2 j).f), .slice ((A70 j)) ((tget x.2.2.2.2 j).args.length) ((C71 j))])), (true, .val (.int .i64 ((o.ok2 (tget a x.1) (tget x.2.2.2.2 j))))), (true, .val (.bool ((((o.ok2 (tget a x.1) (tget x.2.2.2.2 j)) : Int) == (2 : Int)))))] [(0, .slice xa a.length ca), (1, .slice xb b.length cb), (2, .func (.func 45) #[] #[.pointer (some ⟨go, 0, none⟩)]), (5, .pointer (some ⟨g2, 0, none⟩)), (6, .int .i64 0), (7, .slice ((some ⟨g9, 0, none⟩)) x.2.1.length a.length), (8, .slice x.2.2.1 x.2.2.2.2.length x.2.2.2.1), (10, .int .i64 (((x.1 : Nat) : Int))), (11, .int .i64 (((j : Nat) : Int))), (20, .int .i64 (((b.length : Nat) : Int))), (21, .int .i64 (((i : Nat) : Int))), (22, .bool ((decide ((((i : Nat) : Int) : Int) < (((b.length : Nat) : Int) : Int))))), (32, .int .i64 (((a.length : Nat) : Int))), (33, .int .i64 (((x.1 : Nat) : Int))), (34, .bool ((decide ((((x.1 : Nat) : Int) : Int) < (((a.length : Nat) : Int) : Int))))), (37, .int .i64 (((x.2.2.2.2.length : Nat) : Int))), (38, .int .i64 (((j : Nat) : Int))), (39, .bool ((decide ((((j : Nat) : Int) : Int) < (((x.2.2.2.2.length : Nat) : Int) : Int)))))] ⟨rfl, rfl, rfl, rfl, rfl, rfl, rfl, rfl, rfl, rfl, rfl, rfl, rfl, rfl, rfl, rfl, rfl, rfl, trivial⟩ (by kernel_rfl) (by kernel_rfl) (by kernel_rfl) ?_ ?_
        ·refine ⟨⟨true, .none rfl, fun h w => optUndef h, fun zβ za zw zc => ?_⟩, ?_⟩
         ·exact ld_64 rfl (zc.kn.ev rfl) (bkeeps zc.below _ _ ((hB56.cell 0).trans rfl)) ⟨_, rfl, Below.refl _ _, optDef zβ rfl⟩
         refine ⟨⟨true, .none rfl, fun h w => optUndef h, fun zβ za zw zc => ?_⟩, ?_⟩
         ·exact wp_move rfl (zc.kn.ev rfl) ⟨_, rfl, Below.refl _ _, optDef zβ rfl⟩
         refine ⟨⟨true, .none rfl, fun h w => optUndef h, fun zβ za zw zc => ?_⟩, ?_⟩
         ·exact wp_move rfl (zc.kn.ev rfl) ⟨_, rfl, Below.refl _ _, optDef zβ rfl⟩
         refine ⟨⟨true, .none rfl, fun h w => optUndef h, fun zβ za zw zc => ?_⟩, ?_⟩
         ·exact ix_32 (k := x.1) rfl ((evt za 42).trans (optVal (zc.dep 1 42 (by kernel_rfl)) rfl rfl)) (ha64 x.1 (by first | omega | (simp; omega))) ((evt za 43).trans (optVal (zc.dep 2 43 (by kernel_rfl)) rfl rfl)) (by first | omega | (simp; omega)) ⟨_, rfl, Below.refl _ _, optDef zβ rfl⟩
         refine ⟨⟨true, .none rfl, fun h w => optUndef h, fun zβ za zw zc => ?_⟩, ?_⟩
         ·exact ld_34 rfl ((evt za 44).trans (optVal (zc.dep 3 44 (by kernel_rfl)) rfl rfl)) (bkeeps (bstep hb55 zc.below) _ _ (hc65 x.1 (by first | omega | (simp; omega))).1) (bkeeps (bstep hb55 zc.below) _ _ (hc65 x.1 (by first | omega | (simp; omega))).2.1) ⟨_, rfl, Below.refl _ _, optDef zβ rfl⟩
         refine ⟨⟨true, .none rfl, fun h w => optUndef h, fun zβ za zw zc => ?_⟩, ?_⟩
         ·exact wp_move rfl (zc.kn.ev rfl) ⟨_, rfl, Below.refl _ _, optDef zβ rfl⟩
         refine ⟨⟨true, .none rfl, fun h w => optUndef h, fun zβ za zw zc => ?_⟩, ?_⟩
         ·exact wp_move rfl (zc.kn.ev rfl) ⟨_, rfl, Below.refl _ _, optDef zβ rfl⟩
         refine ⟨⟨true, .none rfl, fun h w => optUndef h, fun zβ za zw zc => ?_⟩, ?_⟩
         ·exact ix_76 (k := j) rfl ((evt za 46).trans (optVal (zc.dep 5 46 (by kernel_rfl)) rfl rfl)) (ha72 j (by first | omega | (simp; omega))) ((evt za 47).trans (optVal (zc.dep 6 47 (by kernel_rfl)) rfl rfl)) (by first | omega | (simp; omega)) ⟨_, rfl, Below.refl _ _, optDef zβ rfl⟩
         refine ⟨⟨true, .none rfl, fun h w => optUndef h, fun zβ za zw zc => ?_⟩, ?_⟩
         ·exact ld_77 rfl ((evt za 48).trans (optVal (zc.dep 7 48 (by kernel_rfl)) rfl rfl)) (bkeeps zc.below _ _ (hc73 j (by first | omega | (simp; omega))).1) ⟨_, rfl, Below.refl _ _, optDef zβ rfl⟩
         refine ⟨⟨true, .none rfl, fun h w => optUndef h, fun zβ za zw zc => ?_⟩, ?_⟩
         ·exact nilCheck_ rfl ((evt za 49).trans (optVal (zc.dep 8 49 (by kernel_rfl)) rfl rfl)) ⟨_, rfl, Below.refl _ _, optDef zβ rfl⟩
         refine ⟨⟨true, .none rfl, fun h w => optUndef h, fun zβ za zw zc => ?_⟩, ?_⟩
         ·exact ld_34 rfl ((evt za 50).trans (optVal (zc.dep 9 50 (by kernel_rfl)) rfl rfl)) (bkeeps zc.below _ _ (bkeeps hb55 _ _ (hc73 j (by first | omega | (simp; omega))).2.1)) (bkeeps zc.below _ _ (bkeeps hb55 _ _ (hc73 j (by first | omega | (simp; omega))).2.2.1)) ⟨_, rfl, Below.refl _ _, optDef zβ rfl⟩
         refine ⟨⟨true, .none rfl, fun h w => optUndef h, fun zβ za zw zc => ?_⟩, ?_⟩
         ·exact wp_callv (by kernel_rfl) rfl ((evt za 41).trans (optVal (zc.dep 0 41 (by kernel_rfl)) rfl rfl)) (hv2 ((evt za 45).trans (optVal (zc.dep 4 45 (by kernel_rfl)) rfl rfl)) ((evt za 51).trans (optVal (zc.dep 10 51 (by kernel_rfl)) rfl rfl))) (oknows1_any o (tget a x.1) (tget x.2.2.2.2 j) _ go _ _ p1 p2 k1 k2 (hza _ (tget_mem (by omega))) (hzb _ (hRm _ (tget_mem (by omega)))) (hB.below (bstep hb55 zc.below)) (ho.below (bstep hb55 zc.below)) (IsT.below (bstep hb55 zc.below) (hc65 x.1 (by first | omega | (simp; omega))).2.2) (IsT.below zc.below (IsT.below hb55 (hc73 j (by first | omega | (simp; omega))).2.2.2))) (fun v w' h => ⟨v, rfl, h.2, optDef zβ h.1⟩)
         refine ⟨⟨true, .none rfl, fun h w => optUndef h, fun zβ za zw zc => ?_⟩, ?_⟩
         ·exact eql_60 rfl ((evt za 52).trans (optVal (zc.dep 11 52 (by kernel_rfl)) rfl rfl)) (zc.kn.ev rfl) ⟨_, rfl, Below.refl _ _, optDef zβ rfl⟩
         exact trivial
        ·intro za w75 zh hb76 zu
         have zh := zh.cons (d := 53) (v := .bool ((((o.ok2 (tget a x.1) (tget x.2.2.2.2 j)) : Int) == (2 : Int)))) (optVal (zu 12 53 (by kernel_rfl)) rfl rfl)
         clear zu
         refine WE.go zh ?_
         refine WE.next ?_
         refine WC.cond rfl (fun h77 => ?_) (fun h77 => ?_)
         ·have h77 : ((o.ok2 (tget a x.1) (tget x.2.2.2.2 j)) : Int) = (2 : Int) := by simpa using h77
          refine WC.seq ?_
          have ho78 := ho58.below hb76
          have ho79 := ho57.below hb76
          have hwz : w.heap.size ≤ w75.heap.size := (Nat.le_trans hb55.size hb76.size)
          have hg1z : g9 < w75.heap.size := ho79.lt
          refine WC.tail3 (S := ((fun b => b < 0))) [(true, .val (.slice x.2.2.1 x.2.2.2.2.length x.2.2.2.1)), (true, .val (.int .i64 (((j : Nat) : Int)))), (true, .val (.int .i64 (((j : Nat) : Int)))), (true, .val (.slice x.2.2.1 j j)), (true, .val (.slice x.2.2.1 x.2.2.2.2.length x.2.2.2.1)), (true, .val (.int .i64 (((j : Nat) : Int)))), (true, .val (.int .i64 ((((j + 1) : Nat) : Int)))), (true, .val (.slice ((slA x.2.2.1 ((j + 1)) 1 x.2.2.2.1)) ((x.2.2.2.2.length - (j + 1))) ((x.2.2.2.1 - (j + 1))))), (true, .val undef), (true, .val undef)] [(0, .slice xa a.length ca), (1, .slice xb b.length cb), (2, .func (.func 45) #[] #[.pointer (some ⟨go, 0, none⟩)]), (5, .pointer (some ⟨g2, 0, none⟩)), (6, .int .i64 0), (7, .slice ((some ⟨g9, 0, none⟩)) x.2.1.length a.length), (10, .int .i64 (((x.1 : Nat) : Int))), (11, .int .i64 (((j : Nat) : Int))), (20, .int .i64 (((b.length : Nat) : Int))), (21, .int .i64 (((i : Nat) : Int))), (22, .bool ((decide ((((i : Nat) : Int) : Int) < (((b.length : Nat) : Int) : Int))))), (32, .int .i64 (((a.length : Nat) : Int))), (33, .int .i64 (((x.1 : Nat) : Int))), (34, .bool ((decide ((((x.1 : Nat) : Int) : Int) < (((a.length : Nat) : Int) : Int))))), (37, .int .i64 (((x.2.2.2.2.length : Nat) : Int))), (38, .int .i64 (((j : Nat) : Int))), (39, .bool ((decide ((((j : Nat) : Int) : Int) < (((x.2.2.2.2.length : Nat) : Int) : Int))))), (53, .bool ((((o.ok2 (tget a x.1) (tget x.2.2.2.2 j)) : Int) == (2 : Int))))] 8 9 ((x.2.2.2.2.length - 1)) 62 8 (fun ra rc wz => PRow (AtT w) wz (fun b => w.heap.size ≤ b ∧ b ≠ g9) ra (x.2.2.2.2.length - 1) (x.2.2.2.2.eraseIdx j) ∧ x.2.2.2.2.length - 1 ≤ rc) (by decide) (fun ra rc w w' hb h => ⟨h.1.below hb, h.2⟩) ⟨rfl, rfl, rfl, rfl, rfl, rfl, rfl, rfl, rfl, rfl, rfl, rfl, rfl, rfl, rfl, rfl, rfl, rfl, trivial⟩ (by kernel_rfl) (by kernel_rfl) (by kernel_rfl) (by kernel_rfl) (by kernel_rfl) (by kernel_rfl) ?_ ?_
          ·refine ⟨.inl ⟨rfl, true, .none rfl, (fun gg b h => by cases h), fun h w => optUndef h, fun zβ za zw zc => ?_⟩, ?_⟩
           ·exact wp_move rfl ((evt za 8).trans (zc.old 8 _ rfl (by kernel_rfl))) ⟨_, rfl, Below.refl _ _, optDef zβ rfl⟩
           refine ⟨.inl ⟨rfl, true, .none rfl, (fun gg b h => by cases h), fun h w => optUndef h, fun zβ za zw zc => ?_⟩, ?_⟩
           ·exact wp_move rfl (zc.kn.ev rfl) ⟨_, rfl, Below.refl _ _, optDef zβ rfl⟩
           refine ⟨.inl ⟨rfl, true, .none rfl, (fun gg b h => by cases h), fun h w => optUndef h, fun zβ za zw zc => ?_⟩, ?_⟩
           ·exact wp_move rfl (zc.kn.ev rfl) ⟨_, rfl, Below.refl _ _, optDef zβ rfl⟩
           refine ⟨.inl ⟨rfl, true, .none rfl, (fun gg b h => by cases h), fun h w => optUndef h, fun zβ za zw zc => ?_⟩, ?_⟩
           ·exact shm_76 (k := j) (m := j) rfl ((evt za 54).trans (optSVal (zc.dep 0 54 (by kernel_rfl) (by decide)) rfl rfl)) ((evt za 55).trans (optSVal (zc.dep 1 55 (by kernel_rfl) (by decide)) rfl rfl)) ((evt za 56).trans (optSVal (zc.dep 2 56 (by kernel_rfl) (by decide)) rfl rfl)) (by omega) (by omega) ⟨_, rfl, Below.refl _ _, optDef zβ rfl⟩
           refine ⟨.inl ⟨rfl, true, .none rfl, (fun gg b h => by cases h), fun h w => optUndef h, fun zβ za zw zc => ?_⟩, ?_⟩
           ·exact wp_move rfl ((evt za 8).trans (zc.old 8 _ rfl (by kernel_rfl))) ⟨_, rfl, Below.refl _ _, optDef zβ rfl⟩
           refine ⟨.inl ⟨rfl, true, .none rfl, (fun gg b h => by cases h), fun h w => optUndef h, fun zβ za zw zc => ?_⟩, ?_⟩
           ·exact wp_move rfl (zc.kn.ev rfl) ⟨_, rfl, Below.refl _ _, optDef zβ rfl⟩
           refine ⟨.inl ⟨rfl, true, .none rfl, (fun gg b h => by cases h), fun h w => optUndef h, fun zβ za zw zc => ?_⟩, ?_⟩
           ·exact addb_3 rfl ((evt za 59).trans (optSVal (zc.dep 5 59 (by kernel_rfl) (by decide)) rfl rfl)) (zc.kn.ev rfl) (wrap_eq (by omega) (by omega) (by omega)) ⟨_, rfl, Below.refl _ _, optDef zβ rfl⟩
           refine ⟨.inl ⟨rfl, true, .none rfl, (fun gg b h => by cases h), fun h w => optUndef h, fun zβ za zw zc => ?_⟩, ?_⟩
           ·exact slo_76 (k := (j + 1)) rfl ((evt za 58).trans (optSVal (zc.dep 4 58 (by kernel_rfl) (by decide)) rfl rfl)) ((evt za 60).trans (optSVal (zc.dep 6 60 (by kernel_rfl) (by decide)) rfl rfl)) (by omega) (by omega) ⟨_, rfl, Below.refl _ _, optDef zβ rfl⟩
           refine ⟨.inr (.inl ⟨rfl, rfl, fun za zw zc => ?_⟩), ?_⟩
           ·exact wp_appCut (z := .pointer none) (bytes := 8) (S := (fun b => w.heap.size ≤ b ∧ b ≠ g9)) Try.underlying76 (by kernel_rfl) (by decide) rfl ((evt za 57).trans (optSVal (zc.dep 3 57 (by kernel_rfl) (by decide)) rfl rfl)) ((evt za 61).trans (optSVal (zc.dep 7 61 (by kernel_rfl) (by decide)) rfl rfl)) (ho78.below zc.below) (by omega) (by omega) (by omega) (by omega) (by have z := zc.below.size; exact ⟨by omega, by omega⟩) (fun r c2 w2 h1 h2 h3 => ⟨r, c2, rfl, ⟨h1, h2⟩, .ofBelow h3⟩)
           refine ⟨.inr (.inr ⟨rfl, rfl, 62, by kernel_rfl, rfl⟩), ?_⟩
           exact trivial
          ·intro za w80 ra83 rc84 zh zv zv2 hG81 hc82 zu
           have zh := zh.cons (d := 8) zv2
           have hb85 := Chg.toBelow hc82
           have hR86 : PRow (AtT w) w80 (fun b => w.heap.size ≤ b ∧ b ≠ g9) ra83 ((x.2.2.2.2.eraseIdx j)).length (x.2.2.2.2.eraseIdx j) := by have z := hG81.1; rwa [show ((x.2.2.2.2.eraseIdx j)).length = x.2.2.2.2.length - 1 from by rw [List.length_eraseIdx, if_pos (by omega)]]
           clear zu
           refine WE.go zh ?_
           refine WE.next (WC.exit (WE.blockNot rfl (WE.thenExit (WE.thenExit (WE.blockNot rfl (WE.thenExit (WE.blockIs rfl (WE.next (WC.region ?_)))))))))
           refine WL.val (.int .i64 ((((x.1 + 1) : Nat) : Int))) rfl rfl rfl (fun za zC zh zk => addb_3 rfl (zh.ev rfl) (zh.ev rfl) (wrap_eq (by omega) (by omega) (by omega)) zk) ?_
           refine WL.mv rfl rfl rfl rfl rfl (WL.nil ?_)
           rw [show x.2.2.2.2.length - 1 = (x.2.2.2.2.eraseIdx j).length from by rw [List.length_eraseIdx, if_pos (by omega)]]
           refine WE.round ((x.1 + 1, x.2.1, ra83, rc84, (x.2.2.2.2.eraseIdx j))) ⟨rfl, rfl, rfl, rfl, rfl, rfl, rfl, rfl, rfl, rfl, rfl, rfl, trivial⟩ ?_ ?_
           ·have hb87 : Below w.heap.size w w80 := (bstep (bstep hb55 hb76) hb85)
            have hb89 : Below w54.heap.size w54 w80 := (bstep hb76 hb85)
            have hB88 := hB56.below hb89
            have ho90 := ho79.below hb85
            exact ⟨by (try dsimp only at *); omega, by
              have z := multiLR_strike (c := o.ok2) (d := (.mk 0 [])) (R := x.2.2.2.2) (show x.1 < a.length by omega) (show j < x.2.2.2.2.length by omega) (by have z9 := h77; simpa [tget] using z9) (fun q hq => by have z9 := hN q hq; simpa [tget] using z9)
              rw [hM, z], by (try dsimp only at *); omega, by (try dsimp only); rw [List.length_eraseIdx, if_pos (by omega)]; exact hG81.2, by (try dsimp only); rw [List.length_eraseIdx, if_pos (by omega)]; omega, hLm, fun y hy => hRm y (List.mem_of_mem_eraseIdx hy), hb87, hB88, ho90, hR86⟩
           ·(try dsimp only at *); omega
         ·have h77 : ¬ (((o.ok2 (tget a x.1) (tget x.2.2.2.2 j)) : Int) = (2 : Int)) := by simpa using h77
          refine WC.skip (WE.blockNormal (WE.next (WC.region ?_)))
          refine WL.val (.int .i64 ((((j + 1) : Nat) : Int))) rfl rfl rfl (fun za zC zh zk => addb_3 rfl (zh.ev rfl) (zh.ev rfl) (wrap_eq (by omega) (by omega) (by omega)) zk) ?_
          refine WL.mv rfl rfl rfl rfl rfl (WL.nil ?_)
          refine WE.round (j + 1) ⟨rfl, rfl, rfl, rfl, rfl, rfl, rfl, rfl, rfl, rfl, rfl, rfl, rfl, rfl, rfl, rfl, trivial⟩ ?_ ?_
          ·have hb91 : Below w.heap.size w w75 := (bstep hb55 hb76)
           have hB92 := hB56.below hb76
           have ho93 := ho57.below hb76
           have ho94 := ho58.below hb76
           exact ⟨by omega, fun q hq => by
             by_cases e : q = j
             ·rw [e]; simpa using h77
             ·exact hN q (by omega), hb91, hB92, ho93, ho94⟩
          ·omega
       ·have h59 : ¬ ((((j : Nat) : Int) : Int) < (((x.2.2.2.2.length : Nat) : Int) : Int)) := by simpa using h59
        refine WC.exit (WE.thenExit (WE.thenExit (WE.blockIs rfl (WE.next (WC.region (WL.mv rfl rfl rfl rfl rfl (WL.mv rfl rfl rfl rfl rfl (WL.mv rfl rfl rfl rfl rfl ?_))))))))
        obtain ⟨b95, o96, A97, C98, ha99, hc100⟩ := IsTs.open ha
        refine WL.val _ rfl rfl rfl (fun za zC zh zk => ix_32 (k := x.1) rfl (zh.ev rfl) (ha99 x.1 (by first | omega | (simp; omega))) (zh.ev rfl) (by first | omega | (simp; omega)) zk) ?_
        refine WL.step (post := NewRow w54 77 #[.pointer (some ⟨b95, o96 + x.1 * 2, none⟩)] 1) rfl rfl rfl (fun za zC zh zk => row_76_1 rfl (zh.ev rfl) (zk _ _ (newRow _ _ _ _))) ?_
        rintro _ w101 ⟨g102, rfl, hg103, hB104, hb105, hz106⟩
        have hl107 : g2 < g102 := by have z1 := hB56.lt; omega
        have hl108 : g9 < g102 := by have z1 := ho57.lt; omega
        have hl109 : w.heap.size ≤ g102 := by have z2 := (hb55).size; omega
        have hl110 : w54.heap.size ≤ g102 := by omega
        have ho111 := ho57.below hb105
        refine WL.step (post := fun v w' => v = .slice (some ⟨g9, 0, none⟩) (x.2.1.length + 1) a.length ∧ Upd g9 w101 w' ∧ LRow (AtT w) w' 77 g9 a.length (x.2.1.length + 1) (x.2.1 ++ [(tget a x.1)])) rfl rfl rfl (fun za zC zh zk => wp_appL (z := .pointer none) (bytes := 8) Try.underlying76 (by kernel_rfl) rfl (zh.ev rfl) (zh.ev rfl) ho111 (by omega) hB104 (show AtT w _ _ _ from ⟨_, _, hc100 x.1 (by omega)⟩) (fun w2 h1 h2 => zk _ _ ⟨rfl, h2, h1⟩)) ?_
        rintro _ w112 ⟨rfl, hu113, hL114⟩
        have ho115 := ho58.below hb105
        have hb116 : Below w.heap.size w w101 := (bstep hb55 hb105)
        have hb117 := upd_below hb116 hu113 (by omega)
        have hB118 := hB56.below hb105
        have hB119 := upd_blk hB118 hu113 (by omega)
        have hR120 := ho115.upd hu113 (fun b hb => hb.2)
        have hL121 : LRow (AtT w) w112 77 g9 a.length ((x.2.1 ++ [(tget a x.1)])).length (x.2.1 ++ [(tget a x.1)]) := by rw [List.length_append]; exact hL114
        refine WL.asg rfl rfl rfl rfl rfl (WL.nil (WE.blockNormal (WE.next (WC.region ?_))))
        refine WL.val (.int .i64 ((((x.1 + 1) : Nat) : Int))) rfl rfl rfl (fun za zC zh zk => addb_3 rfl (zh.ev rfl) (zh.ev rfl) (wrap_eq (by omega) (by omega) (by omega)) zk) ?_
        refine WL.mv rfl rfl rfl rfl rfl (WL.nil ?_)
        rw [show x.2.1.length + 1 = (x.2.1 ++ [(tget a x.1)]).length from by simp]
        refine WE.round ((x.1 + 1, x.2.1 ++ [(tget a x.1)], x.2.2.1, x.2.2.2.1, x.2.2.2.2)) ⟨rfl, rfl, rfl, rfl, rfl, rfl, rfl, rfl, rfl, rfl, rfl, rfl, trivial⟩ ?_ ?_
        ·exact ⟨by (try dsimp only at *); omega, by
           have z := multiLR_keep (c := o.ok2) (d := (.mk 0 [])) (R := x.2.2.2.2) (show x.1 < a.length by omega) (fun q hq => by have z9 := hN q (by omega); simpa [tget] using z9)
           rw [hM, z]; simp [List.append_assoc, tget], by (try dsimp only); simp; omega, hRc, hRb, fun y hy => (List.mem_append.1 hy).elim (hLm y) (fun e => by rw [List.mem_singleton.1 e]; exact tget_mem (by omega)), hRm, hb117, hB119, hL121, hR120⟩
        ·(try dsimp only at *); omega
     ·have h53 : ¬ ((((x.1 : Nat) : Int) : Int) < (((a.length : Nat) : Int) : Int)) := by simpa using h53
      refine WC.exit (WE.thenExit (WE.thenExit (WE.blockIs rfl (WE.next (WC.seq (WC.seq ?_))))))
      refine WC.opt [(true, .val (.slice ((some ⟨g9, 0, none⟩)) x.2.1.length a.length)), (true, .val (.int .i64 (((x.2.1.length : Nat) : Int)))), (true, .val (.bool (((((x.2.1.length : Nat) : Int) : Int) == (0 : Int))))), (true, .val (.bool (((((x.2.1.length : Nat) : Int) : Int) == (0 : Int))))), ((true && ((((x.2.1.length : Nat) : Int) : Int) == (0 : Int))), .val (.slice x.2.2.1 x.2.2.2.2.length x.2.2.2.1)), ((true && ((((x.2.1.length : Nat) : Int) : Int) == (0 : Int))), .val (.int .i64 (((x.2.2.2.2.length : Nat) : Int)))), ((true && ((((x.2.1.length : Nat) : Int) : Int) == (0 : Int))), .val (.bool (((((x.2.2.2.2.length : Nat) : Int) : Int) == (0 : Int))))), (true, .val (.bool ((((((x.2.1.length : Nat) : Int) : Int) == (0 : Int)) && ((((x.2.2.2.2.length : Nat) : Int) : Int) == (0 : Int))))))] [(0, .slice xa a.length ca), (1, .slice xb b.length cb), (2, .func (.func 45) #[] #[.pointer (some ⟨go, 0, none⟩)]), (5, .pointer (some ⟨g2, 0, none⟩)), (6, .int .i64 0), (7, .slice ((some ⟨g9, 0, none⟩)) x.2.1.length a.length), (8, .slice x.2.2.1 x.2.2.2.2.length x.2.2.2.1), (20, .int .i64 (((b.length : Nat) : Int))), (21, .int .i64 (((i : Nat) : Int))), (22, .bool ((decide ((((i : Nat) : Int) : Int) < (((b.length : Nat) : Int) : Int))))), (32, .int .i64 (((a.length : Nat) : Int))), (33, .int .i64 (((x.1 : Nat) : Int))), (34, .bool ((decide ((((x.1 : Nat) : Int) : Int) < (((a.length : Nat) : Int) : Int)))))] ⟨rfl, rfl, rfl, rfl, rfl, rfl, rfl, rfl, rfl, rfl, rfl, rfl, rfl, trivial⟩ (by kernel_rfl) (by kernel_rfl) (by kernel_rfl) ?_ ?_
      ·refine ⟨⟨true, .none rfl, fun h w => optUndef h, fun zβ za zw zc => ?_⟩, ?_⟩
       ·exact wp_move rfl (zc.kn.ev rfl) ⟨_, rfl, Below.refl _ _, optDef zβ rfl⟩
       refine ⟨⟨true, .none rfl, fun h w => optUndef h, fun zβ za zw zc => ?_⟩, ?_⟩
       ·exact len_76 rfl ((evt za 71).trans (optVal (zc.dep 0 71 (by kernel_rfl)) rfl rfl)) ⟨_, rfl, Below.refl _ _, optDef zβ rfl⟩
       refine ⟨⟨true, .none rfl, fun h w => optUndef h, fun zβ za zw zc => ?_⟩, ?_⟩
       ·exact eql_3 rfl ((evt za 72).trans (optVal (zc.dep 1 72 (by kernel_rfl)) rfl rfl)) (zc.kn.ev rfl) ⟨_, rfl, Below.refl _ _, optDef zβ rfl⟩
       refine ⟨⟨true, .none rfl, fun h w => optUndef h, fun zβ za zw zc => ?_⟩, ?_⟩
       ·exact wp_move rfl ((evt za 73).trans (optVal (zc.dep 2 73 (by kernel_rfl)) rfl rfl)) ⟨_, rfl, Below.refl _ _, optDef zβ rfl⟩
       refine ⟨⟨_, .yes (c := ((((x.2.1.length : Nat) : Int) : Int) == (0 : Int))) (d := true) rfl (fun v w h => h), fun h w => optUndef h, fun zβ za zw zc => ?_⟩, ?_⟩
       ·exact wp_move rfl (zc.kn.ev rfl) ⟨_, rfl, Below.refl _ _, optDef zβ rfl⟩
       refine ⟨⟨_, .yes (c := ((((x.2.1.length : Nat) : Int) : Int) == (0 : Int))) (d := true) rfl (fun v w h => h), fun h w => optUndef h, fun zβ za zw zc => ?_⟩, ?_⟩
       ·exact len_76 rfl ((evt za 75).trans (optVal (zc.dep 4 75 (by kernel_rfl)) rfl zβ)) ⟨_, rfl, Below.refl _ _, optDef zβ rfl⟩
       refine ⟨⟨_, .yes (c := ((((x.2.1.length : Nat) : Int) : Int) == (0 : Int))) (d := true) rfl (fun v w h => h), fun h w => optUndef h, fun zβ za zw zc => ?_⟩, ?_⟩
       ·exact eql_3 rfl ((evt za 76).trans (optVal (zc.dep 5 76 (by kernel_rfl)) rfl zβ)) (zc.kn.ev rfl) ⟨_, rfl, Below.refl _ _, optDef zβ rfl⟩
       refine ⟨⟨true, .none rfl, fun h w => optUndef h, fun zβ za zw zc => ?_⟩, ?_⟩
       ·exact wp_and rfl ((evt za 74).trans (optVal (zc.dep 3 74 (by kernel_rfl)) rfl rfl)) (fun hp => ((evt za 77).trans (optVal (zc.dep 6 77 (by kernel_rfl)) rfl (bMk zβ hp)))) ⟨_, rfl, Below.refl _ _, optDef zβ rfl⟩
       exact trivial
      ·intro za w122 zh hb123 zu
       have zh := zh.cons (d := 78) (v := .bool ((((((x.2.1.length : Nat) : Int) : Int) == (0 : Int)) && ((((x.2.2.2.2.length : Nat) : Int) : Int) == (0 : Int))))) (optVal (zu 7 78 (by kernel_rfl)) rfl rfl)
       clear zu
       refine WE.go zh ?_
       refine WE.next ?_
       refine WC.cond rfl (fun h124 => ?_) (fun h124 => ?_)
       ·have h124 : ((((x.2.1.length : Nat) : Int) : Int) = (0 : Int)) ∧ ((((x.2.2.2.2.length : Nat) : Int) : Int) = (0 : Int)) := by simpa using h124
        refine WC.seq (WC.region (WL.asg rfl rfl rfl rfl rfl (WL.nil (WE.next (WC.ret (WE.thenRet (WE.scopeRet (WE.ret1 rfl rfl ?_))))))))
        have hd : a.drop x.1 = [] := List.drop_eq_nil_of_le (by omega)
        rw [hd] at hM
        simp only [multiLR, List.append_nil] at hM
        have e0 : (x.2.1.isEmpty && x.2.2.2.2.isEmpty) = true := by
         have z := h124
         simpa using z
        have hb125 : Below w.heap.size w w122 := (bstep hb49 hb123)
        exact ⟨_, rfl, congrArg (Value.int .i64) (by rw [multiP_eq hM, e0]; simp []), hb125⟩
       ·have h124 : ¬ (((((x.2.1.length : Nat) : Int) : Int) = (0 : Int)) ∧ ((((x.2.2.2.2.length : Nat) : Int) : Int) = (0 : Int))) := by simpa using h124
        refine WC.skip (WE.next (WC.seq (WC.region ?_)))
        refine WL.val (.func (Fn.func 49) #[] #[.pointer (some ⟨g2, 0, none⟩)]) rfl rfl rfl (fun za zC zh zk => mkfn rfl (hv0) (hv1 (zh.ev rfl)) zk) ?_
        refine WL.asg rfl rfl rfl rfl rfl (WL.nil (WE.next (WC.seq (WC.block (WC.seq (WC.region (WL.mv rfl rfl rfl rfl rfl (WL.mv rfl rfl rfl rfl rfl (WL.mv rfl rfl rfl rfl rfl ?_)))))))))
        have hB126 := hB50.below hb123
        have ho127 := ho51.below hb123
        have ho128 := ho52.below hb123
        have hb129 : Below w.heap.size w w122 := (bstep hb49 hb123)
        refine WL.call rfl rfl rfl (fun za zh zC => wp_callv (by kernel_rfl) rfl (zh.ev rfl) (hv2 (zh.ev rfl) (zh.ev rfl))) (allT_any o go p1 p2 k1 k2 x.2.1 x.2.2.2.2 w _ g2 _ _ _ _ _ _ ho127.prow ho128 (fun y hy => hza y (hLm y hy)) (fun y hy => hzb y (hRm y hy)) (by omega) (by omega) hb129 hB ho hB126) ?_
        rintro _ w131 ⟨rfl, hq130⟩
        refine WL.asg rfl rfl rfl rfl rfl (WL.nil (WE.next ?_))
        refine WC.cond rfl (fun h132 => ?_) (fun h132 => ?_)
        ·skip
         refine WC.seq (WC.region (WL.asg rfl rfl rfl rfl rfl (WL.nil (WE.next (WC.ret (WE.blockRet (WE.thenRet (WE.scopeRet (WE.ret1 rfl rfl ?_)))))))))
         have hd : a.drop x.1 = [] := List.drop_eq_nil_of_le (by omega)
         rw [hd] at hM
         simp only [multiLR, List.append_nil] at hM
         have e0 : (x.2.1.isEmpty && x.2.2.2.2.isEmpty) = false := by
          have z := h124
          rw [Bool.eq_false_iff]; intro e; apply z; simpa using e
         have hb133 : Below w.heap.size w w131 := (bstep hb129 hq130)
         exact ⟨_, rfl, congrArg (Value.int .i64) (by rw [multiP_eq hM, e0]; simp [h132]), hb133⟩
        ·skip
         refine WC.seq (WC.region (WL.mv rfl rfl rfl rfl rfl (WL.mv rfl rfl rfl rfl rfl (WL.mv rfl rfl rfl rfl rfl ?_))))
         have hB134 := hB126.below hq130
         have ho135 := ho127.below hq130
         have ho136 := ho128.below hq130
         have hb137 : Below w.heap.size w w131 := (bstep hb129 hq130)
         refine WL.call rfl rfl rfl (fun za zh zC => wp_callv (by kernel_rfl) rfl (zh.ev rfl) (hv2 (zh.ev rfl) (zh.ev rfl))) (allT_any o go p1 p2 k1 k2 x.2.2.2.2 x.2.1 w _ g2 _ _ _ _ _ _ ho136 ho135.prow (fun y hy => hzb y (hRm y hy)) (fun y hy => hza y (hLm y hy)) (by omega) (by omega) hb137 hB ho hB134) ?_
         rintro _ w139 ⟨rfl, hq138⟩
         refine WL.asg rfl rfl rfl rfl rfl (WL.nil (WE.next ?_))
         refine WC.cond rfl (fun h140 => ?_) (fun h140 => ?_)
         ·skip
          refine WC.seq (WC.region (WL.asg rfl rfl rfl rfl rfl (WL.nil (WE.next (WC.ret (WE.blockRet (WE.thenRet (WE.scopeRet (WE.ret1 rfl rfl ?_)))))))))
          have hd : a.drop x.1 = [] := List.drop_eq_nil_of_le (by omega)
          rw [hd] at hM
          simp only [multiLR, List.append_nil] at hM
          have e0 : (x.2.1.isEmpty && x.2.2.2.2.isEmpty) = false := by
           have z := h124
           rw [Bool.eq_false_iff]; intro e; apply z; simpa using e
          have hb141 : Below w.heap.size w w139 := (bstep hb137 hq138)
          exact ⟨_, rfl, congrArg (Value.int .i64) (by rw [multiP_eq hM, e0]; simp [h132, h140]), hb141⟩
         ·skip
          refine WC.skip (WE.blockNormal (WE.next (WC.seq (WC.region (WL.asg rfl rfl rfl rfl rfl (WL.nil (WE.next (WC.ret (WE.scopeRet (WE.ret1 rfl rfl ?_))))))))))
          have hd : a.drop x.1 = [] := List.drop_eq_nil_of_le (by omega)
          rw [hd] at hM
          simp only [multiLR, List.append_nil] at hM
          have e0 : (x.2.1.isEmpty && x.2.2.2.2.isEmpty) = false := by
           have z := h124
           rw [Bool.eq_false_iff]; intro e; apply z; simpa using e
          have hb142 : Below w.heap.size w w139 := (bstep hb137 hq138)
          exact ⟨_, rfl, congrArg (Value.int .i64) (by rw [multiP_eq hM, e0]; simp [h132, h140]), hb142⟩
end Go.Proofs.Ytnokgjajcnhkkaa

/- Terms, literals, clauses that are built in a region: what is known of each. -/
namespace Go.Proofs.Ytnokgjajcnhkkaa
open Go.RowKit Go
set_option linter.unusedVariables false
set_option linter.unusedSimpArgs false
/-- The value is a row of terms. -/
def RowT (l : List T) (v : Value) (w : World) : Prop := ∃ (a : Option Addr) (c : Nat), v = .slice a l.length c ∧ l.length ≤ c ∧ c ≤ maxLen ∧ IsTs w l a 0
theorem RowT.below {l : List T} {v : Value} {w w' : World} (hb : Below w.heap.size w w') (h : RowT l v w) : RowT l v w' := by
  obtain ⟨a, c, e, h1, h2, h3⟩ := h
  exact ⟨a, c, e, h1, h2, h3.below hb⟩
theorem RowT.nil {w : World} : RowT [] (.slice none 0 0) w := ⟨none, 0, rfl, Nat.le_refl _, Nat.zero_le _, trivial⟩
/-- The value is a clause. -/
def RowC (l : List Li) (v : Value) (w : World) : Prop := ∃ (a : Option Addr) (c : Nat), v = .slice a l.length c ∧ IsCl w l a c
theorem RowC.below {l : List Li} {v : Value} {w w' : World} (hb : Below w.heap.size w w') (h : RowC l v w) : RowC l v w' := by
  obtain ⟨a, c, e, h1⟩ := h
  exact ⟨a, c, e, h1.below hb⟩
theorem isT_mk {w : World} {f : Int} {l : List T} {a : Option Addr} {n c : Nat} (hf : I64 f) (h : RowT l (.slice a n c) w) : IsT w (.mk f l) (.agg #[.int .i64 f, .slice a n c]) := by
  obtain ⟨a', c', e, h1, h2, h3⟩ := h
  simp only [Value.slice.injEq] at e
  obtain ⟨rfl, rfl, rfl⟩ := e
  exact ⟨hf, _, _, rfl, h1, h2, h3⟩
theorem isT_lf {w : World} {f : Int} (hf : -9223372036854775808 ≤ f ∧ f ≤ 9223372036854775807) : IsT w (.mk f []) (.agg #[.int .i64 f, .slice none 0 0]) := isT_mk hf RowT.nil
theorem isLi_of {w : World} {x : Li} {u1 u2 u3 u4 : Value} (h1 : IsT w x.l (.agg #[u1, u2])) (h2 : IsT w x.r (.agg #[u3, u4])) : IsLi w x (.agg #[.bool x.neg, u1, u2, u3, u4]) := ⟨_, _, _, _, rfl, h1, h2⟩
theorem IsT.inAny {w : World} {t : T} {v : Value} (h : IsT w t v) : InT (fun _ => True) w t v := h.inT.mono (fun _ _ _ => trivial)
/-- A row of literals, out of its block. -/
theorem isCl_blk {w : World} {g t : Nat} {l : List Li} {cs : List (List Value)} (hB : Blk w g t cs.flatten.toArray) (hl : cs.length = l.length) (h5 : ∀ c ∈ cs, c.length = 5)
    (h : ∀ i (hi : i < l.length) (hc : i < cs.length), IsLi w l[i] (.agg cs[i].toArray)) (hn : l.length ≤ 1000) (hz : ∀ x ∈ l, x.l.size ≤ 4294967296 ∧ x.r.size ≤ 4294967296) : IsCl w l (some ⟨g, 0, none⟩) l.length := by
  refine ⟨fun i hi => ?_, Nat.le_refl _, by unfold maxLen; omega, by omega, fun b hb => (hz b hb).1, fun b hb => (hz b hb).2⟩
  have hc : i < cs.length := by omega
  obtain ⟨u1, u2, u3, u4, e, h1, h2⟩ := h i hi hc
  simp only [Value.agg.injEq] at e
  have e' : cs[i] = [.bool l[i].neg, u1, u2, u3, u4] := by
    have := congrArg Array.toList e
    simpa using this
  refine ⟨g, 0, cs[i], rfl, trivial, ⟨u1, u2, u3, u4, e', h1.inAny, h2.inAny⟩, fun j hj => ?_⟩
  rw [hB.cell]
  have hj5 : j < 5 := hj
  have key : ∀ (cs : List (List Value)) (i : Nat) (hc : i < cs.length), (∀ c ∈ cs, c.length = 5) → ∀ j, j < 5 → cs.flatten[i * 5 + j]? = cs[i][j]? := by
    intro cs
    induction cs with
    | nil => intro i hc; simp at hc
    | cons c r ih =>
      intro i hc hl j hj
      have hc5 := hl c (by simp)
      cases i with
      | zero => rw [List.flatten_cons, List.getElem?_append_left (by omega)]; simp
      | succ i =>
        rw [List.flatten_cons, List.getElem?_append_right (by omega), show (i + 1) * 5 + j - c.length = i * 5 + j by omega]
        exact ih i (by simpa using hc) (fun c hcm => hl c (by simp [hcm])) j hj
  have := key cs i hc h5 j hj5
  rw [Nat.zero_add, List.getElem?_toArray]
  exact this
end Go.Proofs.Ytnokgjajcnhkkaa

/- Rows of rows of terms; rows of pointers to literals; the members of a literal. -/
namespace Go.Proofs.Ytnokgjajcnhkkaa
open Go.RowKit Go
set_option linter.unusedVariables false
/-- Rows of terms, in a row. -/
def IsRs (w : World) (l : List (List T)) (a : Option Addr) : Prop := ∀ k (hk : k < l.length), ∃ b o a1 c1, a = some ⟨b, o, none⟩ ∧ w.cell? ⟨b, o + k, none⟩ = some (.slice a1 l[k].length c1) ∧ IsTs w l[k] a1 0
theorem IsRs.below {w w' : World} {l : List (List T)} {a : Option Addr} (h : IsRs w l a) (hb : Below w.heap.size w w') : IsRs w' l a := fun k hk => by
  obtain ⟨b, o, a1, c1, e, h1, h2⟩ := h k hk
  exact ⟨b, o, a1, c1, e, bkeeps hb _ _ h1, h2.below hb⟩
theorem rget_lt {l : List (List T)} {k : Nat} (h : k < l.length) : rget l k = l[k] := by simp [rget, h]
theorem rget_mem {l : List (List T)} {k : Nat} (h : k < l.length) : rget l k ∈ l := by rw [rget_lt h]; exact List.getElem_mem h
theorem IsRs.open {w : World} {l : List (List T)} {a : Option Addr} (h : IsRs w l a) : ∃ (b o : Nat) (A : Nat → Option Addr) (C : Nat → Nat), (∀ k, k < l.length → a = some ⟨b, o, none⟩) ∧
    ∀ k, k < l.length → w.cell? ⟨b, o + k, none⟩ = some (.slice (A k) (rget l k).length (C k)) ∧ IsTs w (rget l k) (A k) 0 := by
  rcases Nat.eq_zero_or_pos l.length with h0 | h0
  · exact ⟨0, 0, fun _ => none, fun _ => 0, fun k hk => by omega, fun k hk => by omega⟩
  · obtain ⟨b, o, _, _, ha, _⟩ := h 0 h0
    have key : ∀ k, k < l.length → ∃ p : Option Addr × Nat, w.cell? ⟨b, o + k, none⟩ = some (.slice p.1 (rget l k).length p.2) ∧ IsTs w (rget l k) p.1 0 := by
      intro k hk
      obtain ⟨b', o', a', c', ha', h1, h2⟩ := h k hk
      rw [ha] at ha'
      simp only [Option.some.injEq, Addr.mk.injEq, and_true] at ha'
      obtain ⟨rfl, rfl⟩ := ha'
      rw [rget_lt hk]
      exact ⟨(a', c'), h1, h2⟩
    have : Inhabited (Option Addr × Nat) := ⟨(none, 0)⟩
    obtain ⟨F, hF⟩ := Go.Deep.choose_lt key
    exact ⟨b, o, fun k => (F k).1, fun k => (F k).2, fun _ _ => ha, hF⟩
/-- A literal's members. -/
def Li.mems (x : Li) : List (List T) := if x.neg = true then [[x.l, x.r]] else [[x.l], [x.r]]
theorem Li.mems_len (x : Li) : x.mems.length ≤ 2 := by unfold Li.mems; split <;> simp
theorem Li.mems_all {x : Li} : ∀ l ∈ x.mems, l.length ≤ 2 ∧ ∀ t ∈ l, t = x.l ∨ t = x.r := fun l hl => by
  unfold Li.mems at hl
  split at hl
  · simp only [List.mem_singleton] at hl; subst hl; simp
  · simp only [List.mem_cons, List.not_mem_nil, or_false] at hl
    rcases hl with rfl | rfl <;> simp
theorem isTs_one {w : World} {g e : Nat} {t : T} {a : Option Addr} {c : Nat} (hB : Blk w g e #[.int .i64 t.f, .slice a t.args.length c]) (h : IsT w t (.agg #[.int .i64 t.f, .slice a t.args.length c])) : IsTs w [t] (some ⟨g, 0, none⟩) 0 :=
  IsTs.of_at fun k hk => by
    obtain rfl : k = 0 := by simpa using hk
    exact ⟨g, 0, _, _, rfl, (hB.cell 0).trans rfl, (hB.cell 1).trans rfl, h⟩
theorem isTs_two {w : World} {g e : Nat} {t u : T} {a a2 : Option Addr} {c c2 : Nat} (hB : Blk w g e #[.int .i64 t.f, .slice a t.args.length c, .int .i64 u.f, .slice a2 u.args.length c2]) (h : IsT w t (.agg #[.int .i64 t.f, .slice a t.args.length c])) (h2 : IsT w u (.agg #[.int .i64 u.f, .slice a2 u.args.length c2])) : IsTs w [t, u] (some ⟨g, 0, none⟩) 0 :=
  IsTs.of_at fun k hk => by
    match k, hk with
    | 0, _ => exact ⟨g, 0, _, _, rfl, (hB.cell 0).trans rfl, (hB.cell 1).trans rfl, h⟩
    | 1, _ => exact ⟨g, 0, _, _, rfl, (hB.cell 2).trans rfl, (hB.cell 3).trans rfl, h2⟩
theorem isRs_one {w : World} {g e : Nat} {l : List T} {a : Option Addr} {n c : Nat} (hB : Blk w g e #[.slice a n c]) (h : IsTs w l a 0) (hn : n = l.length) : IsRs w [l] (some ⟨g, 0, none⟩) := fun k hk => by
  obtain rfl : k = 0 := by simpa using hk
  subst hn
  exact ⟨g, 0, a, c, rfl, (hB.cell 0).trans rfl, h⟩
theorem isRs_two {w : World} {g e : Nat} {l q : List T} {a a2 : Option Addr} {n n2 c c2 : Nat} (hB : Blk w g e #[.slice a n c, .slice a2 n2 c2]) (h : IsTs w l a 0) (h2 : IsTs w q a2 0) (hn : n = l.length) (hn2 : n2 = q.length) : IsRs w [l, q] (some ⟨g, 0, none⟩) := fun k hk => by
  subst hn hn2
  match k, hk with
  | 0, _ => exact ⟨g, 0, a, c, rfl, (hB.cell 0).trans rfl, h⟩
  | 1, _ => exact ⟨g, 0, a2, c2, rfl, (hB.cell 1).trans rfl, h2⟩
def RowR (l : List (List T)) (v : Value) (w : World) : Prop := ∃ (a : Option Addr) (c : Nat), v = .slice a l.length c ∧ IsRs w l a
theorem RowR.keep {l : List (List T)} (v : Value) (w w' : World) (hb : Below w.heap.size w w') (h : RowR l v w) : RowR l v w' := by
  obtain ⟨a, c, e, h1⟩ := h; exact ⟨a, c, e, h1.below hb⟩
/-- Where a literal lies. -/
def AtL (w0 : World) (b p : Nat) (x : Li) : Prop := ∃ a c a2 c2, w0.cell? ⟨b, p, none⟩ = some (.bool x.neg) ∧ w0.cell? ⟨b, p + 1, none⟩ = some (.int .i64 x.l.f) ∧ w0.cell? ⟨b, p + 2, none⟩ = some (.slice a x.l.args.length c) ∧ w0.cell? ⟨b, p + 3, none⟩ = some (.int .i64 x.r.f) ∧ w0.cell? ⟨b, p + 4, none⟩ = some (.slice a2 x.r.args.length c2) ∧
  IsT w0 x.l (.agg #[.int .i64 x.l.f, .slice a x.l.args.length c]) ∧ IsT w0 x.r (.agg #[.int .i64 x.r.f, .slice a2 x.r.args.length c2])
theorem PRow.openL {w0 w : World} {S : Nat → Prop} {r : Option Addr} {n : Nat} {ms : List Li} (h : PRow (AtL w0) w S r n ms) : ∃ (b p : Nat) (Bf Pf : Nat → Nat) (A : Nat → Option Addr) (C : Nat → Nat) (A2 : Nat → Option Addr) (C2 : Nat → Nat), (∀ k, k < n → r = some ⟨b, p, none⟩) ∧ ∀ k, k < n → w.cell? ⟨b, p + k, none⟩ = some (.pointer (some ⟨Bf k, Pf k, none⟩)) ∧
    w0.cell? ⟨Bf k, Pf k, none⟩ = some (.bool (lget ms k).neg) ∧ w0.cell? ⟨Bf k, Pf k + 1, none⟩ = some (.int .i64 (lget ms k).l.f) ∧ w0.cell? ⟨Bf k, Pf k + 2, none⟩ = some (.slice (A k) (lget ms k).l.args.length (C k)) ∧ w0.cell? ⟨Bf k, Pf k + 3, none⟩ = some (.int .i64 (lget ms k).r.f) ∧ w0.cell? ⟨Bf k, Pf k + 4, none⟩ = some (.slice (A2 k) (lget ms k).r.args.length (C2 k)) ∧
    IsT w0 (lget ms k).l (.agg #[.int .i64 (lget ms k).l.f, .slice (A k) (lget ms k).l.args.length (C k)]) ∧ IsT w0 (lget ms k).r (.agg #[.int .i64 (lget ms k).r.f, .slice (A2 k) (lget ms k).r.args.length (C2 k)]) := by
  obtain ⟨b, p, Bf, Pf, h1, h2⟩ := h.open default
  have key : ∀ k, k < n → ∃ q : (Option Addr × Nat) × (Option Addr × Nat), w0.cell? ⟨Bf k, Pf k, none⟩ = some (.bool (lget ms k).neg) ∧ w0.cell? ⟨Bf k, Pf k + 1, none⟩ = some (.int .i64 (lget ms k).l.f) ∧ w0.cell? ⟨Bf k, Pf k + 2, none⟩ = some (.slice q.1.1 (lget ms k).l.args.length q.1.2) ∧ w0.cell? ⟨Bf k, Pf k + 3, none⟩ = some (.int .i64 (lget ms k).r.f) ∧ w0.cell? ⟨Bf k, Pf k + 4, none⟩ = some (.slice q.2.1 (lget ms k).r.args.length q.2.2) ∧
    IsT w0 (lget ms k).l (.agg #[.int .i64 (lget ms k).l.f, .slice q.1.1 (lget ms k).l.args.length q.1.2]) ∧ IsT w0 (lget ms k).r (.agg #[.int .i64 (lget ms k).r.f, .slice q.2.1 (lget ms k).r.args.length q.2.2]) := fun k hk => by
    obtain ⟨a, c, a2, c2, h3⟩ := (h2 k hk).2; exact ⟨((a, c), (a2, c2)), h3⟩
  have : Inhabited ((Option Addr × Nat) × (Option Addr × Nat)) := ⟨((none, 0), (none, 0))⟩
  obtain ⟨F, hF⟩ := Go.Deep.choose_lt key
  exact ⟨b, p, Bf, Pf, fun k => (F k).1.1, fun k => (F k).1.2, fun k => (F k).2.1, fun k => (F k).2.2, h1, fun k hk => ⟨(h2 k hk).1, hF k hk⟩⟩
end Go.Proofs.Ytnokgjajcnhkkaa

namespace Go.Proofs.Ytnokgjajcnhkkaa
open Go.RowKit Go
set_option linter.unusedVariables false
set_option linter.unusedSimpArgs false
/-- A row of terms that may be compared. -/
def SmallR (l : List T) : Prop := l.length ≤ 1048576 ∧ ∀ t ∈ l, t.size ≤ 4294967296
set_option maxRecDepth 100000 in
theorem lits1_any (o : Od) (go gy : Nat) (p1 p2 : Option Addr) (k1 k2 : Nat) (x y : List T) (w : World) (a1 a2 : Option Addr) (c1 c2 : Nat) (hB : Blk w go 24 #[.bool o.lpo, .slice p1 o.prec.length k1, .slice p2 o.weights.length k2, .int .i64 o.var]) (ho : IsOd w o (.agg #[.bool o.lpo, .slice p1 o.prec.length k1, .slice p2 o.weights.length k2, .int .i64 o.var])) (hy : Blk w gy 64 #[.func (.func 45) #[] #[.pointer (some ⟨go, 0, none⟩)]]) (h1 : IsTs w x a1 0) (h2 : IsTs w y a2 0) (z1 : SmallR x) (z2 : SmallR y) :
  Calls Try.prog 43 #[.slice a1 x.length c1, .slice a2 y.length c2, .pointer (some ⟨gy, 0, none⟩)] w (Ret fun v' w' => v' = .int .i64 (multiP o.ok2 x y) ∧ Below w.heap.size w w') := by
 refine Calls.walk (l := [.slice a1 x.length c1, .slice a2 y.length c2, .pointer (some ⟨gy, 0, none⟩)]) Try.func43 rfl (by kernel_rfl) ?_
 refine WC.sub (K' := [(0, .slice a1 x.length c1), (1, .slice a2 y.length c2), (2, .pointer (some ⟨gy, 0, none⟩))]) ⟨rfl, rfl, rfl, trivial⟩ ?_
 refine WC.seq (WC.region (WL.asg rfl rfl rfl rfl rfl (WL.nil (WE.next (WC.seq (WC.region (WL.mv rfl rfl rfl rfl rfl (WL.mv rfl rfl rfl rfl rfl ?_))))))))
 refine WL.val _ rfl rfl rfl (fun za zC zh zk => ld_64 rfl (zh.ev rfl) ((hy.cell 0).trans rfl) zk) ?_
 refine WL.call rfl rfl rfl (fun za zh zC => wp_call (by kernel_rfl) rfl (hv3 (zh.ev rfl) (zh.ev rfl) (zh.ev rfl))) (multiT_any o go p1 p2 k1 k2 x y _ _ _ _ _ (h1.below (Below.refl _ _)) (h2.below (Below.refl _ _)) (hB.below (Below.refl _ _)) (ho.below (Below.refl _ _)) z1.2 z2.2 z1.1 z2.1) ?_
 rintro _ w2 ⟨rfl, hq1⟩
 refine WL.asg rfl rfl rfl rfl rfl (WL.nil (WE.next (WC.ret (WE.ret1 rfl rfl ?_))))
 exact ⟨_, rfl, rfl, hq1⟩
set_option maxRecDepth 100000 in
theorem allR_any (o : Od) (go gy : Nat) (p1 p2 : Option Addr) (k1 k2 : Nat) (L R : List (List T)) (w0 w : World) (gb : Nat) (r1 r2 : Option Addr) (c1 c2 : Nat) (S1 S2 : Nat → Prop) (hL : PRow (AtR w0) w S1 r1 L.length L) (hR : PRow (AtR w0) w S2 r2 R.length R) (hz1 : ∀ x ∈ L, SmallR x) (hz2 : ∀ x ∈ R, SmallR x) (hl1 : L.length ≤ 1048576) (hl2 : R.length ≤ 1048576) (hw : Below w0.heap.size w0 w) (hB : Blk w0 go 24 #[.bool o.lpo, .slice p1 o.prec.length k1, .slice p2 o.weights.length k2, .int .i64 o.var]) (ho : IsOd w0 o (.agg #[.bool o.lpo, .slice p1 o.prec.length k1, .slice p2 o.weights.length k2, .int .i64 o.var])) (hy : Blk w0 gy 64 #[.func (.func 45) #[] #[.pointer (some ⟨go, 0, none⟩)]]) (hgb : Blk w gb 70 #[.func (.func 43) #[] #[.pointer (some ⟨gy, 0, none⟩)]]) :
  Calls Try.prog 48 #[.slice r1 L.length c1, .slice r2 R.length c2, .pointer (some ⟨gb, 0, none⟩)] w (Ret fun v' w' => v' = .bool (allAb (multiP o.ok2) L R) ∧ Below w.heap.size w w') := by
 refine Calls.walk (l := [.slice r1 L.length c1, .slice r2 R.length c2, .pointer (some ⟨gb, 0, none⟩)]) Try.func48 rfl (by kernel_rfl) ?_
 refine WC.sub (K' := [(0, .slice r1 L.length c1), (1, .slice r2 R.length c2), (2, .pointer (some ⟨gb, 0, none⟩))]) ⟨rfl, rfl, rfl, trivial⟩ ?_
 refine WC.seq (WC.region (WL.asg rfl rfl rfl rfl rfl (WL.nil (WE.next (WC.seq (WC.seq (WC.region (WL.mv rfl rfl rfl rfl rfl ?_))))))))
 refine WL.val (.int .i64 (((R.length : Nat) : Int))) rfl rfl rfl (fun za zC zh zk => len_73 rfl (zh.ev rfl) zk) ?_
 refine WL.mv rfl rfl rfl rfl rfl (WL.nil (WE.next (WC.block ?_)))
 refine WC.loop (X := Nat) (fun j => R.length - j) (fun j => [(0, .slice r1 L.length c1), (1, .slice r2 R.length c2), (2, .pointer (some ⟨gb, 0, none⟩)), (11, .slice r2 R.length c2), (12, .int .i64 (((R.length : Nat) : Int))), (13, .int .i64 (((j : Nat) : Int)))]) (fun j w1 => j ≤ R.length ∧ (∀ q, q < j → L.any (fun p => (multiP o.ok2) p (rget R q) == 3) = true) ∧ Below w.heap.size w w1 ∧ Blk w1 gb 70 #[.func (.func 43) #[] #[.pointer (some ⟨gy, 0, none⟩)]]) 0 ⟨rfl, rfl, rfl, rfl, rfl, rfl, trivial⟩ ?_ ?_
 ·exact ⟨Nat.zero_le _, fun q h => absurd h (Nat.not_lt_zero q), (Below.refl _ _), hgb⟩
 ·rintro j w1 ⟨hj, hE, hb2, hB3⟩
  refine WC.seq (WC.region ?_)
  refine WL.val (.bool ((decide ((((j : Nat) : Int) : Int) < (((R.length : Nat) : Int) : Int))))) rfl rfl rfl (fun za zC zh zk => lss_3 rfl (zh.ev rfl) (zh.ev rfl) zk) ?_
  refine WL.nil (WE.next (WC.seq ?_))
  refine WC.cond rfl (fun h4 => ?_) (fun h4 => ?_)
  ·have h4 : (((j : Nat) : Int) : Int) < (((R.length : Nat) : Int) : Int) := by simpa using h4
   refine WC.skip (WE.next (WC.seq (WC.block (WC.seq (WC.region ?_)))))
   obtain ⟨b5, o6, Bf7, Pf8, A9, C10, ha11, hc12⟩ := PRow.openR (hR.below hb2)
   refine WL.val _ rfl rfl rfl (fun za zC zh zk => ix_73 (k := j) rfl (zh.ev rfl) (ha11 j (by first | omega | (simp; omega))) (zh.ev rfl) (by first | omega | (simp; omega)) zk) ?_
   refine WL.val _ rfl rfl rfl (fun za zC zh zk => ld_74 rfl (zh.ev rfl) (hc12 j (by first | omega | (simp; omega))).1 zk) ?_
   refine WL.asg rfl rfl rfl rfl rfl (WL.nil (WE.next (WC.seq (WC.region (WL.asg rfl rfl rfl rfl rfl (WL.nil (WE.next (WC.seq (WC.seq (WC.region (WL.mv rfl rfl rfl rfl rfl ?_)))))))))))
   refine WL.val (.int .i64 (((L.length : Nat) : Int))) rfl rfl rfl (fun za zC zh zk => len_73 rfl (zh.ev rfl) zk) ?_
   refine WL.mv rfl rfl rfl rfl rfl (WL.nil (WE.next (WC.block ?_)))
   refine WC.loop (X := Nat) (fun i => L.length - i) (fun i => [(0, .slice r1 L.length c1), (1, .slice r2 R.length c2), (2, .pointer (some ⟨gb, 0, none⟩)), (7, .pointer (some ⟨(Bf7 j), (Pf8 j), none⟩)), (8, .bool (((L.take i).any (fun p => (multiP o.ok2) p (rget R j) == 3)))), (11, .slice r2 R.length c2), (12, .int .i64 (((R.length : Nat) : Int))), (13, .int .i64 (((j : Nat) : Int))), (14, .bool ((decide ((((j : Nat) : Int) : Int) < (((R.length : Nat) : Int) : Int))))), (17, .slice r1 L.length c1), (18, .int .i64 (((L.length : Nat) : Int))), (19, .int .i64 (((i : Nat) : Int)))]) (fun i w13 => i ≤ L.length ∧ Below w.heap.size w w13 ∧ Blk w13 gb 70 #[.func (.func 43) #[] #[.pointer (some ⟨gy, 0, none⟩)]]) 0 ⟨rfl, rfl, rfl, rfl, rfl, rfl, rfl, rfl, rfl, rfl, rfl, rfl, trivial⟩ ?_ ?_
   ·exact ⟨Nat.zero_le _, hb2, hB3⟩
   ·rintro i w13 ⟨hi, hb14, hB15⟩
    refine WC.seq (WC.region ?_)
    refine WL.val (.bool ((decide ((((i : Nat) : Int) : Int) < (((L.length : Nat) : Int) : Int))))) rfl rfl rfl (fun za zC zh zk => lss_3 rfl (zh.ev rfl) (zh.ev rfl) zk) ?_
    refine WL.nil (WE.next (WC.seq ?_))
    refine WC.cond rfl (fun h16 => ?_) (fun h16 => ?_)
    ·have h16 : (((i : Nat) : Int) : Int) < (((L.length : Nat) : Int) : Int) := by simpa using h16
     refine WC.skip (WE.next (WC.seq (WC.block (WC.seq (WC.region ?_)))))
     obtain ⟨b17, o18, Bf19, Pf20, A21, C22, ha23, hc24⟩ := PRow.openR (hL.below hb14)
     refine WL.val _ rfl rfl rfl (fun za zC zh zk => ix_73 (k := i) rfl (zh.ev rfl) (ha23 i (by first | omega | (simp; omega))) (zh.ev rfl) (by first | omega | (simp; omega)) zk) ?_
     refine WL.val _ rfl rfl rfl (fun za zC zh zk => ld_74 rfl (zh.ev rfl) (hc24 i (by first | omega | (simp; omega))).1 zk) ?_
     refine WL.asg rfl rfl rfl rfl rfl (WL.nil (WE.next ?_))
     refine WC.seqV (S := ((fun b => b < 0))) [(true, .val (.bool (((L.take i).any (fun p => (multiP o.ok2) p (rget R j) == 3))))), (true, .val (.bool (((L.take i).any (fun p => (multiP o.ok2) p (rget R j) == 3))))), ((true && !((L.take i).any (fun p => (multiP o.ok2) p (rget R j) == 3))), .val (.func (.func 43) #[] #[.pointer (some ⟨gy, 0, none⟩)])), ((true && !((L.take i).any (fun p => (multiP o.ok2) p (rget R j) == 3))), .val (.pointer (some ⟨(Bf19 i), (Pf20 i), none⟩))), ((true && !((L.take i).any (fun p => (multiP o.ok2) p (rget R j) == 3))), .val (.pointer (some ⟨(Bf19 i), (Pf20 i), none⟩))), ((true && !((L.take i).any (fun p => (multiP o.ok2) p (rget R j) == 3))), .val (.slice ((A21 i)) ((rget L i).length) ((C22 i)))), ((true && !((L.take i).any (fun p => (multiP o.ok2) p (rget R j) == 3))), .val (.pointer (some ⟨(Bf7 j), (Pf8 j), none⟩))), ((true && !((L.take i).any (fun p => (multiP o.ok2) p (rget R j) == 3))), .val (.pointer (some ⟨(Bf7 j), (Pf8 j), none⟩))), ((true && !((L.take i).any (fun p => (multiP o.ok2) p (rget R j) == 3))), .val (.slice ((A9 j)) ((rget R j).length) ((C10 j)))), ((true && !((L.take i).any (fun p => (multiP o.ok2) p (rget R j) == 3))), .val (.int .i64 (((multiP o.ok2) (rget L i) (rget R j))))), ((true && !((L.take i).any (fun p => (multiP o.ok2) p (rget R j) == 3))), .val (.bool (((((multiP o.ok2) (rget L i) (rget R j)) : Int) == (3 : Int))))), (true, .val (.bool ((((L.take i).any (fun p => (multiP o.ok2) p (rget R j) == 3)) || ((((multiP o.ok2) (rget L i) (rget R j)) : Int) == (3 : Int)))))), (true, .val undef)] [(0, .slice r1 L.length c1), (1, .slice r2 R.length c2), (2, .pointer (some ⟨gb, 0, none⟩)), (7, .pointer (some ⟨(Bf7 j), (Pf8 j), none⟩)), (10, .pointer (some ⟨(Bf19 i), (Pf20 i), none⟩)), (11, .slice r2 R.length c2), (12, .int .i64 (((R.length : Nat) : Int))), (13, .int .i64 (((j : Nat) : Int))), (14, .bool ((decide ((((j : Nat) : Int) : Int) < (((R.length : Nat) : Int) : Int))))), (17, .slice r1 L.length c1), (18, .int .i64 (((L.length : Nat) : Int))), (19, .int .i64 (((i : Nat) : Int))), (20, .bool ((decide ((((i : Nat) : Int) : Int) < (((L.length : Nat) : Int) : Int)))))] [12] [some (true, .bool ((((L.take i).any (fun p => (multiP o.ok2) p (rget R j) == 3)) || ((multiP o.ok2) (rget L i) (rget R j) == 3))))] (fun _ _ => True) ((fun _ _ _ _ _ => trivial)) (by decide) ⟨rfl, rfl, rfl, rfl, rfl, rfl, rfl, rfl, rfl, rfl, rfl, rfl, rfl, trivial⟩ (by kernel_rfl) (by kernel_rfl) (by kernel_rfl) (by kernel_rfl) trivial ?_ ?_
     ·refine ⟨.inl ⟨rfl, true, .none rfl, (fun gg b h => by cases h), fun h w => optUndef h, fun zβ za zw zc => ?_⟩, ?_⟩
      ·exact wp_move rfl ((evt za 8).trans (zc.old 8 _ rfl (by kernel_rfl))) ⟨_, rfl, Below.refl _ _, optDef zβ rfl⟩
      refine ⟨.inl ⟨rfl, true, .none rfl, (fun gg b h => by cases h), fun h w => optUndef h, fun zβ za zw zc => ?_⟩, ?_⟩
      ·exact wp_move rfl ((evt za 23).trans (optSVal (zc.dep 0 23 (by kernel_rfl) (by decide)) rfl rfl)) ⟨_, rfl, Below.refl _ _, optDef zβ rfl⟩
      refine ⟨.inl ⟨rfl, (true && !((L.take i).any (fun p => (multiP o.ok2) p (rget R j) == 3))), .no (c := ((L.take i).any (fun p => (multiP o.ok2) p (rget R j) == 3))) (d := true) rfl (fun v w h => h), (fun gg b h => by cases h; rfl), fun h w => optUndef h, fun zβ za zw zc => ?_⟩, ?_⟩
      ·exact ld_70 rfl (zc.kn.ev rfl) (bkeeps (Chg.toBelow zc.chg) _ _ ((hB15.cell 0).trans rfl)) ⟨_, rfl, Below.refl _ _, optDef zβ rfl⟩
      refine ⟨.inl ⟨rfl, (true && !((L.take i).any (fun p => (multiP o.ok2) p (rget R j) == 3))), .no (c := ((L.take i).any (fun p => (multiP o.ok2) p (rget R j) == 3))) (d := true) rfl (fun v w h => h), (fun gg b h => by cases h; rfl), fun h w => optUndef h, fun zβ za zw zc => ?_⟩, ?_⟩
      ·exact wp_move rfl (zc.kn.ev rfl) ⟨_, rfl, Below.refl _ _, optDef zβ rfl⟩
      refine ⟨.inl ⟨rfl, (true && !((L.take i).any (fun p => (multiP o.ok2) p (rget R j) == 3))), .no (c := ((L.take i).any (fun p => (multiP o.ok2) p (rget R j) == 3))) (d := true) rfl (fun v w h => h), (fun gg b h => by cases h; rfl), fun h w => optUndef h, fun zβ za zw zc => ?_⟩, ?_⟩
      ·exact nilCheck_ rfl ((evt za 26).trans (optSVal (zc.dep 3 26 (by kernel_rfl) (by decide)) rfl zβ)) ⟨_, rfl, Below.refl _ _, optDef zβ rfl⟩
      refine ⟨.inl ⟨rfl, (true && !((L.take i).any (fun p => (multiP o.ok2) p (rget R j) == 3))), .no (c := ((L.take i).any (fun p => (multiP o.ok2) p (rget R j) == 3))) (d := true) rfl (fun v w h => h), (fun gg b h => by cases h; rfl), fun h w => optUndef h, fun zβ za zw zc => ?_⟩, ?_⟩
      ·exact ld_32 rfl ((evt za 27).trans (optSVal (zc.dep 4 27 (by kernel_rfl) (by decide)) rfl zβ)) (bkeeps (Chg.toBelow zc.chg) _ _ (bkeeps (bstep hw hb14) _ _ (hc24 i (by first | omega | (have zz := zβ; simp only [Bool.and_eq_true, Bool.or_eq_true, Bool.true_and, Bool.not_eq_true', Bool.or_eq_false_iff, Bool.and_eq_false_iff, beq_eq_false_iff_ne, ne_eq, beq_iff_eq, decide_eq_true_eq, decide_eq_false_iff_not, bne_iff_ne, bne_eq_false_iff_eq] at zz; omega))).2.1)) ⟨_, rfl, Below.refl _ _, optDef zβ rfl⟩
      refine ⟨.inl ⟨rfl, (true && !((L.take i).any (fun p => (multiP o.ok2) p (rget R j) == 3))), .no (c := ((L.take i).any (fun p => (multiP o.ok2) p (rget R j) == 3))) (d := true) rfl (fun v w h => h), (fun gg b h => by cases h; rfl), fun h w => optUndef h, fun zβ za zw zc => ?_⟩, ?_⟩
      ·exact wp_move rfl (zc.kn.ev rfl) ⟨_, rfl, Below.refl _ _, optDef zβ rfl⟩
      refine ⟨.inl ⟨rfl, (true && !((L.take i).any (fun p => (multiP o.ok2) p (rget R j) == 3))), .no (c := ((L.take i).any (fun p => (multiP o.ok2) p (rget R j) == 3))) (d := true) rfl (fun v w h => h), (fun gg b h => by cases h; rfl), fun h w => optUndef h, fun zβ za zw zc => ?_⟩, ?_⟩
      ·exact nilCheck_ rfl ((evt za 29).trans (optSVal (zc.dep 6 29 (by kernel_rfl) (by decide)) rfl zβ)) ⟨_, rfl, Below.refl _ _, optDef zβ rfl⟩
      refine ⟨.inl ⟨rfl, (true && !((L.take i).any (fun p => (multiP o.ok2) p (rget R j) == 3))), .no (c := ((L.take i).any (fun p => (multiP o.ok2) p (rget R j) == 3))) (d := true) rfl (fun v w h => h), (fun gg b h => by cases h; rfl), fun h w => optUndef h, fun zβ za zw zc => ?_⟩, ?_⟩
      ·exact ld_32 rfl ((evt za 30).trans (optSVal (zc.dep 7 30 (by kernel_rfl) (by decide)) rfl zβ)) (bkeeps (Chg.toBelow zc.chg) _ _ (bkeeps (bstep hw hb14) _ _ (hc12 j (by first | omega | (have zz := zβ; simp only [Bool.and_eq_true, Bool.or_eq_true, Bool.true_and, Bool.not_eq_true', Bool.or_eq_false_iff, Bool.and_eq_false_iff, beq_eq_false_iff_ne, ne_eq, beq_iff_eq, decide_eq_true_eq, decide_eq_false_iff_not, bne_iff_ne, bne_eq_false_iff_eq] at zz; omega))).2.1)) ⟨_, rfl, Below.refl _ _, optDef zβ rfl⟩
      refine ⟨.inl ⟨rfl, (true && !((L.take i).any (fun p => (multiP o.ok2) p (rget R j) == 3))), .no (c := ((L.take i).any (fun p => (multiP o.ok2) p (rget R j) == 3))) (d := true) rfl (fun v w h => h), (fun gg b h => by cases h; rfl), fun h w => optUndef h, fun zβ za zw zc => ?_⟩, ?_⟩
      ·exact wp_callv (by kernel_rfl) rfl ((evt za 25).trans (optSVal (zc.dep 2 25 (by kernel_rfl) (by decide)) rfl zβ)) (hv2 ((evt za 28).trans (optSVal (zc.dep 5 28 (by kernel_rfl) (by decide)) rfl zβ)) ((evt za 31).trans (optSVal (zc.dep 8 31 (by kernel_rfl) (by decide)) rfl zβ))) (lits1_any o go gy p1 p2 k1 k2 (rget L i) (rget R j) _ _ _ _ _ (hB.below (bstep hw (bstep hb14 (Chg.toBelow zc.chg)))) (ho.below (bstep hw (bstep hb14 (Chg.toBelow zc.chg)))) (hy.below (bstep hw (bstep hb14 (Chg.toBelow zc.chg)))) ((hc24 i (by first | omega | (have zz := zβ; simp only [Bool.and_eq_true, Bool.or_eq_true, Bool.true_and, Bool.not_eq_true', Bool.or_eq_false_iff, Bool.and_eq_false_iff, beq_eq_false_iff_ne, ne_eq, beq_iff_eq, decide_eq_true_eq, decide_eq_false_iff_not, bne_iff_ne, bne_eq_false_iff_eq] at zz; omega))).2.2.below (bstep hw (bstep hb14 (Chg.toBelow zc.chg)))) ((hc12 j (by first | omega | (have zz := zβ; simp only [Bool.and_eq_true, Bool.or_eq_true, Bool.true_and, Bool.not_eq_true', Bool.or_eq_false_iff, Bool.and_eq_false_iff, beq_eq_false_iff_ne, ne_eq, beq_iff_eq, decide_eq_true_eq, decide_eq_false_iff_not, bne_iff_ne, bne_eq_false_iff_eq] at zz; omega))).2.2.below (bstep hw (bstep hb14 (Chg.toBelow zc.chg)))) (hz1 _ (rget_mem (by omega))) (hz2 _ (rget_mem (by omega)))) (fun v w' h => ⟨v, rfl, h.2, optDef zβ h.1⟩)
      refine ⟨.inl ⟨rfl, (true && !((L.take i).any (fun p => (multiP o.ok2) p (rget R j) == 3))), .no (c := ((L.take i).any (fun p => (multiP o.ok2) p (rget R j) == 3))) (d := true) rfl (fun v w h => h), (fun gg b h => by cases h; rfl), fun h w => optUndef h, fun zβ za zw zc => ?_⟩, ?_⟩
      ·exact eql_60 rfl ((evt za 32).trans (optSVal (zc.dep 9 32 (by kernel_rfl) (by decide)) rfl zβ)) (zc.kn.ev rfl) ⟨_, rfl, Below.refl _ _, optDef zβ rfl⟩
      refine ⟨.inl ⟨rfl, true, .none rfl, (fun gg b h => by cases h), fun h w => optUndef h, fun zβ za zw zc => ?_⟩, ?_⟩
      ·exact wp_or rfl ((evt za 24).trans (optSVal (zc.dep 1 24 (by kernel_rfl) (by decide)) rfl rfl)) (fun hp => ((evt za 33).trans (optSVal (zc.dep 10 33 (by kernel_rfl) (by decide)) rfl (bMkN zβ hp)))) ⟨_, rfl, Below.refl _ _, optDef zβ rfl⟩
      refine ⟨.inr ⟨0, rfl, by kernel_rfl, true, .none rfl, (fun gg b h => by cases h), (fun h => (nomatch h)), fun zβ za zw zvals zc => ?_⟩, ?_⟩
      ·obtain rfl := vlen0 zc.len
       have zn := zc.now
       exact wp_assign rfl (((evt za 34).trans (optSVal (zc.dep 11 34 (by kernel_rfl) (by decide)) rfl rfl))) ⟨_, rfl, .ofBelow (Below.refl _ _), trivial, cvIs rfl⟩
      exact trivial
     ·intro za w26 zvals zh zl hG27 hc28 zu zw zk
      obtain ⟨z0, rfl⟩ := vlen1 zl
      have zh := zh.cons (d := 8) (v := .bool ((((L.take i).any (fun p => (multiP o.ok2) p (rget R j) == 3)) || ((multiP o.ok2) (rget L i) (rget R j) == 3)))) (zk 0 12 8 _ _ rfl (by kernel_rfl) rfl rfl)
      have hb29 := Chg.toBelow hc28
      clear zu zw zk
      refine WE.go zh ?_
      refine WE.blockNormal (WE.next (WC.region ?_))
      refine WL.val (.int .i64 ((((i + 1) : Nat) : Int))) rfl rfl rfl (fun za zC zh zk => addb_3 rfl (zh.ev rfl) (zh.ev rfl) (wrap_eq (by omega) (by omega) (by omega)) zk) ?_
      refine WL.mv rfl rfl rfl rfl rfl (WL.nil ?_)
      have he30 : (((L.take i).any (fun p => (multiP o.ok2) p (rget R j) == 3)) || ((multiP o.ok2) (rget L i) (rget R j) == 3)) = ((L.take (i + 1)).any (fun p => (multiP o.ok2) p (rget R j) == 3)) := by rw [← take_snoc (d := []) (show i < L.length by omega), List.any_append]; simp [rget]
      rw [he30]
      refine WE.round (i + 1) ⟨rfl, rfl, rfl, rfl, rfl, rfl, rfl, rfl, rfl, rfl, rfl, rfl, trivial⟩ ?_ ?_
      ·have hb31 : Below w.heap.size w w26 := (bstep hb14 hb29)
       have hB32 := hB15.below hb29
       exact ⟨by omega, hb31, hB32⟩
      ·omega
    ·have h16 : ¬ ((((i : Nat) : Int) : Int) < (((L.length : Nat) : Int) : Int)) := by simpa using h16
     refine WC.exit (WE.thenExit (WE.thenExit (WE.blockIs rfl (WE.next (WC.seq (WC.region (WL.mv rfl rfl rfl rfl rfl ?_)))))))
     refine WL.val (.bool ((!((L.take i).any (fun p => (multiP o.ok2) p (rget R j) == 3))))) rfl rfl rfl (fun za zC zh zk => wp_not rfl (zh.ev rfl) zk) ?_
     refine WL.nil (WE.next ?_)
     refine WC.cond rfl (fun h33 => ?_) (fun h33 => ?_)
     ·have h33 : ¬ (((L.take i).any (fun p => (multiP o.ok2) p (rget R j) == 3)) = true) := by simpa using h33
      refine WC.seq (WC.region (WL.asg rfl rfl rfl rfl rfl (WL.nil (WE.next (WC.ret (WE.blockRet (WE.thenRet (WE.thenRet (WE.blockRet (WE.thenRet (WE.ret1 rfl rfl ?_)))))))))))
      exact ⟨_, rfl, congrArg Value.bool (by symm; rw [Bool.eq_false_iff]; intro e; unfold allAb at e; rw [List.all_eq_true] at e; have z := e R[j] (List.getElem_mem (by omega)); have z2 := h33; rw [List.take_of_length_le (by omega), rget_lt (by omega)] at z2; exact absurd z (by simpa using z2)), hb14⟩
     ·have h33 : ¬ (¬ (((L.take i).any (fun p => (multiP o.ok2) p (rget R j) == 3)) = true)) := by simpa using h33
      refine WC.skip (WE.blockNormal (WE.next (WC.region ?_)))
      refine WL.val (.int .i64 ((((j + 1) : Nat) : Int))) rfl rfl rfl (fun za zC zh zk => addb_3 rfl (zh.ev rfl) (zh.ev rfl) (wrap_eq (by omega) (by omega) (by omega)) zk) ?_
      refine WL.mv rfl rfl rfl rfl rfl (WL.nil ?_)
      refine WE.round (j + 1) ⟨rfl, rfl, rfl, rfl, rfl, rfl, trivial⟩ ?_ ?_
      ·exact ⟨by omega, fun q hq => by
         by_cases e : q = j
         ·rw [e]; have z := h33; rw [List.take_of_length_le (by omega)] at z; simpa using z
         ·exact hE q (by omega), hb14, hB15⟩
      ·omega
  ·have h4 : ¬ ((((j : Nat) : Int) : Int) < (((R.length : Nat) : Int) : Int)) := by simpa using h4
   refine WC.exit (WE.thenExit (WE.thenExit (WE.blockIs rfl (WE.next (WC.seq (WC.region (WL.asg rfl rfl rfl rfl rfl (WL.nil (WE.next (WC.ret (WE.ret1 rfl rfl ?_)))))))))))
   exact ⟨_, rfl, congrArg Value.bool (by symm; unfold allAb; rw [List.all_eq_true]; intro q hq; obtain ⟨k, hk, rfl⟩ := List.getElem_of_mem hq; have z := hE k (by omega); rwa [rget_lt hk] at z), hb2⟩
set_option maxRecDepth 100000 in
theorem multiR_any (o : Od) (go gy : Nat) (p1 p2 : Option Addr) (k1 k2 : Nat) (a b : List (List T)) (w : World) (xa xb : Option Addr) (ca cb : Nat) (ha : IsRs w a xa) (hb : IsRs w b xb) (hB : Blk w go 24 #[.bool o.lpo, .slice p1 o.prec.length k1, .slice p2 o.weights.length k2, .int .i64 o.var]) (ho : IsOd w o (.agg #[.bool o.lpo, .slice p1 o.prec.length k1, .slice p2 o.weights.length k2, .int .i64 o.var])) (hy : Blk w gy 64 #[.func (.func 45) #[] #[.pointer (some ⟨go, 0, none⟩)]]) (hza : ∀ x ∈ a, SmallR x) (hzb : ∀ x ∈ b, SmallR x) (hla : a.length ≤ 1048576) (hlb : b.length ≤ 1048576) :
  Calls Try.prog 41 #[.slice xa a.length ca, .slice xb b.length cb, .func (.func 43) #[] #[.pointer (some ⟨gy, 0, none⟩)]] w (Ret fun v' w' => v' = .int .i64 (multiP (multiP o.ok2) a b) ∧ Below w.heap.size w w') := by
 refine Calls.walk (l := [.slice xa a.length ca, .slice xb b.length cb, .func (.func 43) #[] #[.pointer (some ⟨gy, 0, none⟩)]]) Try.func41 rfl (by kernel_rfl) ?_
 refine WC.sub (K' := [(0, .slice xa a.length ca), (1, .slice xb b.length cb), (2, .func (.func 43) #[] #[.pointer (some ⟨gy, 0, none⟩)])]) ⟨rfl, rfl, rfl, trivial⟩ ?_
 refine WC.seq (WC.region ?_)
 refine WL.step (post := NewBlk w 70 #[.func (.func 43) #[] #[.pointer (some ⟨gy, 0, none⟩)]]) rfl rfl rfl (fun za zC zh zk => box_70 rfl (zh.ev rfl) (zk _ _ (newBlk _ _ _))) ?_
 rintro _ w1 ⟨g2, rfl, hg3, hB4, hb5, hz6⟩
 have hl7 : w.heap.size ≤ g2 := by omega
 refine WL.asg rfl rfl rfl rfl rfl (WL.nil (WE.next (WC.scope rfl (WC.seq ?_))))
 refine WC.twoMk [(true, .slice xa a.length ca), (true, .int .i64 (((a.length : Nat) : Int))), (true, undef), (true, .slice xb b.length cb), (true, .int .i64 (((b.length : Nat) : Int))), (true, undef), (true, undef), (true, undef)] [(0, .slice xa a.length ca), (1, .slice xb b.length cb), (2, .func (.func 43) #[] #[.pointer (some ⟨gy, 0, none⟩)]), (5, .pointer (some ⟨g2, 0, none⟩)), (6, .int .i64 0)] (n1 := 0) (c1 := a.length) (t1 := 74) (z1 := (madeCells (Value.cells (.pointer none)) a.length)) (n2 := b.length) (c2 := b.length) (t2 := 74) (z2 := (madeCells (Value.cells (.pointer none)) b.length)) 2 5 6 7 7 8 (by decide) (by kernel_rfl) rfl rfl ⟨rfl, rfl, rfl, rfl, rfl, trivial⟩ (by kernel_rfl) (by kernel_rfl) (by kernel_rfl) ?_ ?_
 ·refine ⟨.inl ⟨by decide, rfl, fun za zw zc => ?_⟩, ?_⟩
  ·exact wp_move rfl (zc.kn.ev rfl) ⟨_, rfl, rfl, optDef rfl rfl⟩
  refine ⟨.inl ⟨by decide, rfl, fun za zw zc => ?_⟩, ?_⟩
  ·exact len_67 rfl ((evt za 13).trans (valVal (zc.dep 0 13 (by kernel_rfl) (by decide)) rfl rfl)) ⟨_, rfl, rfl, optDef rfl rfl⟩
  refine ⟨.inr (.inl ⟨rfl, rfl, fun za zw zc => ?_⟩), ?_⟩
  ·exact wp_mkR (n := 0) (c := a.length) (z := .pointer none) (bytes := 8) Try.underlying73 (by kernel_rfl) (by decide) rfl (zc.kn.ev rfl) ((evt za 14).trans (valVal (zc.dep 1 14 (by kernel_rfl) (by decide)) rfl rfl)) (by omega) (by omega) ⟨rfl, rfl⟩
  refine ⟨.inl ⟨by decide, rfl, fun za zw zc => ?_⟩, ?_⟩
  ·exact wp_move rfl (zc.kn.ev rfl) ⟨_, rfl, rfl, optDef rfl rfl⟩
  refine ⟨.inl ⟨by decide, rfl, fun za zw zc => ?_⟩, ?_⟩
  ·exact len_67 rfl ((evt za 16).trans (valVal (zc.dep 3 16 (by kernel_rfl) (by decide)) rfl rfl)) ⟨_, rfl, rfl, optDef rfl rfl⟩
  refine ⟨.inr (.inr (.inl ⟨rfl, rfl, fun za zw zc => ?_⟩)), ?_⟩
  ·exact wp_mkR (n := b.length) (c := b.length) (z := .pointer none) (bytes := 8) Try.underlying73 (by kernel_rfl) (by decide) rfl ((evt za 17).trans (valVal (zc.dep 4 17 (by kernel_rfl) (by decide)) rfl rfl)) ((evt za 17).trans (valVal (zc.dep 4 17 (by kernel_rfl) (by decide)) rfl rfl)) (by omega) (by omega) ⟨rfl, rfl⟩
  refine ⟨.inr (.inr (.inr (.inl ⟨rfl, rfl, 15, by kernel_rfl, rfl⟩))), ?_⟩
  refine ⟨.inr (.inr (.inr (.inr ⟨rfl, rfl, 18, by kernel_rfl, rfl⟩))), ?_⟩
  exact trivial
 ·intro za w8 g9 g10 zh hb11 hg12 hg13 hne14 hB15 hB16 hv17 hv18 zu
  have hl19 : g2 < g9 := by have z1 := hB4.lt; omega
  have hl20 : w.heap.size ≤ g9 := by have z2 := (hb5).size; omega
  have hl21 : g2 < g10 := by have z1 := hB4.lt; omega
  have hl22 : w.heap.size ≤ g10 := by have z2 := (hb5).size; omega
  have zh := zh.cons (d := 7) hv17
  have zh := zh.cons (d := 8) hv18
  have hL23 : LRow (AtR w) w8 74 g9 a.length 0 [] := LRow.start hB15 (made_size _ _)
  have hL24 : LRow (AtR w) w8 74 g10 b.length 0 [] := LRow.start hB16 (made_size _ _)
  clear zu
  refine WE.go zh ?_
  refine WE.next (WC.seq (WC.seq (WC.region (WL.mv rfl rfl rfl rfl rfl ?_))))
  refine WL.val (.int .i64 (((b.length : Nat) : Int))) rfl rfl rfl (fun za zC zh zk => len_67 rfl (zh.ev rfl) zk) ?_
  refine WL.mv rfl rfl rfl rfl rfl (WL.nil (WE.next (WC.block ?_)))
  refine WC.loop (X := Nat) (fun i => b.length - i) (fun i => [(0, .slice xa a.length ca), (1, .slice xb b.length cb), (2, .func (.func 43) #[] #[.pointer (some ⟨gy, 0, none⟩)]), (5, .pointer (some ⟨g2, 0, none⟩)), (6, .int .i64 0), (7, .slice ((some ⟨g9, 0, none⟩)) 0 a.length), (8, .slice ((some ⟨g10, 0, none⟩)) b.length b.length), (20, .int .i64 (((b.length : Nat) : Int))), (21, .int .i64 (((i : Nat) : Int)))]) (fun i w25 => i ≤ b.length ∧ Below w.heap.size w w25 ∧ Blk w25 g2 70 #[.func (.func 43) #[] #[.pointer (some ⟨gy, 0, none⟩)]] ∧ LRow (AtR w) (w25) 74 g9 a.length (([] : List (List T))).length (([] : List (List T))) ∧ LRow (AtR w) (w25) 74 g10 b.length i (b.take i)) 0 ⟨rfl, rfl, rfl, rfl, rfl, rfl, rfl, rfl, rfl, trivial⟩ ?_ ?_
  ·have hb26 : Below w.heap.size w w8 := (bstep hb5 hb11)
   have hB27 := hB4.below hb11
   exact ⟨Nat.zero_le _, hb26, hB27, hL23, hL24⟩
  ·rintro i w25 ⟨hi, hb28, hB29, ho30, ho31⟩
   refine WC.seq (WC.region ?_)
   refine WL.val (.bool ((decide ((((i : Nat) : Int) : Int) < (((b.length : Nat) : Int) : Int))))) rfl rfl rfl (fun za zC zh zk => lss_3 rfl (zh.ev rfl) (zh.ev rfl) zk) ?_
   refine WL.nil (WE.next (WC.seq ?_))
   refine WC.cond rfl (fun h32 => ?_) (fun h32 => ?_)
   ·have h32 : (((i : Nat) : Int) : Int) < (((b.length : Nat) : Int) : Int) := by simpa using h32
    refine WC.skip (WE.next (WC.seq (WC.block (WC.seq (WC.region (WL.mv rfl rfl rfl rfl rfl (WL.asg rfl rfl rfl rfl rfl (WL.nil (WE.next (WC.region (WL.mv rfl rfl rfl rfl rfl (WL.mv rfl rfl rfl rfl rfl (WL.mv rfl rfl rfl rfl rfl (WL.mv rfl rfl rfl rfl rfl ?_))))))))))))))
    obtain ⟨b33, o34, A35, C36, ha37, hc38⟩ := IsRs.open hb
    refine WL.val _ rfl rfl rfl (fun za zC zh zk => ix_67 (k := i) rfl (zh.ev rfl) (ha37 i (by first | omega | (simp; omega))) (zh.ev rfl) (by first | omega | (simp; omega)) zk) ?_
    refine WL.val _ rfl rfl rfl (fun za zC zh zk => ix_73 (k := i) rfl (zh.ev rfl) rfl (zh.ev rfl) (by first | omega | (simp; omega)) zk) ?_
    obtain ⟨zcs, hx43, hx43z⟩ := ho31.cells (by omega)
    refine WL.step (post := fun _ w' => Upd g10 w25 w' ∧ LRow (AtR w) w' 74 g10 b.length (i + 1) (b.take (i + 1))) rfl rfl rfl (fun za zC zh zk => st_74 rfl (zh.ev rfl) (zh.ev rfl) hx43 hx43z (fun v => zk v _ ⟨Upd.at_ _ _ _ _, by rw [← take_snoc (d := []) (show i < b.length by omega)]; exact LRow.storeAt (by omega) ho31 (by omega) (show AtR w _ _ _ from ⟨_, _, hc38 i (by omega)⟩)⟩)) ?_
    rintro v42 w39 ⟨hu40, hL41⟩
    have hb44 := upd_below hb28 hu40 (by omega)
    have hB45 := upd_blk hB29 hu40 (by omega)
    have ho46 := ho30.upd hu40 (by omega)
    refine WL.nil (WE.blockNormal (WE.next (WC.region ?_)))
    refine WL.val (.int .i64 ((((i + 1) : Nat) : Int))) rfl rfl rfl (fun za zC zh zk => addb_3 rfl (zh.ev rfl) (zh.ev rfl) (wrap_eq (by omega) (by omega) (by omega)) zk) ?_
    refine WL.mv rfl rfl rfl rfl rfl (WL.nil ?_)
    refine WE.round (i + 1) ⟨rfl, rfl, rfl, rfl, rfl, rfl, rfl, rfl, rfl, trivial⟩ ?_ ?_
    ·exact ⟨by omega, hb44, hB45, ho46, hL41⟩
    ·omega
   ·have h32 : ¬ ((((i : Nat) : Int) : Int) < (((b.length : Nat) : Int) : Int)) := by simpa using h32
    refine WC.exit (WE.thenExit (WE.thenExit (WE.blockIs rfl (WE.next (WC.seq (WC.label (WE.next (WC.seq (WC.seq (WC.region (WL.mv rfl rfl rfl rfl rfl ?_)))))))))))
    refine WL.val (.int .i64 (((a.length : Nat) : Int))) rfl rfl rfl (fun za zC zh zk => len_67 rfl (zh.ev rfl) zk) ?_
    refine WL.mv rfl rfl rfl rfl rfl (WL.nil (WE.next (WC.block ?_)))
    have hib : i = b.length := by omega
    have hR47 : PRow (AtR w) w25 (fun b => w.heap.size ≤ b ∧ b ≠ g9) (some ⟨g10, 0, none⟩) b.length b := by
     have z := (ho31).prow
     rw [hib, List.take_of_length_le (Nat.le_refl _)] at z
     exact z.mono (fun q e _ => by subst e; exact ⟨by omega, fun e2 => hne14 e2.symm⟩)
    refine WC.loop (X := Nat × List (List T) × Option Addr × Nat × List (List T)) (fun x => a.length - x.1) (fun x => [(0, .slice xa a.length ca), (1, .slice xb b.length cb), (2, .func (.func 43) #[] #[.pointer (some ⟨gy, 0, none⟩)]), (5, .pointer (some ⟨g2, 0, none⟩)), (6, .int .i64 0), (7, .slice ((some ⟨g9, 0, none⟩)) x.2.1.length a.length), (8, .slice x.2.2.1 x.2.2.2.2.length x.2.2.2.1), (20, .int .i64 (((b.length : Nat) : Int))), (21, .int .i64 (((i : Nat) : Int))), (22, .bool ((decide ((((i : Nat) : Int) : Int) < (((b.length : Nat) : Int) : Int))))), (32, .int .i64 (((a.length : Nat) : Int))), (33, .int .i64 (((x.1 : Nat) : Int)))]) (fun x w48 => x.1 ≤ a.length ∧ multiLR (multiP o.ok2) a b = (x.2.1 ++ (multiLR (multiP o.ok2) (a.drop x.1) x.2.2.2.2).1, (multiLR (multiP o.ok2) (a.drop x.1) x.2.2.2.2).2) ∧ x.2.1.length ≤ x.1 ∧ x.2.2.2.2.length ≤ x.2.2.2.1 ∧ x.2.2.2.2.length ≤ b.length ∧ (∀ y ∈ x.2.1, y ∈ a) ∧ (∀ y ∈ x.2.2.2.2, y ∈ b) ∧ Below w.heap.size w w48 ∧ Blk w48 g2 70 #[.func (.func 43) #[] #[.pointer (some ⟨gy, 0, none⟩)]] ∧ LRow (AtR w) (w48) 74 g9 a.length (x.2.1).length x.2.1 ∧ PRow (AtR w) (w48) (fun b => w.heap.size ≤ b ∧ b ≠ g9) x.2.2.1 (x.2.2.2.2).length x.2.2.2.2) ((0, [], some ⟨g10, 0, none⟩, b.length, b)) ⟨rfl, rfl, rfl, rfl, rfl, rfl, rfl, rfl, rfl, rfl, rfl, rfl, trivial⟩ ?_ ?_
    ·exact ⟨Nat.zero_le _, by simp, Nat.le_refl _, Nat.le_refl _, Nat.le_refl _, (fun y hy => (nomatch hy)), fun y hy => hy, hb28, hB29, ho30, hR47⟩
    ·rintro x w48 ⟨hi, hM, hLl, hRc, hRb, hLm, hRm, hb49, hB50, ho51, ho52⟩
     refine WC.seq (WC.region ?_)
     refine WL.val (.bool ((decide ((((x.1 : Nat) : Int) : Int) < (((a.length : Nat) : Int) : Int))))) rfl rfl rfl (fun za zC zh zk => lss_3 rfl (zh.ev rfl) (zh.ev rfl) zk) ?_
     refine WL.nil (WE.next (WC.seq ?_))
     refine WC.cond rfl (fun h53 => ?_) (fun h53 => ?_)
     ·have h53 : (((x.1 : Nat) : Int) : Int) < (((a.length : Nat) : Int) : Int) := by simpa using h53
      refine WC.skip (WE.next (WC.seq (WC.block (WC.seq (WC.region (WL.mv rfl rfl rfl rfl rfl (WL.asg rfl rfl rfl rfl rfl (WL.nil (WE.next (WC.seq (WC.seq (WC.region (WL.mv rfl rfl rfl rfl rfl ?_)))))))))))))
      refine WL.val (.int .i64 (((x.2.2.2.2.length : Nat) : Int))) rfl rfl rfl (fun za zC zh zk => len_73 rfl (zh.ev rfl) zk) ?_
      refine WL.mv rfl rfl rfl rfl rfl (WL.nil (WE.next (WC.block ?_)))
      refine WC.loop (X := Nat) (fun j => x.2.2.2.2.length - j) (fun j => [(0, .slice xa a.length ca), (1, .slice xb b.length cb), (2, .func (.func 43) #[] #[.pointer (some ⟨gy, 0, none⟩)]), (5, .pointer (some ⟨g2, 0, none⟩)), (6, .int .i64 0), (7, .slice ((some ⟨g9, 0, none⟩)) x.2.1.length a.length), (8, .slice x.2.2.1 x.2.2.2.2.length x.2.2.2.1), (10, .int .i64 (((x.1 : Nat) : Int))), (20, .int .i64 (((b.length : Nat) : Int))), (21, .int .i64 (((i : Nat) : Int))), (22, .bool ((decide ((((i : Nat) : Int) : Int) < (((b.length : Nat) : Int) : Int))))), (32, .int .i64 (((a.length : Nat) : Int))), (33, .int .i64 (((x.1 : Nat) : Int))), (34, .bool ((decide ((((x.1 : Nat) : Int) : Int) < (((a.length : Nat) : Int) : Int))))), (37, .int .i64 (((x.2.2.2.2.length : Nat) : Int))), (38, .int .i64 (((j : Nat) : Int)))]) (fun j w54 => j ≤ x.2.2.2.2.length ∧ (∀ q, q < j → ¬ (multiP o.ok2) (rget a x.1) (rget x.2.2.2.2 q) = 2) ∧ Below w.heap.size w w54 ∧ Blk w54 g2 70 #[.func (.func 43) #[] #[.pointer (some ⟨gy, 0, none⟩)]] ∧ LRow (AtR w) (w54) 74 g9 a.length (x.2.1).length x.2.1 ∧ PRow (AtR w) (w54) (fun b => w.heap.size ≤ b ∧ b ≠ g9) x.2.2.1 (x.2.2.2.2).length x.2.2.2.2) 0 ⟨rfl, rfl, rfl, rfl, rfl, rfl, rfl, rfl, rfl, rfl, rfl, rfl, rfl, rfl, rfl, rfl, trivial⟩ ?_ ?_
      ·exact ⟨Nat.zero_le _, fun q h => absurd h (Nat.not_lt_zero q), hb49, hB50, ho51, ho52⟩
      ·rintro j w54 ⟨hj, hN, hb55, hB56, ho57, ho58⟩
       refine WC.seq (WC.region ?_)
       refine WL.val (.bool ((decide ((((j : Nat) : Int) : Int) < (((x.2.2.2.2.length : Nat) : Int) : Int))))) rfl rfl rfl (fun za zC zh zk => lss_3 rfl (zh.ev rfl) (zh.ev rfl) zk) ?_
       refine WL.nil (WE.next (WC.seq ?_))
       refine WC.cond rfl (fun h59 => ?_) (fun h59 => ?_)
       ·have h59 : (((j : Nat) : Int) : Int) < (((x.2.2.2.2.length : Nat) : Int) : Int) := by simpa using h59
        refine WC.skip (WE.next (WC.seq (WC.block (WC.seq (WC.region (WL.mv rfl rfl rfl rfl rfl (WL.asg rfl rfl rfl rfl rfl (WL.nil (WE.next (WC.seq ?_))))))))))
        obtain ⟨b60, o61, A62, C63, ha64, hc65⟩ := IsRs.open ha
        obtain ⟨b66, o67, Bf68, Pf69, A70, C71, ha72, hc73⟩ := PRow.openR ho58
        refine WC.opt [(true, .val (.func (.func 43) #[] #[.pointer (some ⟨gy, 0, none⟩)])), (true, .val (.slice xa a.length ca)), (true, .val (.int .i64 (((x.1 : Nat) : Int)))), (true, .val (.pointer (some ⟨b60, o61 + x.1, none⟩))), (true, .val (.slice ((A62 x.1)) ((rget a x.1).length) ((C63 x.1)))), (true, .val (.slice x.2.2.1 x.2.2.2.2.length x.2.2.2.1)), (true, .val (.int .i64 (((j : Nat) : Int)))), (true, .val (.pointer (some ⟨b66, o67 + j, none⟩))), (true, .val (.pointer (some ⟨(Bf68 j), (Pf69 j), none⟩))), (true, .val (.pointer (some ⟨(Bf68 j), (Pf69 j), none⟩))), (true, .val (.slice ((A70 j)) ((rget x.2.2.2.2 j).length) ((C71 j)))), (true, .val (.int .i64 (((multiP o.ok2) (rget a x.1) (rget x.2.2.2.2 j))))), (true, .val (.bool (((((multiP o.ok2) (rget a x.1) (rget x.2.2.2.2 j)) : Int) == (2 : Int)))))] [(0, .slice xa a.length ca), (1, .slice xb b.length cb), (2, .func (.func 43) #[] #[.pointer (some ⟨gy, 0, none⟩)]), (5, .pointer (some ⟨g2, 0, none⟩)), (6, .int .i64 0), (7, .slice ((some ⟨g9, 0, none⟩)) x.2.1.length a.length), (8, .slice x.2.2.1 x.2.2.2.2.length x.2.2.2.1), (10, .int .i64 (((x.1 : Nat) : Int))), (11, .int .i64 (((j : Nat) : Int))), (20, .int .i64 (((b.length : Nat) : Int))), (21, .int .i64 (((i : Nat) : Int))), (22, .bool ((decide ((((i : Nat) : Int) : Int) < (((b.length : Nat) : Int) : Int))))), (32, .int .i64 (((a.length : Nat) : Int))), (33, .int .i64 (((x.1 : Nat) : Int))), (34, .bool ((decide ((((x.1 : Nat) : Int) : Int) < (((a.length : Nat) : Int) : Int))))), (37, .int .i64 (((x.2.2.2.2.length : Nat) : Int))), (38, .int .i64 (((j : Nat) : Int))), (39, .bool ((decide ((((j : Nat) : Int) : Int) < (((x.2.2.2.2.length : Nat) : Int) : Int)))))] ⟨rfl, rfl, rfl, rfl, rfl, rfl, rfl, rfl, rfl, rfl, rfl, rfl, rfl, rfl, rfl, rfl, rfl, rfl, trivial⟩ (by kernel_rfl) (by kernel_rfl) (by kernel_rfl) ?_ ?_
        ·refine ⟨⟨true, .none rfl, fun h w => optUndef h, fun zβ za zw zc => ?_⟩, ?_⟩
         ·exact ld_70 rfl (zc.kn.ev rfl) (bkeeps zc.below _ _ ((hB56.cell 0).trans rfl)) ⟨_, rfl, Below.refl _ _, optDef zβ rfl⟩
         refine ⟨⟨true, .none rfl, fun h w => optUndef h, fun zβ za zw zc => ?_⟩, ?_⟩
         ·exact wp_move rfl (zc.kn.ev rfl) ⟨_, rfl, Below.refl _ _, optDef zβ rfl⟩
         refine ⟨⟨true, .none rfl, fun h w => optUndef h, fun zβ za zw zc => ?_⟩, ?_⟩
         ·exact wp_move rfl (zc.kn.ev rfl) ⟨_, rfl, Below.refl _ _, optDef zβ rfl⟩
         refine ⟨⟨true, .none rfl, fun h w => optUndef h, fun zβ za zw zc => ?_⟩, ?_⟩
         ·exact ix_67 (k := x.1) rfl ((evt za 42).trans (optVal (zc.dep 1 42 (by kernel_rfl)) rfl rfl)) (ha64 x.1 (by first | omega | (simp; omega))) ((evt za 43).trans (optVal (zc.dep 2 43 (by kernel_rfl)) rfl rfl)) (by first | omega | (simp; omega)) ⟨_, rfl, Below.refl _ _, optDef zβ rfl⟩
         refine ⟨⟨true, .none rfl, fun h w => optUndef h, fun zβ za zw zc => ?_⟩, ?_⟩
         ·exact ld_32 rfl ((evt za 44).trans (optVal (zc.dep 3 44 (by kernel_rfl)) rfl rfl)) (bkeeps (bstep hb55 zc.below) _ _ (hc65 x.1 (by first | omega | (simp; omega))).1) ⟨_, rfl, Below.refl _ _, optDef zβ rfl⟩
         refine ⟨⟨true, .none rfl, fun h w => optUndef h, fun zβ za zw zc => ?_⟩, ?_⟩
         ·exact wp_move rfl (zc.kn.ev rfl) ⟨_, rfl, Below.refl _ _, optDef zβ rfl⟩
         refine ⟨⟨true, .none rfl, fun h w => optUndef h, fun zβ za zw zc => ?_⟩, ?_⟩
         ·exact wp_move rfl (zc.kn.ev rfl) ⟨_, rfl, Below.refl _ _, optDef zβ rfl⟩
         refine ⟨⟨true, .none rfl, fun h w => optUndef h, fun zβ za zw zc => ?_⟩, ?_⟩
         ·exact ix_73 (k := j) rfl ((evt za 46).trans (optVal (zc.dep 5 46 (by kernel_rfl)) rfl rfl)) (ha72 j (by first | omega | (simp; omega))) ((evt za 47).trans (optVal (zc.dep 6 47 (by kernel_rfl)) rfl rfl)) (by first | omega | (simp; omega)) ⟨_, rfl, Below.refl _ _, optDef zβ rfl⟩
         refine ⟨⟨true, .none rfl, fun h w => optUndef h, fun zβ za zw zc => ?_⟩, ?_⟩
         ·exact ld_74 rfl ((evt za 48).trans (optVal (zc.dep 7 48 (by kernel_rfl)) rfl rfl)) (bkeeps zc.below _ _ (hc73 j (by first | omega | (simp; omega))).1) ⟨_, rfl, Below.refl _ _, optDef zβ rfl⟩
         refine ⟨⟨true, .none rfl, fun h w => optUndef h, fun zβ za zw zc => ?_⟩, ?_⟩
         ·exact nilCheck_ rfl ((evt za 49).trans (optVal (zc.dep 8 49 (by kernel_rfl)) rfl rfl)) ⟨_, rfl, Below.refl _ _, optDef zβ rfl⟩
         refine ⟨⟨true, .none rfl, fun h w => optUndef h, fun zβ za zw zc => ?_⟩, ?_⟩
         ·exact ld_32 rfl ((evt za 50).trans (optVal (zc.dep 9 50 (by kernel_rfl)) rfl rfl)) (bkeeps zc.below _ _ (bkeeps hb55 _ _ (hc73 j (by first | omega | (simp; omega))).2.1)) ⟨_, rfl, Below.refl _ _, optDef zβ rfl⟩
         refine ⟨⟨true, .none rfl, fun h w => optUndef h, fun zβ za zw zc => ?_⟩, ?_⟩
         ·exact wp_callv (by kernel_rfl) rfl ((evt za 41).trans (optVal (zc.dep 0 41 (by kernel_rfl)) rfl rfl)) (hv2 ((evt za 45).trans (optVal (zc.dep 4 45 (by kernel_rfl)) rfl rfl)) ((evt za 51).trans (optVal (zc.dep 10 51 (by kernel_rfl)) rfl rfl))) (lits1_any o go gy p1 p2 k1 k2 (rget a x.1) (rget x.2.2.2.2 j) _ _ _ _ _ (hB.below (bstep hb55 zc.below)) (ho.below (bstep hb55 zc.below)) (hy.below (bstep hb55 zc.below)) ((hc65 x.1 (by first | omega | (simp; omega))).2.below (bstep hb55 zc.below)) ((hc73 j (by first | omega | (simp; omega))).2.2.below (bstep hb55 zc.below)) (hza _ (rget_mem (by omega))) (hzb _ (hRm _ (rget_mem (by omega))))) (fun v w' h => ⟨v, rfl, h.2, optDef zβ h.1⟩)
         refine ⟨⟨true, .none rfl, fun h w => optUndef h, fun zβ za zw zc => ?_⟩, ?_⟩
         ·exact eql_60 rfl ((evt za 52).trans (optVal (zc.dep 11 52 (by kernel_rfl)) rfl rfl)) (zc.kn.ev rfl) ⟨_, rfl, Below.refl _ _, optDef zβ rfl⟩
         exact trivial
        ·intro za w75 zh hb76 zu
         have zh := zh.cons (d := 53) (v := .bool (((((multiP o.ok2) (rget a x.1) (rget x.2.2.2.2 j)) : Int) == (2 : Int)))) (optVal (zu 12 53 (by kernel_rfl)) rfl rfl)
         clear zu
         refine WE.go zh ?_
         refine WE.next ?_
         refine WC.cond rfl (fun h77 => ?_) (fun h77 => ?_)
         ·have h77 : (((multiP o.ok2) (rget a x.1) (rget x.2.2.2.2 j)) : Int) = (2 : Int) := by simpa using h77
          refine WC.seq ?_
          have ho78 := ho58.below hb76
          have ho79 := ho57.below hb76
          have hwz : w.heap.size ≤ w75.heap.size := (Nat.le_trans hb55.size hb76.size)
          have hg1z : g9 < w75.heap.size := ho79.lt
          refine WC.tail3 (S := ((fun b => b < 0))) [(true, .val (.slice x.2.2.1 x.2.2.2.2.length x.2.2.2.1)), (true, .val (.int .i64 (((j : Nat) : Int)))), (true, .val (.int .i64 (((j : Nat) : Int)))), (true, .val (.slice x.2.2.1 j j)), (true, .val (.slice x.2.2.1 x.2.2.2.2.length x.2.2.2.1)), (true, .val (.int .i64 (((j : Nat) : Int)))), (true, .val (.int .i64 ((((j + 1) : Nat) : Int)))), (true, .val (.slice ((slA x.2.2.1 ((j + 1)) 1 x.2.2.2.1)) ((x.2.2.2.2.length - (j + 1))) ((x.2.2.2.1 - (j + 1))))), (true, .val undef), (true, .val undef)] [(0, .slice xa a.length ca), (1, .slice xb b.length cb), (2, .func (.func 43) #[] #[.pointer (some ⟨gy, 0, none⟩)]), (5, .pointer (some ⟨g2, 0, none⟩)), (6, .int .i64 0), (7, .slice ((some ⟨g9, 0, none⟩)) x.2.1.length a.length), (10, .int .i64 (((x.1 : Nat) : Int))), (11, .int .i64 (((j : Nat) : Int))), (20, .int .i64 (((b.length : Nat) : Int))), (21, .int .i64 (((i : Nat) : Int))), (22, .bool ((decide ((((i : Nat) : Int) : Int) < (((b.length : Nat) : Int) : Int))))), (32, .int .i64 (((a.length : Nat) : Int))), (33, .int .i64 (((x.1 : Nat) : Int))), (34, .bool ((decide ((((x.1 : Nat) : Int) : Int) < (((a.length : Nat) : Int) : Int))))), (37, .int .i64 (((x.2.2.2.2.length : Nat) : Int))), (38, .int .i64 (((j : Nat) : Int))), (39, .bool ((decide ((((j : Nat) : Int) : Int) < (((x.2.2.2.2.length : Nat) : Int) : Int))))), (53, .bool (((((multiP o.ok2) (rget a x.1) (rget x.2.2.2.2 j)) : Int) == (2 : Int))))] 8 9 ((x.2.2.2.2.length - 1)) 62 8 (fun ra rc wz => PRow (AtR w) wz (fun b => w.heap.size ≤ b ∧ b ≠ g9) ra (x.2.2.2.2.length - 1) (x.2.2.2.2.eraseIdx j) ∧ x.2.2.2.2.length - 1 ≤ rc) (by decide) (fun ra rc w w' hb h => ⟨h.1.below hb, h.2⟩) ⟨rfl, rfl, rfl, rfl, rfl, rfl, rfl, rfl, rfl, rfl, rfl, rfl, rfl, rfl, rfl, rfl, rfl, rfl, trivial⟩ (by kernel_rfl) (by kernel_rfl) (by kernel_rfl) (by kernel_rfl) (by kernel_rfl) (by kernel_rfl) ?_ ?_
          ·refine ⟨.inl ⟨rfl, true, .none rfl, (fun gg b h => by cases h), fun h w => optUndef h, fun zβ za zw zc => ?_⟩, ?_⟩
           ·exact wp_move rfl ((evt za 8).trans (zc.old 8 _ rfl (by kernel_rfl))) ⟨_, rfl, Below.refl _ _, optDef zβ rfl⟩
           refine ⟨.inl ⟨rfl, true, .none rfl, (fun gg b h => by cases h), fun h w => optUndef h, fun zβ za zw zc => ?_⟩, ?_⟩
           ·exact wp_move rfl (zc.kn.ev rfl) ⟨_, rfl, Below.refl _ _, optDef zβ rfl⟩
           refine ⟨.inl ⟨rfl, true, .none rfl, (fun gg b h => by cases h), fun h w => optUndef h, fun zβ za zw zc => ?_⟩, ?_⟩
           ·exact wp_move rfl (zc.kn.ev rfl) ⟨_, rfl, Below.refl _ _, optDef zβ rfl⟩
           refine ⟨.inl ⟨rfl, true, .none rfl, (fun gg b h => by cases h), fun h w => optUndef h, fun zβ za zw zc => ?_⟩, ?_⟩
           ·exact shm_73 (k := j) (m := j) rfl ((evt za 54).trans (optSVal (zc.dep 0 54 (by kernel_rfl) (by decide)) rfl rfl)) ((evt za 55).trans (optSVal (zc.dep 1 55 (by kernel_rfl) (by decide)) rfl rfl)) ((evt za 56).trans (optSVal (zc.dep 2 56 (by kernel_rfl) (by decide)) rfl rfl)) (by omega) (by omega) ⟨_, rfl, Below.refl _ _, optDef zβ rfl⟩
           refine ⟨.inl ⟨rfl, true, .none rfl, (fun gg b h => by cases h), fun h w => optUndef h, fun zβ za zw zc => ?_⟩, ?_⟩
           ·exact wp_move rfl ((evt za 8).trans (zc.old 8 _ rfl (by kernel_rfl))) ⟨_, rfl, Below.refl _ _, optDef zβ rfl⟩
           refine ⟨.inl ⟨rfl, true, .none rfl, (fun gg b h => by cases h), fun h w => optUndef h, fun zβ za zw zc => ?_⟩, ?_⟩
           ·exact wp_move rfl (zc.kn.ev rfl) ⟨_, rfl, Below.refl _ _, optDef zβ rfl⟩
           refine ⟨.inl ⟨rfl, true, .none rfl, (fun gg b h => by cases h), fun h w => optUndef h, fun zβ za zw zc => ?_⟩, ?_⟩
           ·exact addb_3 rfl ((evt za 59).trans (optSVal (zc.dep 5 59 (by kernel_rfl) (by decide)) rfl rfl)) (zc.kn.ev rfl) (wrap_eq (by omega) (by omega) (by omega)) ⟨_, rfl, Below.refl _ _, optDef zβ rfl⟩
           refine ⟨.inl ⟨rfl, true, .none rfl, (fun gg b h => by cases h), fun h w => optUndef h, fun zβ za zw zc => ?_⟩, ?_⟩
           ·exact slo_73 (k := (j + 1)) rfl ((evt za 58).trans (optSVal (zc.dep 4 58 (by kernel_rfl) (by decide)) rfl rfl)) ((evt za 60).trans (optSVal (zc.dep 6 60 (by kernel_rfl) (by decide)) rfl rfl)) (by omega) (by omega) ⟨_, rfl, Below.refl _ _, optDef zβ rfl⟩
           refine ⟨.inr (.inl ⟨rfl, rfl, fun za zw zc => ?_⟩), ?_⟩
           ·exact wp_appCut (z := .pointer none) (bytes := 8) (S := (fun b => w.heap.size ≤ b ∧ b ≠ g9)) Try.underlying73 (by kernel_rfl) (by decide) rfl ((evt za 57).trans (optSVal (zc.dep 3 57 (by kernel_rfl) (by decide)) rfl rfl)) ((evt za 61).trans (optSVal (zc.dep 7 61 (by kernel_rfl) (by decide)) rfl rfl)) (ho78.below zc.below) (by omega) (by omega) (by omega) (by omega) (by have z := zc.below.size; exact ⟨by omega, by omega⟩) (fun r c2 w2 h1 h2 h3 => ⟨r, c2, rfl, ⟨h1, h2⟩, .ofBelow h3⟩)
           refine ⟨.inr (.inr ⟨rfl, rfl, 62, by kernel_rfl, rfl⟩), ?_⟩
           exact trivial
          ·intro za w80 ra83 rc84 zh zv zv2 hG81 hc82 zu
           have zh := zh.cons (d := 8) zv2
           have hb85 := Chg.toBelow hc82
           have hR86 : PRow (AtR w) w80 (fun b => w.heap.size ≤ b ∧ b ≠ g9) ra83 ((x.2.2.2.2.eraseIdx j)).length (x.2.2.2.2.eraseIdx j) := by have z := hG81.1; rwa [show ((x.2.2.2.2.eraseIdx j)).length = x.2.2.2.2.length - 1 from by rw [List.length_eraseIdx, if_pos (by omega)]]
           clear zu
           refine WE.go zh ?_
           refine WE.next (WC.exit (WE.blockNot rfl (WE.thenExit (WE.thenExit (WE.blockNot rfl (WE.thenExit (WE.blockIs rfl (WE.next (WC.region ?_)))))))))
           refine WL.val (.int .i64 ((((x.1 + 1) : Nat) : Int))) rfl rfl rfl (fun za zC zh zk => addb_3 rfl (zh.ev rfl) (zh.ev rfl) (wrap_eq (by omega) (by omega) (by omega)) zk) ?_
           refine WL.mv rfl rfl rfl rfl rfl (WL.nil ?_)
           rw [show x.2.2.2.2.length - 1 = (x.2.2.2.2.eraseIdx j).length from by rw [List.length_eraseIdx, if_pos (by omega)]]
           refine WE.round ((x.1 + 1, x.2.1, ra83, rc84, (x.2.2.2.2.eraseIdx j))) ⟨rfl, rfl, rfl, rfl, rfl, rfl, rfl, rfl, rfl, rfl, rfl, rfl, trivial⟩ ?_ ?_
           ·have hb87 : Below w.heap.size w w80 := (bstep (bstep hb55 hb76) hb85)
            have hb89 : Below w54.heap.size w54 w80 := (bstep hb76 hb85)
            have hB88 := hB56.below hb89
            have ho90 := ho79.below hb85
            exact ⟨by (try dsimp only at *); omega, by
              have z := multiLR_strike (c := (multiP o.ok2)) (d := []) (R := x.2.2.2.2) (show x.1 < a.length by omega) (show j < x.2.2.2.2.length by omega) (by have z9 := h77; simpa [rget] using z9) (fun q hq => by have z9 := hN q hq; simpa [rget] using z9)
              rw [hM, z], by (try dsimp only at *); omega, by (try dsimp only); rw [List.length_eraseIdx, if_pos (by omega)]; exact hG81.2, by (try dsimp only); rw [List.length_eraseIdx, if_pos (by omega)]; omega, hLm, fun y hy => hRm y (List.mem_of_mem_eraseIdx hy), hb87, hB88, ho90, hR86⟩
           ·(try dsimp only at *); omega
         ·have h77 : ¬ ((((multiP o.ok2) (rget a x.1) (rget x.2.2.2.2 j)) : Int) = (2 : Int)) := by simpa using h77
          refine WC.skip (WE.blockNormal (WE.next (WC.region ?_)))
          refine WL.val (.int .i64 ((((j + 1) : Nat) : Int))) rfl rfl rfl (fun za zC zh zk => addb_3 rfl (zh.ev rfl) (zh.ev rfl) (wrap_eq (by omega) (by omega) (by omega)) zk) ?_
          refine WL.mv rfl rfl rfl rfl rfl (WL.nil ?_)
          refine WE.round (j + 1) ⟨rfl, rfl, rfl, rfl, rfl, rfl, rfl, rfl, rfl, rfl, rfl, rfl, rfl, rfl, rfl, rfl, trivial⟩ ?_ ?_
          ·have hb91 : Below w.heap.size w w75 := (bstep hb55 hb76)
           have hB92 := hB56.below hb76
           have ho93 := ho57.below hb76
           have ho94 := ho58.below hb76
           exact ⟨by omega, fun q hq => by
             by_cases e : q = j
             ·rw [e]; simpa using h77
             ·exact hN q (by omega), hb91, hB92, ho93, ho94⟩
          ·omega
       ·have h59 : ¬ ((((j : Nat) : Int) : Int) < (((x.2.2.2.2.length : Nat) : Int) : Int)) := by simpa using h59
        refine WC.exit (WE.thenExit (WE.thenExit (WE.blockIs rfl (WE.next (WC.region (WL.mv rfl rfl rfl rfl rfl (WL.mv rfl rfl rfl rfl rfl (WL.mv rfl rfl rfl rfl rfl ?_))))))))
        obtain ⟨b95, o96, A97, C98, ha99, hc100⟩ := IsRs.open ha
        refine WL.val _ rfl rfl rfl (fun za zC zh zk => ix_67 (k := x.1) rfl (zh.ev rfl) (ha99 x.1 (by first | omega | (simp; omega))) (zh.ev rfl) (by first | omega | (simp; omega)) zk) ?_
        refine WL.step (post := NewRow w54 74 #[.pointer (some ⟨b95, o96 + x.1, none⟩)] 1) rfl rfl rfl (fun za zC zh zk => row_73_1 rfl (zh.ev rfl) (zk _ _ (newRow _ _ _ _))) ?_
        rintro _ w101 ⟨g102, rfl, hg103, hB104, hb105, hz106⟩
        have hl107 : g2 < g102 := by have z1 := hB56.lt; omega
        have hl108 : g9 < g102 := by have z1 := ho57.lt; omega
        have hl109 : w.heap.size ≤ g102 := by have z2 := (hb55).size; omega
        have hl110 : w54.heap.size ≤ g102 := by omega
        have ho111 := ho57.below hb105
        refine WL.step (post := fun v w' => v = .slice (some ⟨g9, 0, none⟩) (x.2.1.length + 1) a.length ∧ Upd g9 w101 w' ∧ LRow (AtR w) w' 74 g9 a.length (x.2.1.length + 1) (x.2.1 ++ [(rget a x.1)])) rfl rfl rfl (fun za zC zh zk => wp_appL (z := .pointer none) (bytes := 8) Try.underlying73 (by kernel_rfl) rfl (zh.ev rfl) (zh.ev rfl) ho111 (by omega) hB104 (show AtR w _ _ _ from ⟨_, _, hc100 x.1 (by omega)⟩) (fun w2 h1 h2 => zk _ _ ⟨rfl, h2, h1⟩)) ?_
        rintro _ w112 ⟨rfl, hu113, hL114⟩
        have ho115 := ho58.below hb105
        have hb116 : Below w.heap.size w w101 := (bstep hb55 hb105)
        have hb117 := upd_below hb116 hu113 (by omega)
        have hB118 := hB56.below hb105
        have hB119 := upd_blk hB118 hu113 (by omega)
        have hR120 := ho115.upd hu113 (fun b hb => hb.2)
        have hL121 : LRow (AtR w) w112 74 g9 a.length ((x.2.1 ++ [(rget a x.1)])).length (x.2.1 ++ [(rget a x.1)]) := by rw [List.length_append]; exact hL114
        refine WL.asg rfl rfl rfl rfl rfl (WL.nil (WE.blockNormal (WE.next (WC.region ?_))))
        refine WL.val (.int .i64 ((((x.1 + 1) : Nat) : Int))) rfl rfl rfl (fun za zC zh zk => addb_3 rfl (zh.ev rfl) (zh.ev rfl) (wrap_eq (by omega) (by omega) (by omega)) zk) ?_
        refine WL.mv rfl rfl rfl rfl rfl (WL.nil ?_)
        rw [show x.2.1.length + 1 = (x.2.1 ++ [(rget a x.1)]).length from by simp]
        refine WE.round ((x.1 + 1, x.2.1 ++ [(rget a x.1)], x.2.2.1, x.2.2.2.1, x.2.2.2.2)) ⟨rfl, rfl, rfl, rfl, rfl, rfl, rfl, rfl, rfl, rfl, rfl, rfl, trivial⟩ ?_ ?_
        ·exact ⟨by (try dsimp only at *); omega, by
           have z := multiLR_keep (c := (multiP o.ok2)) (d := []) (R := x.2.2.2.2) (show x.1 < a.length by omega) (fun q hq => by have z9 := hN q (by omega); simpa [rget] using z9)
           rw [hM, z]; simp [List.append_assoc, rget], by (try dsimp only); simp; omega, hRc, hRb, fun y hy => (List.mem_append.1 hy).elim (hLm y) (fun e => by rw [List.mem_singleton.1 e]; exact rget_mem (by omega)), hRm, hb117, hB119, hL121, hR120⟩
        ·(try dsimp only at *); omega
     ·have h53 : ¬ ((((x.1 : Nat) : Int) : Int) < (((a.length : Nat) : Int) : Int)) := by simpa using h53
      refine WC.exit (WE.thenExit (WE.thenExit (WE.blockIs rfl (WE.next (WC.seq (WC.seq ?_))))))
      refine WC.opt [(true, .val (.slice ((some ⟨g9, 0, none⟩)) x.2.1.length a.length)), (true, .val (.int .i64 (((x.2.1.length : Nat) : Int)))), (true, .val (.bool (((((x.2.1.length : Nat) : Int) : Int) == (0 : Int))))), (true, .val (.bool (((((x.2.1.length : Nat) : Int) : Int) == (0 : Int))))), ((true && ((((x.2.1.length : Nat) : Int) : Int) == (0 : Int))), .val (.slice x.2.2.1 x.2.2.2.2.length x.2.2.2.1)), ((true && ((((x.2.1.length : Nat) : Int) : Int) == (0 : Int))), .val (.int .i64 (((x.2.2.2.2.length : Nat) : Int)))), ((true && ((((x.2.1.length : Nat) : Int) : Int) == (0 : Int))), .val (.bool (((((x.2.2.2.2.length : Nat) : Int) : Int) == (0 : Int))))), (true, .val (.bool ((((((x.2.1.length : Nat) : Int) : Int) == (0 : Int)) && ((((x.2.2.2.2.length : Nat) : Int) : Int) == (0 : Int))))))] [(0, .slice xa a.length ca), (1, .slice xb b.length cb), (2, .func (.func 43) #[] #[.pointer (some ⟨gy, 0, none⟩)]), (5, .pointer (some ⟨g2, 0, none⟩)), (6, .int .i64 0), (7, .slice ((some ⟨g9, 0, none⟩)) x.2.1.length a.length), (8, .slice x.2.2.1 x.2.2.2.2.length x.2.2.2.1), (20, .int .i64 (((b.length : Nat) : Int))), (21, .int .i64 (((i : Nat) : Int))), (22, .bool ((decide ((((i : Nat) : Int) : Int) < (((b.length : Nat) : Int) : Int))))), (32, .int .i64 (((a.length : Nat) : Int))), (33, .int .i64 (((x.1 : Nat) : Int))), (34, .bool ((decide ((((x.1 : Nat) : Int) : Int) < (((a.length : Nat) : Int) : Int)))))] ⟨rfl, rfl, rfl, rfl, rfl, rfl, rfl, rfl, rfl, rfl, rfl, rfl, rfl, trivial⟩ (by kernel_rfl) (by kernel_rfl) (by kernel_rfl) ?_ ?_
      ·refine ⟨⟨true, .none rfl, fun h w => optUndef h, fun zβ za zw zc => ?_⟩, ?_⟩
       ·exact wp_move rfl (zc.kn.ev rfl) ⟨_, rfl, Below.refl _ _, optDef zβ rfl⟩
       refine ⟨⟨true, .none rfl, fun h w => optUndef h, fun zβ za zw zc => ?_⟩, ?_⟩
       ·exact len_73 rfl ((evt za 71).trans (optVal (zc.dep 0 71 (by kernel_rfl)) rfl rfl)) ⟨_, rfl, Below.refl _ _, optDef zβ rfl⟩
       refine ⟨⟨true, .none rfl, fun h w => optUndef h, fun zβ za zw zc => ?_⟩, ?_⟩
       ·exact eql_3 rfl ((evt za 72).trans (optVal (zc.dep 1 72 (by kernel_rfl)) rfl rfl)) (zc.kn.ev rfl) ⟨_, rfl, Below.refl _ _, optDef zβ rfl⟩
       refine ⟨⟨true, .none rfl, fun h w => optUndef h, fun zβ za zw zc => ?_⟩, ?_⟩
       ·exact wp_move rfl ((evt za 73).trans (optVal (zc.dep 2 73 (by kernel_rfl)) rfl rfl)) ⟨_, rfl, Below.refl _ _, optDef zβ rfl⟩
       refine ⟨⟨_, .yes (c := ((((x.2.1.length : Nat) : Int) : Int) == (0 : Int))) (d := true) rfl (fun v w h => h), fun h w => optUndef h, fun zβ za zw zc => ?_⟩, ?_⟩
       ·exact wp_move rfl (zc.kn.ev rfl) ⟨_, rfl, Below.refl _ _, optDef zβ rfl⟩
       refine ⟨⟨_, .yes (c := ((((x.2.1.length : Nat) : Int) : Int) == (0 : Int))) (d := true) rfl (fun v w h => h), fun h w => optUndef h, fun zβ za zw zc => ?_⟩, ?_⟩
       ·exact len_73 rfl ((evt za 75).trans (optVal (zc.dep 4 75 (by kernel_rfl)) rfl zβ)) ⟨_, rfl, Below.refl _ _, optDef zβ rfl⟩
       refine ⟨⟨_, .yes (c := ((((x.2.1.length : Nat) : Int) : Int) == (0 : Int))) (d := true) rfl (fun v w h => h), fun h w => optUndef h, fun zβ za zw zc => ?_⟩, ?_⟩
       ·exact eql_3 rfl ((evt za 76).trans (optVal (zc.dep 5 76 (by kernel_rfl)) rfl zβ)) (zc.kn.ev rfl) ⟨_, rfl, Below.refl _ _, optDef zβ rfl⟩
       refine ⟨⟨true, .none rfl, fun h w => optUndef h, fun zβ za zw zc => ?_⟩, ?_⟩
       ·exact wp_and rfl ((evt za 74).trans (optVal (zc.dep 3 74 (by kernel_rfl)) rfl rfl)) (fun hp => ((evt za 77).trans (optVal (zc.dep 6 77 (by kernel_rfl)) rfl (bMk zβ hp)))) ⟨_, rfl, Below.refl _ _, optDef zβ rfl⟩
       exact trivial
      ·intro za w122 zh hb123 zu
       have zh := zh.cons (d := 78) (v := .bool ((((((x.2.1.length : Nat) : Int) : Int) == (0 : Int)) && ((((x.2.2.2.2.length : Nat) : Int) : Int) == (0 : Int))))) (optVal (zu 7 78 (by kernel_rfl)) rfl rfl)
       clear zu
       refine WE.go zh ?_
       refine WE.next ?_
       refine WC.cond rfl (fun h124 => ?_) (fun h124 => ?_)
       ·have h124 : ((((x.2.1.length : Nat) : Int) : Int) = (0 : Int)) ∧ ((((x.2.2.2.2.length : Nat) : Int) : Int) = (0 : Int)) := by simpa using h124
        refine WC.seq (WC.region (WL.asg rfl rfl rfl rfl rfl (WL.nil (WE.next (WC.ret (WE.thenRet (WE.scopeRet (WE.ret1 rfl rfl ?_))))))))
        have hd : a.drop x.1 = [] := List.drop_eq_nil_of_le (by omega)
        rw [hd] at hM
        simp only [multiLR, List.append_nil] at hM
        have e0 : (x.2.1.isEmpty && x.2.2.2.2.isEmpty) = true := by
         have z := h124
         simpa using z
        have hb125 : Below w.heap.size w w122 := (bstep hb49 hb123)
        exact ⟨_, rfl, congrArg (Value.int .i64) (by rw [multiP_eq hM, e0]; simp []), hb125⟩
       ·have h124 : ¬ (((((x.2.1.length : Nat) : Int) : Int) = (0 : Int)) ∧ ((((x.2.2.2.2.length : Nat) : Int) : Int) = (0 : Int))) := by simpa using h124
        refine WC.skip (WE.next (WC.seq (WC.region ?_)))
        refine WL.val (.func (Fn.func 48) #[] #[.pointer (some ⟨g2, 0, none⟩)]) rfl rfl rfl (fun za zC zh zk => mkfn rfl (hv0) (hv1 (zh.ev rfl)) zk) ?_
        refine WL.asg rfl rfl rfl rfl rfl (WL.nil (WE.next (WC.seq (WC.block (WC.seq (WC.region (WL.mv rfl rfl rfl rfl rfl (WL.mv rfl rfl rfl rfl rfl (WL.mv rfl rfl rfl rfl rfl ?_)))))))))
        have hB126 := hB50.below hb123
        have ho127 := ho51.below hb123
        have ho128 := ho52.below hb123
        have hb129 : Below w.heap.size w w122 := (bstep hb49 hb123)
        refine WL.call rfl rfl rfl (fun za zh zC => wp_callv (by kernel_rfl) rfl (zh.ev rfl) (hv2 (zh.ev rfl) (zh.ev rfl))) (allR_any o go gy p1 p2 k1 k2 x.2.1 x.2.2.2.2 w _ g2 _ _ _ _ _ _ ho127.prow ho128 (fun y hy => hza y (hLm y hy)) (fun y hy => hzb y (hRm y hy)) (by omega) (by omega) hb129 hB ho hy hB126) ?_
        rintro _ w131 ⟨rfl, hq130⟩
        refine WL.asg rfl rfl rfl rfl rfl (WL.nil (WE.next ?_))
        refine WC.cond rfl (fun h132 => ?_) (fun h132 => ?_)
        ·skip
         refine WC.seq (WC.region (WL.asg rfl rfl rfl rfl rfl (WL.nil (WE.next (WC.ret (WE.blockRet (WE.thenRet (WE.scopeRet (WE.ret1 rfl rfl ?_)))))))))
         have hd : a.drop x.1 = [] := List.drop_eq_nil_of_le (by omega)
         rw [hd] at hM
         simp only [multiLR, List.append_nil] at hM
         have e0 : (x.2.1.isEmpty && x.2.2.2.2.isEmpty) = false := by
          have z := h124
          rw [Bool.eq_false_iff]; intro e; apply z; simpa using e
         have hb133 : Below w.heap.size w w131 := (bstep hb129 hq130)
         exact ⟨_, rfl, congrArg (Value.int .i64) (by rw [multiP_eq hM, e0]; simp [h132]), hb133⟩
        ·skip
         refine WC.seq (WC.region (WL.mv rfl rfl rfl rfl rfl (WL.mv rfl rfl rfl rfl rfl (WL.mv rfl rfl rfl rfl rfl ?_))))
         have hB134 := hB126.below hq130
         have ho135 := ho127.below hq130
         have ho136 := ho128.below hq130
         have hb137 : Below w.heap.size w w131 := (bstep hb129 hq130)
         refine WL.call rfl rfl rfl (fun za zh zC => wp_callv (by kernel_rfl) rfl (zh.ev rfl) (hv2 (zh.ev rfl) (zh.ev rfl))) (allR_any o go gy p1 p2 k1 k2 x.2.2.2.2 x.2.1 w _ g2 _ _ _ _ _ _ ho136 ho135.prow (fun y hy => hzb y (hRm y hy)) (fun y hy => hza y (hLm y hy)) (by omega) (by omega) hb137 hB ho hy hB134) ?_
         rintro _ w139 ⟨rfl, hq138⟩
         refine WL.asg rfl rfl rfl rfl rfl (WL.nil (WE.next ?_))
         refine WC.cond rfl (fun h140 => ?_) (fun h140 => ?_)
         ·skip
          refine WC.seq (WC.region (WL.asg rfl rfl rfl rfl rfl (WL.nil (WE.next (WC.ret (WE.blockRet (WE.thenRet (WE.scopeRet (WE.ret1 rfl rfl ?_)))))))))
          have hd : a.drop x.1 = [] := List.drop_eq_nil_of_le (by omega)
          rw [hd] at hM
          simp only [multiLR, List.append_nil] at hM
          have e0 : (x.2.1.isEmpty && x.2.2.2.2.isEmpty) = false := by
           have z := h124
           rw [Bool.eq_false_iff]; intro e; apply z; simpa using e
          have hb141 : Below w.heap.size w w139 := (bstep hb137 hq138)
          exact ⟨_, rfl, congrArg (Value.int .i64) (by rw [multiP_eq hM, e0]; simp [h132, h140]), hb141⟩
         ·skip
          refine WC.skip (WE.blockNormal (WE.next (WC.seq (WC.region (WL.asg rfl rfl rfl rfl rfl (WL.nil (WE.next (WC.ret (WE.scopeRet (WE.ret1 rfl rfl ?_))))))))))
          have hd : a.drop x.1 = [] := List.drop_eq_nil_of_le (by omega)
          rw [hd] at hM
          simp only [multiLR, List.append_nil] at hM
          have e0 : (x.2.1.isEmpty && x.2.2.2.2.isEmpty) = false := by
           have z := h124
           rw [Bool.eq_false_iff]; intro e; apply z; simpa using e
          have hb142 : Below w.heap.size w w139 := (bstep hb137 hq138)
          exact ⟨_, rfl, congrArg (Value.int .i64) (by rw [multiP_eq hM, e0]; simp [h132, h140]), hb142⟩
set_option maxRecDepth 100000 in
theorem members_any (x : Li) (w : World) (v : Value) (hx : IsLi w x v) : Calls Try.prog 42 #[v] w (Ret fun v' w' => RowR x.mems v' w' ∧ Below w.heap.size w w') := by
 obtain ⟨a1, a2, c1, c2, rfl, h1, h2⟩ := hx.form
 refine Calls.walk (l := [.agg #[.bool x.neg, .int .i64 x.l.f, .slice a1 x.l.args.length c1, .int .i64 x.r.f, .slice a2 x.r.args.length c2]]) Try.func42 rfl (by kernel_rfl) ?_
 refine WC.sub (K' := [(0, .agg #[.bool x.neg, .int .i64 x.l.f, .slice a1 x.l.args.length c1, .int .i64 x.r.f, .slice a2 x.r.args.length c2])]) ⟨rfl, trivial⟩ ?_
 refine WC.seq (WC.region ?_)
 refine WL.step (post := NewBlk w 36 #[.bool x.neg, .int .i64 x.l.f, .slice a1 x.l.args.length c1, .int .i64 x.r.f, .slice a2 x.r.args.length c2]) rfl rfl rfl (fun za zC zh zk => box_36 rfl (zh.ev rfl) (zk _ _ (newBlk _ _ _))) ?_
 rintro _ w1 ⟨g2, rfl, hg3, hB4, hb5, hz6⟩
 have hl7 : w.heap.size ≤ g2 := by omega
 refine WL.asg rfl rfl rfl rfl rfl (WL.nil (WE.next (WC.seq (WC.seq (WC.region ?_)))))
 refine WL.val _ rfl rfl rfl (fun za zC zh zk => fld_36_0 rfl (zh.ev rfl) zk) ?_
 refine WL.val _ rfl rfl rfl (fun za zC zh zk => ld_4 rfl (zh.ev rfl) ((hB4.cell 0).trans rfl) zk) ?_
 refine WL.nil (WE.next ?_)
 refine WC.cond rfl (fun h8 => ?_) (fun h8 => ?_)
 ·skip
  refine WC.seq (WC.region ?_)
  refine WL.val _ rfl rfl rfl (fun za zC zh zk => fld_36_1 rfl (zh.ev rfl) zk) ?_
  refine WL.val _ rfl rfl rfl (fun za zC zh zk => ld_34 rfl (zh.ev rfl) ((hB4.cell 1).trans rfl) ((hB4.cell 2).trans rfl) zk) ?_
  refine WL.val _ rfl rfl rfl (fun za zC zh zk => fld_36_2 rfl (zh.ev rfl) zk) ?_
  refine WL.val _ rfl rfl rfl (fun za zC zh zk => ld_34 rfl (zh.ev rfl) ((hB4.cell 3).trans rfl) ((hB4.cell 4).trans rfl) zk) ?_
  refine WL.step (post := NewRow w1 34 #[.int .i64 x.l.f, .slice a1 x.l.args.length c1, .int .i64 x.r.f, .slice a2 x.r.args.length c2] 2) rfl rfl rfl (fun za zC zh zk => row_32_2 rfl (zh.ev rfl) (zh.ev rfl) (zk _ _ (newRow _ _ _ _))) ?_
  rintro _ w9 ⟨g10, rfl, hg11, hB12, hb13, hz14⟩
  have hl15 : g2 < g10 := by have z1 := hB4.lt; omega
  have hl16 : w.heap.size ≤ g10 := by have z2 := (hb5).size; omega
  refine WL.step (post := NewRow w9 32 #[.slice ((some ⟨g10, 0, none⟩)) 2 2] 1) rfl rfl rfl (fun za zC zh zk => row_67_1 rfl (zh.ev rfl) (zk _ _ (newRow _ _ _ _))) ?_
  rintro _ w17 ⟨g18, rfl, hg19, hB20, hb21, hz22⟩
  have hl23 : g2 < g18 := by have z1 := hB4.lt; have z2 := (hb13).size; omega
  have hl24 : g10 < g18 := by have z1 := hB12.lt; omega
  have hb25 : Below w.heap.size w w9 := (bstep hb5 hb13)
  have hl26 : w.heap.size ≤ g18 := by have z2 := (hb25).size; omega
  refine WL.asg rfl rfl rfl rfl rfl (WL.nil (WE.next (WC.ret (WE.thenRet (WE.ret1 rfl rfl ?_)))))
  have hB27 := hB12.below hb21
  have hb28 : Below w.heap.size w w17 := (bstep hb25 hb21)
  exact ⟨_, rfl, by rw [show x.mems = [[x.l, x.r]] from if_pos h8]; exact ⟨_, _, rfl, isRs_one hB20 (isTs_two hB27 (h1.below hb28) (h2.below hb28)) rfl⟩, hb28⟩
 ·skip
  refine WC.skip (WE.next (WC.seq (WC.region ?_)))
  refine WL.val _ rfl rfl rfl (fun za zC zh zk => fld_36_1 rfl (zh.ev rfl) zk) ?_
  refine WL.val _ rfl rfl rfl (fun za zC zh zk => ld_34 rfl (zh.ev rfl) ((hB4.cell 1).trans rfl) ((hB4.cell 2).trans rfl) zk) ?_
  refine WL.step (post := NewRow w1 34 #[.int .i64 x.l.f, .slice a1 x.l.args.length c1] 1) rfl rfl rfl (fun za zC zh zk => row_32_1 rfl (zh.ev rfl) (zk _ _ (newRow _ _ _ _))) ?_
  rintro _ w29 ⟨g30, rfl, hg31, hB32, hb33, hz34⟩
  have hl35 : g2 < g30 := by have z1 := hB4.lt; omega
  have hl36 : w.heap.size ≤ g30 := by have z2 := (hb5).size; omega
  refine WL.val _ rfl rfl rfl (fun za zC zh zk => fld_36_2 rfl (zh.ev rfl) zk) ?_
  have hB37 := hB4.below hb33
  refine WL.val _ rfl rfl rfl (fun za zC zh zk => ld_34 rfl (zh.ev rfl) ((hB37.cell 3).trans rfl) ((hB37.cell 4).trans rfl) zk) ?_
  refine WL.step (post := NewRow w29 34 #[.int .i64 x.r.f, .slice a2 x.r.args.length c2] 1) rfl rfl rfl (fun za zC zh zk => row_32_1 rfl (zh.ev rfl) (zk _ _ (newRow _ _ _ _))) ?_
  rintro _ w38 ⟨g39, rfl, hg40, hB41, hb42, hz43⟩
  have hl44 : g2 < g39 := by have z1 := hB37.lt; omega
  have hl45 : g30 < g39 := by have z1 := hB32.lt; omega
  have hb46 : Below w.heap.size w w29 := (bstep hb5 hb33)
  have hl47 : w.heap.size ≤ g39 := by have z2 := (hb46).size; omega
  refine WL.step (post := NewRow w38 32 #[.slice ((some ⟨g30, 0, none⟩)) 1 1, .slice ((some ⟨g39, 0, none⟩)) 1 1] 2) rfl rfl rfl (fun za zC zh zk => row_67_2 rfl (zh.ev rfl) (zh.ev rfl) (zk _ _ (newRow _ _ _ _))) ?_
  rintro _ w48 ⟨g49, rfl, hg50, hB51, hb52, hz53⟩
  have hl54 : g2 < g49 := by have z1 := hB37.lt; have z2 := (hb42).size; omega
  have hl55 : g30 < g49 := by have z1 := hB32.lt; have z2 := (hb42).size; omega
  have hl56 : g39 < g49 := by have z1 := hB41.lt; omega
  have hb57 : Below w.heap.size w w38 := (bstep hb46 hb42)
  have hl58 : w.heap.size ≤ g49 := by have z2 := (hb57).size; omega
  refine WL.asg rfl rfl rfl rfl rfl (WL.nil (WE.next (WC.ret (WE.ret1 rfl rfl ?_))))
  have hb60 : Below w29.heap.size w29 w48 := (bstep hb42 hb52)
  have hB59 := hB32.below hb60
  have hB61 := hB41.below hb52
  have hb62 : Below w.heap.size w w48 := (bstep hb46 hb60)
  exact ⟨_, rfl, by rw [show x.mems = [[x.l], [x.r]] from if_neg (by rw [h8]; exact Bool.false_ne_true)]; exact ⟨_, _, rfl, isRs_two hB51 (isTs_one hB59 (h1.below hb62)) (isTs_one hB61 (h2.below hb62)) rfl rfl⟩, hb62⟩
set_option maxRecDepth 100000 in
theorem oknows_any (o : Od) (w : World) (p1 p2 : Option Addr) (k1 k2 : Nat) : Calls Try.prog 40 #[.agg #[.bool o.lpo, .slice p1 o.prec.length k1, .slice p2 o.weights.length k2, .int .i64 o.var]] w (Ret fun v' w' => (∃ go, v' = .func (.func 45) #[] #[.pointer (some ⟨go, 0, none⟩)] ∧ Blk w' go 24 #[.bool o.lpo, .slice p1 o.prec.length k1, .slice p2 o.weights.length k2, .int .i64 o.var]) ∧ Below w.heap.size w w') := by
 refine Calls.walk (l := [.agg #[.bool o.lpo, .slice p1 o.prec.length k1, .slice p2 o.weights.length k2, .int .i64 o.var]]) Try.func40 rfl (by kernel_rfl) ?_
 refine WC.sub (K' := [(0, .agg #[.bool o.lpo, .slice p1 o.prec.length k1, .slice p2 o.weights.length k2, .int .i64 o.var])]) ⟨rfl, trivial⟩ ?_
 refine WC.seq (WC.region ?_)
 refine WL.step (post := NewBlk w 24 #[.bool o.lpo, .slice p1 o.prec.length k1, .slice p2 o.weights.length k2, .int .i64 o.var]) rfl rfl rfl (fun za zC zh zk => box_24 rfl (zh.ev rfl) (zk _ _ (newBlk _ _ _))) ?_
 rintro _ w1 ⟨g2, rfl, hg3, hB4, hb5, hz6⟩
 have hl7 : w.heap.size ≤ g2 := by omega
 refine WL.asg rfl rfl rfl rfl rfl (WL.nil (WE.next (WC.seq (WC.region ?_))))
 refine WL.val (.func (Fn.func 45) #[] #[.pointer (some ⟨g2, 0, none⟩)]) rfl rfl rfl (fun za zC zh zk => mkfn rfl (hv0) (hv1 (zh.ev rfl)) zk) ?_
 refine WL.asg rfl rfl rfl rfl rfl (WL.nil (WE.next (WC.ret (WE.ret1 rfl rfl ?_))))
 exact ⟨_, rfl, ⟨_, rfl, hB4⟩, hb5⟩
/-- How two literals stand. -/
def Od.lits (o : Od) (x y : Li) : Int := multiP (multiP o.ok2) x.mems y.mems
set_option maxRecDepth 100000 in
theorem olits_any (o : Od) (x y : Li) (w : World) (vo v u : Value) (ho0 : IsOd w o vo) (hx : IsLi w x v) (hy0 : IsLi w y u) (zx : x.l.size ≤ 4294967296 ∧ x.r.size ≤ 4294967296) (zy : y.l.size ≤ 4294967296 ∧ y.r.size ≤ 4294967296) :
  Calls Try.prog 33 #[vo, v, u] w (Ret fun v' w' => v' = .int .i64 (o.lits x y) ∧ Below w.heap.size w w') := by
 have hxx := hx
 have hyy := hy0
 have hoo := ho0
 obtain ⟨p1, p2, k1, k2, rfl, _⟩ := ho0
 obtain ⟨a1, a2, c1, c2, rfl, h1, h2⟩ := hx.form
 obtain ⟨a1y, a2y, c1y, c2y, rfl, h1y, h2y⟩ := hy0.form
 have hsm : ∀ {x : Li}, (x.l.size ≤ 4294967296 ∧ x.r.size ≤ 4294967296) → ∀ l ∈ x.mems, SmallR l := fun z l hl => by
  have q := Li.mems_all l hl
  exact ⟨by omega, fun t ht => (q.2 t ht).elim (fun e => e ▸ z.1) (fun e => e ▸ z.2)⟩
 refine Calls.walk (l := [.agg #[.bool o.lpo, .slice p1 o.prec.length k1, .slice p2 o.weights.length k2, .int .i64 o.var], .agg #[.bool x.neg, .int .i64 x.l.f, .slice a1 x.l.args.length c1, .int .i64 x.r.f, .slice a2 x.r.args.length c2], .agg #[.bool y.neg, .int .i64 y.l.f, .slice a1y y.l.args.length c1y, .int .i64 y.r.f, .slice a2y y.r.args.length c2y]]) Try.func33 rfl (by kernel_rfl) ?_
 refine WC.sub (K' := [(0, .agg #[.bool o.lpo, .slice p1 o.prec.length k1, .slice p2 o.weights.length k2, .int .i64 o.var]), (1, .agg #[.bool x.neg, .int .i64 x.l.f, .slice a1 x.l.args.length c1, .int .i64 x.r.f, .slice a2 x.r.args.length c2]), (2, .agg #[.bool y.neg, .int .i64 y.l.f, .slice a1y y.l.args.length c1y, .int .i64 y.r.f, .slice a2y y.r.args.length c2y])]) ⟨rfl, rfl, rfl, trivial⟩ ?_
 refine WC.seq (WC.region ?_)
 refine WL.step (post := NewBlk w 24 #[.bool o.lpo, .slice p1 o.prec.length k1, .slice p2 o.weights.length k2, .int .i64 o.var]) rfl rfl rfl (fun za zC zh zk => box_24 rfl (zh.ev rfl) (zk _ _ (newBlk _ _ _))) ?_
 rintro _ w1 ⟨g2, rfl, hg3, hB4, hb5, hz6⟩
 have hl7 : w.heap.size ≤ g2 := by omega
 refine WL.step (post := NewBlk w1 36 #[.bool x.neg, .int .i64 x.l.f, .slice a1 x.l.args.length c1, .int .i64 x.r.f, .slice a2 x.r.args.length c2]) rfl rfl rfl (fun za zC zh zk => box_36 rfl (zh.ev rfl) (zk _ _ (newBlk _ _ _))) ?_
 rintro _ w8 ⟨g9, rfl, hg10, hB11, hb12, hz13⟩
 have hl14 : g2 < g9 := by have z1 := hB4.lt; omega
 have hl15 : w.heap.size ≤ g9 := by have z2 := (hb5).size; omega
 refine WL.step (post := NewBlk w8 36 #[.bool y.neg, .int .i64 y.l.f, .slice a1y y.l.args.length c1y, .int .i64 y.r.f, .slice a2y y.r.args.length c2y]) rfl rfl rfl (fun za zC zh zk => box_36 rfl (zh.ev rfl) (zk _ _ (newBlk _ _ _))) ?_
 rintro _ w16 ⟨g17, rfl, hg18, hB19, hb20, hz21⟩
 have hl22 : g2 < g17 := by have z1 := hB4.lt; have z2 := (hb12).size; omega
 have hl23 : g9 < g17 := by have z1 := hB11.lt; omega
 have hb24 : Below w.heap.size w w8 := (bstep hb5 hb12)
 have hl25 : w.heap.size ≤ g17 := by have z2 := (hb24).size; omega
 refine WL.asg rfl rfl rfl rfl rfl (WL.nil (WE.next (WC.seq (WC.region ?_))))
 have hb27 : Below w1.heap.size w1 w16 := (bstep hb12 hb20)
 have hB26 := hB4.below hb27
 refine WL.val _ rfl rfl rfl (fun za zC zh zk => ld_24 rfl (zh.ev rfl) ((hB26.cell 0).trans rfl) ((hB26.cell 1).trans rfl) ((hB26.cell 2).trans rfl) ((hB26.cell 3).trans rfl) zk) ?_
 refine WL.call rfl rfl rfl (fun za zh zC => wp_call (by kernel_rfl) rfl (hv1 (zh.ev rfl))) (oknows_any o _ p1 p2 k1 k2) ?_
 rintro v30 w31 ⟨hB28, hb29⟩
 obtain ⟨go, rfl, hB28⟩ := hB28
 refine WL.step (post := NewBlk w31 64 #[.nilFunc]) rfl rfl rfl (fun za zC zh zk => alloc_64 rfl (zk _ _ (newBlk _ _ _))) ?_
 rintro _ w32 ⟨g33, rfl, hg34, hB35, hb36, hz37⟩
 have hl38 : g2 < g33 := by have z1 := hB26.lt; have z2 := (hb29).size; omega
 have hb39 : Below w8.heap.size w8 w31 := (bstep hb20 hb29)
 have hl40 : g9 < g33 := by have z1 := hB11.lt; have z2 := (hb39).size; omega
 have hl41 : g17 < g33 := by have z1 := hB19.lt; have z2 := (hb29).size; omega
 have hl42 : go < g33 := by have z1 := hB28.lt; omega
 have hb43 : Below w.heap.size w w31 := (bstep hb24 hb39)
 have hl44 : w.heap.size ≤ g33 := by have z2 := (hb43).size; omega
 refine WL.step (post := fun _ w' => Upd g33 w32 w' ∧ Blk w' g33 64 #[.func (.func 45) #[] #[.pointer (some ⟨go, 0, none⟩)]]) rfl rfl rfl (fun za zC zh zk => st_64 rfl (zh.ev rfl) (zh.ev rfl) hB35 (by first | decide | simp) (fun v => zk v _ ⟨Upd.at_ _ _ _ _, hB35.set_ 0 _⟩)) ?_
 rintro v48 w45 ⟨hu46, hB47⟩
 have hb49 : Below w.heap.size w w32 := (bstep hb43 hb36)
 have hb50 := upd_below hb49 hu46 (by omega)
 have hb52 : Below w16.heap.size w16 w32 := (bstep hb29 hb36)
 have hB51 := hB26.below hb52
 have hB53 := upd_blk hB51 hu46 (by omega)
 have hb55 : Below w8.heap.size w8 w32 := (bstep hb20 hb52)
 have hB54 := hB11.below hb55
 have hB56 := upd_blk hB54 hu46 (by omega)
 have hB57 := hB19.below hb52
 have hB58 := upd_blk hB57 hu46 (by omega)
 have hB59 := hB28.below hb36
 have hB60 := upd_blk hB59 hu46 (by omega)
 refine WL.nil (WE.next (WC.seq ?_))
 refine WC.opt [(true, .val (.agg #[.bool x.neg, .int .i64 x.l.f, .slice a1 x.l.args.length c1, .int .i64 x.r.f, .slice a2 x.r.args.length c2])), (true, .mem (RowR x.mems) (RowR.keep)), (true, .val (.agg #[.bool y.neg, .int .i64 y.l.f, .slice a1y y.l.args.length c1y, .int .i64 y.r.f, .slice a2y y.r.args.length c2y])), (true, .mem (RowR y.mems) (RowR.keep)), (true, .val (.func (Fn.func 43) #[] #[.pointer (some ⟨g33, 0, none⟩)])), (true, .val (.int .i64 ((o.lits x y)))), (true, .val (.int .i64 ((o.lits x y))))] [(0, .agg #[.bool o.lpo, .slice p1 o.prec.length k1, .slice p2 o.weights.length k2, .int .i64 o.var]), (1, .agg #[.bool x.neg, .int .i64 x.l.f, .slice a1 x.l.args.length c1, .int .i64 x.r.f, .slice a2 x.r.args.length c2]), (2, .agg #[.bool y.neg, .int .i64 y.l.f, .slice a1y y.l.args.length c1y, .int .i64 y.r.f, .slice a2y y.r.args.length c2y]), (3, .pointer (some ⟨g2, 0, none⟩)), (4, .pointer (some ⟨g9, 0, none⟩)), (5, .pointer (some ⟨g17, 0, none⟩)), (7, .pointer (some ⟨g33, 0, none⟩))] ⟨rfl, rfl, rfl, rfl, rfl, rfl, rfl, trivial⟩ (by kernel_rfl) (by kernel_rfl) (by kernel_rfl) ?_ ?_
 ·refine ⟨⟨true, .none rfl, fun h w => optUndef h, fun zβ za zw zc => ?_⟩, ?_⟩
  ·exact ld_36 rfl (zc.kn.ev rfl) (bkeeps zc.below _ _ ((hB56.cell 0).trans rfl)) (bkeeps zc.below _ _ ((hB56.cell 1).trans rfl)) (bkeeps zc.below _ _ ((hB56.cell 2).trans rfl)) (bkeeps zc.below _ _ ((hB56.cell 3).trans rfl)) (bkeeps zc.below _ _ ((hB56.cell 4).trans rfl)) ⟨_, rfl, Below.refl _ _, optDef zβ rfl⟩
  refine ⟨⟨true, .none rfl, fun h w => optUndef h, fun zβ za zw zc => ?_⟩, ?_⟩
  ·exact wp_call (by kernel_rfl) rfl (hv1 ((evt za 10).trans (optVal (zc.dep 0 10 (by kernel_rfl)) rfl rfl))) (members_any x _ _ (hxx.below (bstep hb50 zc.below))) (fun v w' h => ⟨v, rfl, h.2, optDef zβ h.1⟩)
  refine ⟨⟨true, .none rfl, fun h w => optUndef h, fun zβ za zw zc => ?_⟩, ?_⟩
  ·exact ld_36 rfl (zc.kn.ev rfl) (bkeeps zc.below _ _ ((hB58.cell 0).trans rfl)) (bkeeps zc.below _ _ ((hB58.cell 1).trans rfl)) (bkeeps zc.below _ _ ((hB58.cell 2).trans rfl)) (bkeeps zc.below _ _ ((hB58.cell 3).trans rfl)) (bkeeps zc.below _ _ ((hB58.cell 4).trans rfl)) ⟨_, rfl, Below.refl _ _, optDef zβ rfl⟩
  refine ⟨⟨true, .none rfl, fun h w => optUndef h, fun zβ za zw zc => ?_⟩, ?_⟩
  ·exact wp_call (by kernel_rfl) rfl (hv1 ((evt za 12).trans (optVal (zc.dep 2 12 (by kernel_rfl)) rfl rfl))) (members_any y _ _ (hyy.below (bstep hb50 zc.below))) (fun v w' h => ⟨v, rfl, h.2, optDef zβ h.1⟩)
  refine ⟨⟨true, .none rfl, fun h w => optUndef h, fun zβ za zw zc => ?_⟩, ?_⟩
  ·exact mkfn rfl (hv0) (hv1 (zc.kn.ev rfl)) ⟨_, rfl, Below.refl _ _, optDef zβ rfl⟩
  refine ⟨⟨true, .none rfl, fun h w => optUndef h, fun zβ za zw zc => ?_⟩, ?_⟩
  ·obtain ⟨a3, c3, e3, hr1⟩ := (optMem (zc.dep 1 11 (by kernel_rfl)) rfl rfl)
   obtain ⟨a4, c4, e4, hr2⟩ := (optMem (zc.dep 3 13 (by kernel_rfl)) rfl rfl)
   exact wp_call (by kernel_rfl) rfl (hv3 ((evt za 11).trans e3) ((evt za 13).trans e4) ((evt za 14).trans (optVal (zc.dep 4 14 (by kernel_rfl)) rfl rfl))) (multiR_any o go g33 p1 p2 k1 k2 x.mems y.mems _ _ _ _ _ hr1 hr2 (hB60.below zc.below) (hoo.below (bstep hb50 zc.below)) (hB47.below zc.below) (hsm zx) (hsm zy) (by have z := x.mems_len; omega) (by have z := y.mems_len; omega)) (fun v w' h => ⟨v, rfl, h.2, optDef zβ h.1⟩)
  refine ⟨⟨true, .none rfl, fun h w => optUndef h, fun zβ za zw zc => ?_⟩, ?_⟩
  ·exact wp_assign rfl ((evt za 15).trans (optVal (zc.dep 5 15 (by kernel_rfl)) rfl rfl)) ⟨_, rfl, Below.refl _ _, optDef zβ rfl⟩
  exact trivial
 ·intro za w61 zh hb62 zu
  have zh := zh.cons (d := 6) (v := .int .i64 ((o.lits x y))) (optVal (zu 6 6 (by kernel_rfl)) rfl rfl)
  clear zu
  refine WE.go zh ?_
  refine WE.next (WC.ret (WE.ret1 rfl rfl ?_))
  have hb63 : Below w.heap.size w w61 := (bstep hb50 hb62)
  exact ⟨_, rfl, rfl, hb63⟩
end Go.Proofs.Ytnokgjajcnhkkaa
