/- The first negative literal that none is better than; the program. -/
import Derived.Test.YtnokgjajcnhkkaaCNMc
import Derived.Test.YtnokgjajcnhkkaaCNMg

/- Is one literal above all others? The program. -/
namespace Go.Proofs.Ytnokgjajcnhkkaa
open Go.RowKit Go
set_option linter.unusedVariables false
set_option linter.unusedSimpArgs false
def onePair (o : Od) (c : List Li) (i j : Nat) : Bool := decide ((i : Int) = (j : Int)) || decide (o.lits (lget c i) (lget c j) = 3)
def oneTo (o : Od) (c : List Li) (i k : Nat) : Bool := (List.range k).all (onePair o c i)
def oneB (o : Od) (c : List Li) : Bool := (List.range c.length).any fun i => oneTo o c i c.length
theorem oneTo_step {o : Od} {c : List Li} {i k : Nat} : (oneTo o c i k && onePair o c i k) = oneTo o c i (k + 1) := by unfold oneTo; rw [List.range_succ, List.all_append]; simp
theorem anyR2_true {n k : Nat} {f : Nat → Bool} (hk : k < n) (h : f k = true) : (List.range n).any f = true := by rw [List.any_eq_true]; exact ⟨k, List.mem_range.2 hk, h⟩
theorem anyR2_false {n : Nat} {f : Nat → Bool} (h : ∀ k, k < n → f k = false) : (List.range n).any f = false := by rw [List.any_eq_false]; intro k hk; rw [h k (List.mem_range.1 hk)]; simp
set_option maxRecDepth 100000 in
theorem one_any (o : Od) (c : List Li) (w : World) (vo : Value) (a : Option Addr) (cc : Nat) (ho : IsOd w o vo) (hc : IsCl w c a cc) : Calls Try.prog 26 #[vo, .slice a c.length cc] w (Ret fun v' w' => v' = .bool (oneB o c) ∧ Below w.heap.size w w') := by
 have hot := ho
 obtain ⟨p1, p2, k1, k2, rfl, _⟩ := ho
 have hcap := hc.cap
 have hcl := hc.len
 unfold maxLen at hcap
 refine Calls.walk (l := [.agg #[.bool o.lpo, .slice p1 o.prec.length k1, .slice p2 o.weights.length k2, .int .i64 o.var], .slice a c.length cc]) Try.func26 rfl (by kernel_rfl) ?_
 refine WC.sub (K' := [(0, .agg #[.bool o.lpo, .slice p1 o.prec.length k1, .slice p2 o.weights.length k2, .int .i64 o.var]), (1, .slice a c.length cc)]) ⟨rfl, rfl, trivial⟩ ?_
 refine WC.seq (WC.region ?_)
 refine WL.step (post := NewBlk w 24 #[.bool o.lpo, .slice p1 o.prec.length k1, .slice p2 o.weights.length k2, .int .i64 o.var]) rfl rfl rfl (fun za zC zh zk => box_24 rfl (zh.ev rfl) (zk _ _ (newBlk _ _ _))) ?_
 rintro _ w1 ⟨g2, rfl, hg3, hB4, hb5, hz6⟩
 have hl7 : w.heap.size ≤ g2 := by omega
 refine WL.asg rfl rfl rfl rfl rfl (WL.nil (WE.next (WC.seq (WC.seq (WC.region (WL.mv rfl rfl rfl rfl rfl ?_))))))
 refine WL.val (.int .i64 (((c.length : Nat) : Int))) rfl rfl rfl (fun za zC zh zk => len_27 rfl (zh.ev rfl) zk) ?_
 refine WL.mv rfl rfl rfl rfl rfl (WL.nil (WE.next (WC.block ?_)))
 refine WC.loop (X := Nat) (fun i => c.length - i) (fun i => [(0, .agg #[.bool o.lpo, .slice p1 o.prec.length k1, .slice p2 o.weights.length k2, .int .i64 o.var]), (1, .slice a c.length cc), (2, .pointer (some ⟨g2, 0, none⟩)), (9, .int .i64 (((c.length : Nat) : Int))), (10, .int .i64 (((i : Nat) : Int)))]) (fun i w8 => i ≤ c.length ∧ (∀ q, q < i → oneTo o c q c.length = false) ∧ Below w.heap.size w w8 ∧ Blk w8 g2 24 #[.bool o.lpo, .slice p1 o.prec.length k1, .slice p2 o.weights.length k2, .int .i64 o.var]) 0 ⟨rfl, rfl, rfl, rfl, rfl, trivial⟩ ?_ ?_
 ·exact ⟨Nat.zero_le _, fun q h => absurd h (Nat.not_lt_zero q), hb5, hB4⟩
 ·rintro i w8 ⟨hi, hall, hb9, hB10⟩
  refine WC.seq (WC.region ?_)
  refine WL.val (.bool ((decide ((((i : Nat) : Int) : Int) < (((c.length : Nat) : Int) : Int))))) rfl rfl rfl (fun za zC zh zk => lss_3 rfl (zh.ev rfl) (zh.ev rfl) zk) ?_
  refine WL.nil (WE.next (WC.seq ?_))
  refine WC.cond rfl (fun h11 => ?_) (fun h11 => ?_)
  ·have h11 : (((i : Nat) : Int) : Int) < (((c.length : Nat) : Int) : Int) := by simpa using h11
   refine WC.skip (WE.next (WC.seq (WC.block (WC.seq (WC.region (WL.mv rfl rfl rfl rfl rfl (WL.asg rfl rfl rfl rfl rfl (WL.nil (WE.next (WC.seq (WC.region (WL.asg rfl rfl rfl rfl rfl (WL.nil (WE.next (WC.seq (WC.seq (WC.region (WL.mv rfl rfl rfl rfl rfl ?_))))))))))))))))))
   refine WL.val (.int .i64 (((c.length : Nat) : Int))) rfl rfl rfl (fun za zC zh zk => len_27 rfl (zh.ev rfl) zk) ?_
   refine WL.mv rfl rfl rfl rfl rfl (WL.nil (WE.next (WC.block ?_)))
   refine WC.loop (X := Nat) (fun k => c.length - k) (fun k => [(0, .agg #[.bool o.lpo, .slice p1 o.prec.length k1, .slice p2 o.weights.length k2, .int .i64 o.var]), (1, .slice a c.length cc), (2, .pointer (some ⟨g2, 0, none⟩)), (5, .int .i64 (((i : Nat) : Int))), (6, .bool ((oneTo o c i k))), (9, .int .i64 (((c.length : Nat) : Int))), (10, .int .i64 (((i : Nat) : Int))), (11, .bool ((decide ((((i : Nat) : Int) : Int) < (((c.length : Nat) : Int) : Int))))), (14, .int .i64 (((c.length : Nat) : Int))), (15, .int .i64 (((k : Nat) : Int)))]) (fun k w12 => k ≤ c.length ∧ Below w.heap.size w w12 ∧ Blk w12 g2 24 #[.bool o.lpo, .slice p1 o.prec.length k1, .slice p2 o.weights.length k2, .int .i64 o.var]) 0 ⟨rfl, rfl, rfl, rfl, rfl, rfl, rfl, rfl, rfl, rfl, trivial⟩ ?_ ?_
   ·exact ⟨Nat.zero_le _, hb9, hB10⟩
   ·rintro k w12 ⟨hk, hb13, hB14⟩
    refine WC.seq (WC.region ?_)
    refine WL.val (.bool ((decide ((((k : Nat) : Int) : Int) < (((c.length : Nat) : Int) : Int))))) rfl rfl rfl (fun za zC zh zk => lss_3 rfl (zh.ev rfl) (zh.ev rfl) zk) ?_
    refine WL.nil (WE.next (WC.seq ?_))
    refine WC.cond rfl (fun h15 => ?_) (fun h15 => ?_)
    ·have h15 : (((k : Nat) : Int) : Int) < (((c.length : Nat) : Int) : Int) := by simpa using h15
     refine WC.skip (WE.next (WC.seq (WC.block (WC.seq (WC.region (WL.mv rfl rfl rfl rfl rfl (WL.asg rfl rfl rfl rfl rfl (WL.nil (WE.next ?_)))))))))
     obtain ⟨b16, o17, A18, C19, A20, C21, ha22, hc23⟩ := InRow.openL hc.rows
     refine WC.seqV (S := ((fun b => b < 0))) [(true, .val (.bool ((oneTo o c i k)))), (true, .val (.bool ((oneTo o c i k)))), ((true && (oneTo o c i k)), .val (.int .i64 (((i : Nat) : Int)))), ((true && (oneTo o c i k)), .val (.int .i64 (((k : Nat) : Int)))), ((true && (oneTo o c i k)), .val (.bool (((((i : Nat) : Int) : Int) == (((k : Nat) : Int) : Int))))), ((true && (oneTo o c i k)), .val (.bool (((((i : Nat) : Int) : Int) == (((k : Nat) : Int) : Int))))), (((true && (oneTo o c i k)) && !((((i : Nat) : Int) : Int) == (((k : Nat) : Int) : Int))), .val (.agg #[.bool o.lpo, .slice p1 o.prec.length k1, .slice p2 o.weights.length k2, .int .i64 o.var])), (((true && (oneTo o c i k)) && !((((i : Nat) : Int) : Int) == (((k : Nat) : Int) : Int))), .val (.slice a c.length cc)), (((true && (oneTo o c i k)) && !((((i : Nat) : Int) : Int) == (((k : Nat) : Int) : Int))), .val (.int .i64 (((i : Nat) : Int)))), (((true && (oneTo o c i k)) && !((((i : Nat) : Int) : Int) == (((k : Nat) : Int) : Int))), .val (.pointer (some ⟨b16, o17 + i * 5, none⟩))), (((true && (oneTo o c i k)) && !((((i : Nat) : Int) : Int) == (((k : Nat) : Int) : Int))), .val (.agg #[.bool ((lget c i).neg), .int .i64 ((lget c i).l.f), .slice ((A18 i)) ((lget c i).l.args.length) ((C19 i)), .int .i64 ((lget c i).r.f), .slice ((A20 i)) ((lget c i).r.args.length) ((C21 i))])), (((true && (oneTo o c i k)) && !((((i : Nat) : Int) : Int) == (((k : Nat) : Int) : Int))), .val (.slice a c.length cc)), (((true && (oneTo o c i k)) && !((((i : Nat) : Int) : Int) == (((k : Nat) : Int) : Int))), .val (.int .i64 (((k : Nat) : Int)))), (((true && (oneTo o c i k)) && !((((i : Nat) : Int) : Int) == (((k : Nat) : Int) : Int))), .val (.pointer (some ⟨b16, o17 + k * 5, none⟩))), (((true && (oneTo o c i k)) && !((((i : Nat) : Int) : Int) == (((k : Nat) : Int) : Int))), .val (.agg #[.bool ((lget c k).neg), .int .i64 ((lget c k).l.f), .slice ((A18 k)) ((lget c k).l.args.length) ((C19 k)), .int .i64 ((lget c k).r.f), .slice ((A20 k)) ((lget c k).r.args.length) ((C21 k))])), (((true && (oneTo o c i k)) && !((((i : Nat) : Int) : Int) == (((k : Nat) : Int) : Int))), .val (.int .i64 ((o.lits (lget c i) (lget c k))))), (((true && (oneTo o c i k)) && !((((i : Nat) : Int) : Int) == (((k : Nat) : Int) : Int))), .val (.bool ((((o.lits (lget c i) (lget c k)) : Int) == (3 : Int))))), ((true && (oneTo o c i k)), .val (.bool ((((((i : Nat) : Int) : Int) == (((k : Nat) : Int) : Int)) || (((o.lits (lget c i) (lget c k)) : Int) == (3 : Int)))))), (true, .val (.bool (((oneTo o c i k) && (((((i : Nat) : Int) : Int) == (((k : Nat) : Int) : Int)) || (((o.lits (lget c i) (lget c k)) : Int) == (3 : Int))))))), (true, .val undef)] [(0, .agg #[.bool o.lpo, .slice p1 o.prec.length k1, .slice p2 o.weights.length k2, .int .i64 o.var]), (1, .slice a c.length cc), (2, .pointer (some ⟨g2, 0, none⟩)), (5, .int .i64 (((i : Nat) : Int))), (7, .int .i64 (((k : Nat) : Int))), (9, .int .i64 (((c.length : Nat) : Int))), (10, .int .i64 (((i : Nat) : Int))), (11, .bool ((decide ((((i : Nat) : Int) : Int) < (((c.length : Nat) : Int) : Int))))), (14, .int .i64 (((c.length : Nat) : Int))), (15, .int .i64 (((k : Nat) : Int))), (16, .bool ((decide ((((k : Nat) : Int) : Int) < (((c.length : Nat) : Int) : Int)))))] [19] [some (true, .bool ((oneTo o c i k && onePair o c i k)))] (fun _ _ => True) ((fun _ _ _ _ _ => trivial)) (by decide) ⟨rfl, rfl, rfl, rfl, rfl, rfl, rfl, rfl, rfl, rfl, rfl, trivial⟩ (by kernel_rfl) (by kernel_rfl) (by kernel_rfl) (by kernel_rfl) trivial ?_ ?_
     ·refine ⟨.inl ⟨rfl, true, .none rfl, (fun gg b h => by cases h), fun h w => optUndef h, fun zβ za zw zc => ?_⟩, ?_⟩
      ·exact wp_move rfl ((evt za 6).trans (zc.old 6 _ rfl (by kernel_rfl))) ⟨_, rfl, Below.refl _ _, optDef zβ rfl⟩
      refine ⟨.inl ⟨rfl, true, .none rfl, (fun gg b h => by cases h), fun h w => optUndef h, fun zβ za zw zc => ?_⟩, ?_⟩
      ·exact wp_move rfl ((evt za 18).trans (optSVal (zc.dep 0 18 (by kernel_rfl) (by decide)) rfl rfl)) ⟨_, rfl, Below.refl _ _, optDef zβ rfl⟩
      refine ⟨.inl ⟨rfl, (true && (oneTo o c i k)), .yes (c := (oneTo o c i k)) (d := true) rfl (fun v w h => h), (fun gg b h => by cases h; rfl), fun h w => optUndef h, fun zβ za zw zc => ?_⟩, ?_⟩
      ·exact wp_move rfl (zc.kn.ev rfl) ⟨_, rfl, Below.refl _ _, optDef zβ rfl⟩
      refine ⟨.inl ⟨rfl, (true && (oneTo o c i k)), .yes (c := (oneTo o c i k)) (d := true) rfl (fun v w h => h), (fun gg b h => by cases h; rfl), fun h w => optUndef h, fun zβ za zw zc => ?_⟩, ?_⟩
      ·exact wp_move rfl (zc.kn.ev rfl) ⟨_, rfl, Below.refl _ _, optDef zβ rfl⟩
      refine ⟨.inl ⟨rfl, (true && (oneTo o c i k)), .yes (c := (oneTo o c i k)) (d := true) rfl (fun v w h => h), (fun gg b h => by cases h; rfl), fun h w => optUndef h, fun zβ za zw zc => ?_⟩, ?_⟩
      ·exact eql_3 rfl ((evt za 20).trans (optSVal (zc.dep 2 20 (by kernel_rfl) (by decide)) rfl zβ)) ((evt za 21).trans (optSVal (zc.dep 3 21 (by kernel_rfl) (by decide)) rfl zβ)) ⟨_, rfl, Below.refl _ _, optDef zβ rfl⟩
      refine ⟨.inl ⟨rfl, (true && (oneTo o c i k)), .yes (c := (oneTo o c i k)) (d := true) rfl (fun v w h => h), (fun gg b h => by cases h; rfl), fun h w => optUndef h, fun zβ za zw zc => ?_⟩, ?_⟩
      ·exact wp_move rfl ((evt za 22).trans (optSVal (zc.dep 4 22 (by kernel_rfl) (by decide)) rfl zβ)) ⟨_, rfl, Below.refl _ _, optDef zβ rfl⟩
      refine ⟨.inl ⟨rfl, ((true && (oneTo o c i k)) && !((((i : Nat) : Int) : Int) == (((k : Nat) : Int) : Int))), .no (c := ((((i : Nat) : Int) : Int) == (((k : Nat) : Int) : Int))) (d := (true && (oneTo o c i k))) rfl (fun v w h => h), (fun gg b h => by cases h; rfl), fun h w => optUndef h, fun zβ za zw zc => ?_⟩, ?_⟩
      ·exact ld_24 rfl (zc.kn.ev rfl) (bkeeps (Chg.toBelow zc.chg) _ _ ((hB14.cell 0).trans rfl)) (bkeeps (Chg.toBelow zc.chg) _ _ ((hB14.cell 1).trans rfl)) (bkeeps (Chg.toBelow zc.chg) _ _ ((hB14.cell 2).trans rfl)) (bkeeps (Chg.toBelow zc.chg) _ _ ((hB14.cell 3).trans rfl)) ⟨_, rfl, Below.refl _ _, optDef zβ rfl⟩
      refine ⟨.inl ⟨rfl, ((true && (oneTo o c i k)) && !((((i : Nat) : Int) : Int) == (((k : Nat) : Int) : Int))), .no (c := ((((i : Nat) : Int) : Int) == (((k : Nat) : Int) : Int))) (d := (true && (oneTo o c i k))) rfl (fun v w h => h), (fun gg b h => by cases h; rfl), fun h w => optUndef h, fun zβ za zw zc => ?_⟩, ?_⟩
      ·exact wp_move rfl (zc.kn.ev rfl) ⟨_, rfl, Below.refl _ _, optDef zβ rfl⟩
      refine ⟨.inl ⟨rfl, ((true && (oneTo o c i k)) && !((((i : Nat) : Int) : Int) == (((k : Nat) : Int) : Int))), .no (c := ((((i : Nat) : Int) : Int) == (((k : Nat) : Int) : Int))) (d := (true && (oneTo o c i k))) rfl (fun v w h => h), (fun gg b h => by cases h; rfl), fun h w => optUndef h, fun zβ za zw zc => ?_⟩, ?_⟩
      ·exact wp_move rfl (zc.kn.ev rfl) ⟨_, rfl, Below.refl _ _, optDef zβ rfl⟩
      refine ⟨.inl ⟨rfl, ((true && (oneTo o c i k)) && !((((i : Nat) : Int) : Int) == (((k : Nat) : Int) : Int))), .no (c := ((((i : Nat) : Int) : Int) == (((k : Nat) : Int) : Int))) (d := (true && (oneTo o c i k))) rfl (fun v w h => h), (fun gg b h => by cases h; rfl), fun h w => optUndef h, fun zβ za zw zc => ?_⟩, ?_⟩
      ·exact ix_27 (k := i) rfl ((evt za 25).trans (optSVal (zc.dep 7 25 (by kernel_rfl) (by decide)) rfl zβ)) (ha22 i (by first | omega | (have zz := zβ; simp only [Bool.and_eq_true, Bool.or_eq_true, Bool.true_and, Bool.not_eq_true', Bool.or_eq_false_iff, Bool.and_eq_false_iff, beq_eq_false_iff_ne, ne_eq, beq_iff_eq, decide_eq_true_eq, decide_eq_false_iff_not, bne_iff_ne, bne_eq_false_iff_eq] at zz; omega))) ((evt za 26).trans (optSVal (zc.dep 8 26 (by kernel_rfl) (by decide)) rfl zβ)) (by first | omega | (have zz := zβ; simp only [Bool.and_eq_true, Bool.or_eq_true, Bool.true_and, Bool.not_eq_true', Bool.or_eq_false_iff, Bool.and_eq_false_iff, beq_eq_false_iff_ne, ne_eq, beq_iff_eq, decide_eq_true_eq, decide_eq_false_iff_not, bne_iff_ne, bne_eq_false_iff_eq] at zz; omega)) ⟨_, rfl, Below.refl _ _, optDef zβ rfl⟩
      refine ⟨.inl ⟨rfl, ((true && (oneTo o c i k)) && !((((i : Nat) : Int) : Int) == (((k : Nat) : Int) : Int))), .no (c := ((((i : Nat) : Int) : Int) == (((k : Nat) : Int) : Int))) (d := (true && (oneTo o c i k))) rfl (fun v w h => h), (fun gg b h => by cases h; rfl), fun h w => optUndef h, fun zβ za zw zc => ?_⟩, ?_⟩
      ·exact ld_36 rfl ((evt za 27).trans (optSVal (zc.dep 9 27 (by kernel_rfl) (by decide)) rfl zβ)) (bkeeps (bstep hb13 (Chg.toBelow zc.chg)) _ _ (hc23 i (by first | omega | (have zz := zβ; simp only [Bool.and_eq_true, Bool.or_eq_true, Bool.true_and, Bool.not_eq_true', Bool.or_eq_false_iff, Bool.and_eq_false_iff, beq_eq_false_iff_ne, ne_eq, beq_iff_eq, decide_eq_true_eq, decide_eq_false_iff_not, bne_iff_ne, bne_eq_false_iff_eq] at zz; omega))).1) (bkeeps (bstep hb13 (Chg.toBelow zc.chg)) _ _ (hc23 i (by first | omega | (have zz := zβ; simp only [Bool.and_eq_true, Bool.or_eq_true, Bool.true_and, Bool.not_eq_true', Bool.or_eq_false_iff, Bool.and_eq_false_iff, beq_eq_false_iff_ne, ne_eq, beq_iff_eq, decide_eq_true_eq, decide_eq_false_iff_not, bne_iff_ne, bne_eq_false_iff_eq] at zz; omega))).2.1) (bkeeps (bstep hb13 (Chg.toBelow zc.chg)) _ _ (hc23 i (by first | omega | (have zz := zβ; simp only [Bool.and_eq_true, Bool.or_eq_true, Bool.true_and, Bool.not_eq_true', Bool.or_eq_false_iff, Bool.and_eq_false_iff, beq_eq_false_iff_ne, ne_eq, beq_iff_eq, decide_eq_true_eq, decide_eq_false_iff_not, bne_iff_ne, bne_eq_false_iff_eq] at zz; omega))).2.2.1) (bkeeps (bstep hb13 (Chg.toBelow zc.chg)) _ _ (hc23 i (by first | omega | (have zz := zβ; simp only [Bool.and_eq_true, Bool.or_eq_true, Bool.true_and, Bool.not_eq_true', Bool.or_eq_false_iff, Bool.and_eq_false_iff, beq_eq_false_iff_ne, ne_eq, beq_iff_eq, decide_eq_true_eq, decide_eq_false_iff_not, bne_iff_ne, bne_eq_false_iff_eq] at zz; omega))).2.2.2.1) (bkeeps (bstep hb13 (Chg.toBelow zc.chg)) _ _ (hc23 i (by first | omega | (have zz := zβ; simp only [Bool.and_eq_true, Bool.or_eq_true, Bool.true_and, Bool.not_eq_true', Bool.or_eq_false_iff, Bool.and_eq_false_iff, beq_eq_false_iff_ne, ne_eq, beq_iff_eq, decide_eq_true_eq, decide_eq_false_iff_not, bne_iff_ne, bne_eq_false_iff_eq] at zz; omega))).2.2.2.2.1) ⟨_, rfl, Below.refl _ _, optDef zβ rfl⟩
      refine ⟨.inl ⟨rfl, ((true && (oneTo o c i k)) && !((((i : Nat) : Int) : Int) == (((k : Nat) : Int) : Int))), .no (c := ((((i : Nat) : Int) : Int) == (((k : Nat) : Int) : Int))) (d := (true && (oneTo o c i k))) rfl (fun v w h => h), (fun gg b h => by cases h; rfl), fun h w => optUndef h, fun zβ za zw zc => ?_⟩, ?_⟩
      ·exact wp_move rfl (zc.kn.ev rfl) ⟨_, rfl, Below.refl _ _, optDef zβ rfl⟩
      refine ⟨.inl ⟨rfl, ((true && (oneTo o c i k)) && !((((i : Nat) : Int) : Int) == (((k : Nat) : Int) : Int))), .no (c := ((((i : Nat) : Int) : Int) == (((k : Nat) : Int) : Int))) (d := (true && (oneTo o c i k))) rfl (fun v w h => h), (fun gg b h => by cases h; rfl), fun h w => optUndef h, fun zβ za zw zc => ?_⟩, ?_⟩
      ·exact wp_move rfl (zc.kn.ev rfl) ⟨_, rfl, Below.refl _ _, optDef zβ rfl⟩
      refine ⟨.inl ⟨rfl, ((true && (oneTo o c i k)) && !((((i : Nat) : Int) : Int) == (((k : Nat) : Int) : Int))), .no (c := ((((i : Nat) : Int) : Int) == (((k : Nat) : Int) : Int))) (d := (true && (oneTo o c i k))) rfl (fun v w h => h), (fun gg b h => by cases h; rfl), fun h w => optUndef h, fun zβ za zw zc => ?_⟩, ?_⟩
      ·exact ix_27 (k := k) rfl ((evt za 29).trans (optSVal (zc.dep 11 29 (by kernel_rfl) (by decide)) rfl zβ)) (ha22 k (by first | omega | (have zz := zβ; simp only [Bool.and_eq_true, Bool.or_eq_true, Bool.true_and, Bool.not_eq_true', Bool.or_eq_false_iff, Bool.and_eq_false_iff, beq_eq_false_iff_ne, ne_eq, beq_iff_eq, decide_eq_true_eq, decide_eq_false_iff_not, bne_iff_ne, bne_eq_false_iff_eq] at zz; omega))) ((evt za 30).trans (optSVal (zc.dep 12 30 (by kernel_rfl) (by decide)) rfl zβ)) (by first | omega | (have zz := zβ; simp only [Bool.and_eq_true, Bool.or_eq_true, Bool.true_and, Bool.not_eq_true', Bool.or_eq_false_iff, Bool.and_eq_false_iff, beq_eq_false_iff_ne, ne_eq, beq_iff_eq, decide_eq_true_eq, decide_eq_false_iff_not, bne_iff_ne, bne_eq_false_iff_eq] at zz; omega)) ⟨_, rfl, Below.refl _ _, optDef zβ rfl⟩
      refine ⟨.inl ⟨rfl, ((true && (oneTo o c i k)) && !((((i : Nat) : Int) : Int) == (((k : Nat) : Int) : Int))), .no (c := ((((i : Nat) : Int) : Int) == (((k : Nat) : Int) : Int))) (d := (true && (oneTo o c i k))) rfl (fun v w h => h), (fun gg b h => by cases h; rfl), fun h w => optUndef h, fun zβ za zw zc => ?_⟩, ?_⟩
      ·exact ld_36 rfl ((evt za 31).trans (optSVal (zc.dep 13 31 (by kernel_rfl) (by decide)) rfl zβ)) (bkeeps (bstep hb13 (Chg.toBelow zc.chg)) _ _ (hc23 k (by first | omega | (have zz := zβ; simp only [Bool.and_eq_true, Bool.or_eq_true, Bool.true_and, Bool.not_eq_true', Bool.or_eq_false_iff, Bool.and_eq_false_iff, beq_eq_false_iff_ne, ne_eq, beq_iff_eq, decide_eq_true_eq, decide_eq_false_iff_not, bne_iff_ne, bne_eq_false_iff_eq] at zz; omega))).1) (bkeeps (bstep hb13 (Chg.toBelow zc.chg)) _ _ (hc23 k (by first | omega | (have zz := zβ; simp only [Bool.and_eq_true, Bool.or_eq_true, Bool.true_and, Bool.not_eq_true', Bool.or_eq_false_iff, Bool.and_eq_false_iff, beq_eq_false_iff_ne, ne_eq, beq_iff_eq, decide_eq_true_eq, decide_eq_false_iff_not, bne_iff_ne, bne_eq_false_iff_eq] at zz; omega))).2.1) (bkeeps (bstep hb13 (Chg.toBelow zc.chg)) _ _ (hc23 k (by first | omega | (have zz := zβ; simp only [Bool.and_eq_true, Bool.or_eq_true, Bool.true_and, Bool.not_eq_true', Bool.or_eq_false_iff, Bool.and_eq_false_iff, beq_eq_false_iff_ne, ne_eq, beq_iff_eq, decide_eq_true_eq, decide_eq_false_iff_not, bne_iff_ne, bne_eq_false_iff_eq] at zz; omega))).2.2.1) (bkeeps (bstep hb13 (Chg.toBelow zc.chg)) _ _ (hc23 k (by first | omega | (have zz := zβ; simp only [Bool.and_eq_true, Bool.or_eq_true, Bool.true_and, Bool.not_eq_true', Bool.or_eq_false_iff, Bool.and_eq_false_iff, beq_eq_false_iff_ne, ne_eq, beq_iff_eq, decide_eq_true_eq, decide_eq_false_iff_not, bne_iff_ne, bne_eq_false_iff_eq] at zz; omega))).2.2.2.1) (bkeeps (bstep hb13 (Chg.toBelow zc.chg)) _ _ (hc23 k (by first | omega | (have zz := zβ; simp only [Bool.and_eq_true, Bool.or_eq_true, Bool.true_and, Bool.not_eq_true', Bool.or_eq_false_iff, Bool.and_eq_false_iff, beq_eq_false_iff_ne, ne_eq, beq_iff_eq, decide_eq_true_eq, decide_eq_false_iff_not, bne_iff_ne, bne_eq_false_iff_eq] at zz; omega))).2.2.2.2.1) ⟨_, rfl, Below.refl _ _, optDef zβ rfl⟩
      refine ⟨.inl ⟨rfl, ((true && (oneTo o c i k)) && !((((i : Nat) : Int) : Int) == (((k : Nat) : Int) : Int))), .no (c := ((((i : Nat) : Int) : Int) == (((k : Nat) : Int) : Int))) (d := (true && (oneTo o c i k))) rfl (fun v w h => h), (fun gg b h => by cases h; rfl), fun h w => optUndef h, fun zβ za zw zc => ?_⟩, ?_⟩
      ·exact wp_call (by kernel_rfl) rfl (hv3 ((evt za 24).trans (optSVal (zc.dep 6 24 (by kernel_rfl) (by decide)) rfl zβ)) ((evt za 28).trans (optSVal (zc.dep 10 28 (by kernel_rfl) (by decide)) rfl zβ)) ((evt za 32).trans (optSVal (zc.dep 14 32 (by kernel_rfl) (by decide)) rfl zβ))) (olits_any o (lget c i) (lget c k) _ _ _ _ (IsOd.below (bstep hb13 (Chg.toBelow zc.chg)) hot) (isLi_mk (IsT.below (bstep hb13 (Chg.toBelow zc.chg)) (InT.isT (hc23 i (by first | omega | (have zz := zβ; simp only [Bool.and_eq_true, Bool.or_eq_true, Bool.true_and, Bool.not_eq_true', Bool.or_eq_false_iff, Bool.and_eq_false_iff, beq_eq_false_iff_ne, ne_eq, beq_iff_eq, decide_eq_true_eq, decide_eq_false_iff_not, bne_iff_ne, bne_eq_false_iff_eq] at zz; omega))).2.2.2.2.2.1)) (IsT.below (bstep hb13 (Chg.toBelow zc.chg)) (InT.isT (hc23 i (by first | omega | (have zz := zβ; simp only [Bool.and_eq_true, Bool.or_eq_true, Bool.true_and, Bool.not_eq_true', Bool.or_eq_false_iff, Bool.and_eq_false_iff, beq_eq_false_iff_ne, ne_eq, beq_iff_eq, decide_eq_true_eq, decide_eq_false_iff_not, bne_iff_ne, bne_eq_false_iff_eq] at zz; omega))).2.2.2.2.2.2))) (isLi_mk (IsT.below (bstep hb13 (Chg.toBelow zc.chg)) (InT.isT (hc23 k (by first | omega | (have zz := zβ; simp only [Bool.and_eq_true, Bool.or_eq_true, Bool.true_and, Bool.not_eq_true', Bool.or_eq_false_iff, Bool.and_eq_false_iff, beq_eq_false_iff_ne, ne_eq, beq_iff_eq, decide_eq_true_eq, decide_eq_false_iff_not, bne_iff_ne, bne_eq_false_iff_eq] at zz; omega))).2.2.2.2.2.1)) (IsT.below (bstep hb13 (Chg.toBelow zc.chg)) (InT.isT (hc23 k (by first | omega | (have zz := zβ; simp only [Bool.and_eq_true, Bool.or_eq_true, Bool.true_and, Bool.not_eq_true', Bool.or_eq_false_iff, Bool.and_eq_false_iff, beq_eq_false_iff_ne, ne_eq, beq_iff_eq, decide_eq_true_eq, decide_eq_false_iff_not, bne_iff_ne, bne_eq_false_iff_eq] at zz; omega))).2.2.2.2.2.2))) ⟨hc.pl (by omega), hc.pr (by omega)⟩ ⟨hc.pl (by omega), hc.pr (by omega)⟩) (fun v w' h => ⟨v, rfl, h.2, optDef zβ h.1⟩)
      refine ⟨.inl ⟨rfl, ((true && (oneTo o c i k)) && !((((i : Nat) : Int) : Int) == (((k : Nat) : Int) : Int))), .no (c := ((((i : Nat) : Int) : Int) == (((k : Nat) : Int) : Int))) (d := (true && (oneTo o c i k))) rfl (fun v w h => h), (fun gg b h => by cases h; rfl), fun h w => optUndef h, fun zβ za zw zc => ?_⟩, ?_⟩
      ·exact eql_60 rfl ((evt za 33).trans (optSVal (zc.dep 15 33 (by kernel_rfl) (by decide)) rfl zβ)) (zc.kn.ev rfl) ⟨_, rfl, Below.refl _ _, optDef zβ rfl⟩
      refine ⟨.inl ⟨rfl, (true && (oneTo o c i k)), .yes (c := (oneTo o c i k)) (d := true) rfl (fun v w h => h), (fun gg b h => by cases h; rfl), fun h w => optUndef h, fun zβ za zw zc => ?_⟩, ?_⟩
      ·exact wp_or rfl ((evt za 23).trans (optSVal (zc.dep 5 23 (by kernel_rfl) (by decide)) rfl zβ)) (fun hp => ((evt za 34).trans (optSVal (zc.dep 16 34 (by kernel_rfl) (by decide)) rfl (bMkN zβ hp)))) ⟨_, rfl, Below.refl _ _, optDef zβ rfl⟩
      refine ⟨.inl ⟨rfl, true, .none rfl, (fun gg b h => by cases h), fun h w => optUndef h, fun zβ za zw zc => ?_⟩, ?_⟩
      ·exact wp_and rfl ((evt za 19).trans (optSVal (zc.dep 1 19 (by kernel_rfl) (by decide)) rfl rfl)) (fun hp => ((evt za 35).trans (optSVal (zc.dep 17 35 (by kernel_rfl) (by decide)) rfl (bMk zβ hp)))) ⟨_, rfl, Below.refl _ _, optDef zβ rfl⟩
      refine ⟨.inr ⟨0, rfl, by kernel_rfl, true, .none rfl, (fun gg b h => by cases h), (fun h => (nomatch h)), fun zβ za zw zvals zc => ?_⟩, ?_⟩
      ·obtain rfl := vlen0 zc.len
       have zn := zc.now
       exact wp_assign rfl (((evt za 36).trans (optSVal (zc.dep 18 36 (by kernel_rfl) (by decide)) rfl rfl))) ⟨_, rfl, .ofBelow (Below.refl _ _), trivial, cvIs rfl⟩
      exact trivial
     ·intro za w25 zvals zh zl hG26 hc27 zu zw zk
      obtain ⟨z0, rfl⟩ := vlen1 zl
      have zh := zh.cons (d := 6) (v := .bool ((oneTo o c i k && onePair o c i k))) (zk 0 19 6 _ _ rfl (by kernel_rfl) rfl rfl)
      have hb28 := Chg.toBelow hc27
      clear zu zw zk
      refine WE.go zh ?_
      refine WE.blockNormal (WE.next (WC.region ?_))
      refine WL.val (.int .i64 ((((k + 1) : Nat) : Int))) rfl rfl rfl (fun za zC zh zk => addb_3 rfl (zh.ev rfl) (zh.ev rfl) (wrap_eq (by omega) (by omega) (by omega)) zk) ?_
      refine WL.mv rfl rfl rfl rfl rfl (WL.nil ?_)
      rw [oneTo_step]
      refine WE.round (k + 1) ⟨rfl, rfl, rfl, rfl, rfl, rfl, rfl, rfl, rfl, rfl, trivial⟩ ?_ ?_
      ·have hb29 : Below w.heap.size w w25 := (bstep hb13 hb28)
       have hB30 := hB14.below hb28
       exact ⟨by omega, hb29, hB30⟩
      ·omega
    ·have h15 : ¬ ((((k : Nat) : Int) : Int) < (((c.length : Nat) : Int) : Int)) := by simpa using h15
     refine WC.exit (WE.thenExit (WE.thenExit (WE.blockIs rfl (WE.next (WC.seq (WC.region (WL.mv rfl rfl rfl rfl rfl (WL.nil (WE.next ?_)))))))))
     refine WC.cond rfl (fun h31 => ?_) (fun h31 => ?_)
     ·skip
      refine WC.seq (WC.region (WL.asg rfl rfl rfl rfl rfl (WL.nil (WE.next (WC.ret (WE.blockRet (WE.thenRet (WE.thenRet (WE.blockRet (WE.thenRet (WE.ret1 rfl rfl ?_)))))))))))
      have hkc : k = c.length := by omega
      have hz9 := h31
      rw [hkc] at hz9
      have hT : oneB o c = true := anyR2_true (k := i) (by omega) (by simpa using hz9)
      exact ⟨_, rfl, by rw [hT], hb13⟩
     ·skip
      refine WC.skip (WE.blockNormal (WE.next (WC.region ?_)))
      refine WL.val (.int .i64 ((((i + 1) : Nat) : Int))) rfl rfl rfl (fun za zC zh zk => addb_3 rfl (zh.ev rfl) (zh.ev rfl) (wrap_eq (by omega) (by omega) (by omega)) zk) ?_
      refine WL.mv rfl rfl rfl rfl rfl (WL.nil ?_)
      refine WE.round (i + 1) ⟨rfl, rfl, rfl, rfl, rfl, trivial⟩ ?_ ?_
      ·exact ⟨by omega, fun q hq => by
         by_cases e : q = i
         ·rw [e]; have hkc : k = c.length := by omega
          have z := h31; rw [hkc] at z; simpa using z
         ·exact hall q (by omega), hb13, hB14⟩
      ·omega
  ·have h11 : ¬ ((((i : Nat) : Int) : Int) < (((c.length : Nat) : Int) : Int)) := by simpa using h11
   refine WC.exit (WE.thenExit (WE.thenExit (WE.blockIs rfl (WE.next (WC.seq (WC.region (WL.asg rfl rfl rfl rfl rfl (WL.nil (WE.next (WC.ret (WE.ret1 rfl rfl ?_)))))))))))
   have hF : oneB o c = false := anyR2_false (fun q hq => hall q (by omega))
   exact ⟨_, rfl, by rw [hF], hb9⟩
end Go.Proofs.Ytnokgjajcnhkkaa

namespace Go.Proofs.Ytnokgjajcnhkkaa
open Go.RowKit Go
set_option linter.unusedVariables false
set_option linter.unusedSimpArgs false
/-- Is a literal better than another one? -/
def betB (sm : Bool) (x y : Li) : Bool := if sm = true then decide ((x.sz : Int) < (y.sz : Int)) else decide ((y.sz : Int) < (x.sz : Int))
/-- The first negative one of the first k that none is better than. -/
def pickK (sm : Bool) (l : List Li) : Nat → Int
 | 0 => -1
 | k + 1 => if (lget l k).neg = true ∧ (pickK sm l k < 0 ∨ betB sm (lget l k) (lget l (pickK sm l k).toNat) = true) then (k : Int) else pickK sm l k
theorem pickK_in (sm : Bool) (l : List Li) : ∀ k, -1 ≤ pickK sm l k ∧ pickK sm l k < (k : Int)
 | 0 => by unfold pickK; omega
 | k + 1 => by
  have z := pickK_in sm l k
  unfold pickK
  split <;> omega
theorem pickK_neg (sm : Bool) (l : List Li) : ∀ k, 0 ≤ pickK sm l k → (lget l (pickK sm l k).toNat).neg = true
 | 0 => fun h => by unfold pickK at h; omega
 | k + 1 => fun h => by
  have z := pickK_neg sm l k
  unfold pickK at h ⊢
  split
  ·rename_i h1
   simpa using h1.1
  ·rename_i h1
   rw [if_neg h1] at h
   exact z h
/-- The first negative one. -/
def firstK (l : List Li) : Nat → Int
 | 0 => -1
 | k + 1 => if 0 ≤ firstK l k then firstK l k else if (lget l k).neg = true then (k : Int) else -1
theorem firstK_none {l : List Li} : ∀ {k : Nat}, (∀ q, q < k → (lget l q).neg = false) → firstK l k = -1
 | 0, _ => rfl
 | k + 1, h => by unfold firstK; rw [firstK_none (fun q hq => h q (by omega)), if_neg (by omega), if_neg (by rw [h k (by omega)]; exact Bool.false_ne_true)]
theorem firstK_at {l : List Li} {k : Nat} (h0 : ∀ q, q < k → (lget l q).neg = false) (h : (lget l k).neg = true) : ∀ {n : Nat}, k < n → firstK l n = (k : Int)
 | 0, hn => absurd hn (Nat.not_lt_zero _)
 | n + 1, hn => by
  unfold firstK
  by_cases e : k = n
  ·subst e
   rw [firstK_none h0, if_neg (by omega), if_pos h]
  ·rw [firstK_at h0 h (show k < n by omega), if_pos (by omega)]
theorem firstK_in (l : List Li) (n : Nat) : firstK l n = -1 ∨ ∃ k, k < n ∧ firstK l n = (k : Int) ∧ (lget l k).neg = true := by
 induction n with
 | zero => exact .inl rfl
 | succ n ih =>
  unfold firstK
  rcases ih with e | ⟨k, h1, h2, h3⟩
  ·rw [e, if_neg (by omega)]
   by_cases h : (lget l n).neg = true
   ·rw [if_pos h]; exact .inr ⟨n, by omega, rfl, h⟩
   ·rw [if_neg h]; exact .inl rfl
  ·rw [h2, if_pos (by omega)]; exact .inr ⟨k, by omega, rfl, h3⟩
theorem pickK_at (sm : Bool) (l : List Li) (n : Nat) : pickK sm l n = -1 ∨ ∃ k, k < n ∧ pickK sm l n = (k : Int) ∧ (lget l k).neg = true := by
 have h1 := pickK_in sm l n
 by_cases h : 0 ≤ pickK sm l n
 ·exact .inr ⟨(pickK sm l n).toNat, by omega, by omega, pickK_neg sm l n h⟩
 ·exact .inl (by omega)
set_option maxRecDepth 100000 in
theorem litsize_any (x : Li) (w : World) (v : Value) (hz1 : x.l.size ≤ 4294967296) (hz2 : x.r.size ≤ 4294967296) (hv : IsLi w x v) : Calls Try.prog 21 #[v] w (Ret fun v' w' => v' = .int .i64 (x.sz : Int) ∧ Below w.heap.size w w') := by
 obtain ⟨a1, a2, c1, c2, rfl, h1, h2⟩ := hv.form
 refine Calls.walk (l := [.agg #[.bool x.neg, .int .i64 x.l.f, .slice a1 x.l.args.length c1, .int .i64 x.r.f, .slice a2 x.r.args.length c2]]) Try.func21 rfl (by kernel_rfl) ?_
 refine WC.sub (K' := [(0, .agg #[.bool x.neg, .int .i64 x.l.f, .slice a1 x.l.args.length c1, .int .i64 x.r.f, .slice a2 x.r.args.length c2])]) ⟨rfl, trivial⟩ ?_
 refine WC.seq (WC.region ?_)
 refine WL.step (post := NewBlk w 36 #[.bool x.neg, .int .i64 x.l.f, .slice a1 x.l.args.length c1, .int .i64 x.r.f, .slice a2 x.r.args.length c2]) rfl rfl rfl (fun za zC zh zk => box_36 rfl (zh.ev rfl) (zk _ _ (newBlk _ _ _))) ?_
 rintro _ w1 ⟨g2, rfl, hg3, hB4, hb5, hz6⟩
 have hl7 : w.heap.size ≤ g2 := by omega
 refine WL.asg rfl rfl rfl rfl rfl (WL.nil (WE.next (WC.seq (WC.region ?_))))
 refine WL.call rfl rfl rfl (fun za zh zC => wp_call (by kernel_rfl) rfl (hv1 (zh.ev rfl))) (csize_any x _ g2 (0) _ _ _ _ hz1 hz2 ((hB4.cell 1).trans rfl) ((hB4.cell 2).trans rfl) ((hB4.cell 3).trans rfl) ((hB4.cell 4).trans rfl) (h1.below hb5) (h2.below hb5)) ?_
 rintro _ w9 ⟨rfl, hq8⟩
 refine WL.asg rfl rfl rfl rfl rfl (WL.nil (WE.next (WC.ret (WE.ret1 rfl rfl ?_))))
 have hb10 : Below w.heap.size w w9 := (bstep hb5 hq8)
 exact ⟨_, rfl, rfl, hb10⟩
set_option maxRecDepth 100000 in
theorem betS_any (x y : Li) (w : World) (v u : Value) (zx : x.l.size ≤ 4294967296 ∧ x.r.size ≤ 4294967296) (zy : y.l.size ≤ 4294967296 ∧ y.r.size ≤ 4294967296) (hv : IsLi w x v) (hu : IsLi w y u) : Calls Try.prog 20 #[v, u] w (Ret fun v' w' => v' = .bool (betB true x y) ∧ Below w.heap.size w w') := by
 have hv0 := hv
 have hu0 := hu
 obtain ⟨a1, a2, c1, c2, rfl, _, _⟩ := hv.form
 obtain ⟨a1y, a2y, c1y, c2y, rfl, _, _⟩ := hu.form
 refine Calls.walk (l := [.agg #[.bool x.neg, .int .i64 x.l.f, .slice a1 x.l.args.length c1, .int .i64 x.r.f, .slice a2 x.r.args.length c2], .agg #[.bool y.neg, .int .i64 y.l.f, .slice a1y y.l.args.length c1y, .int .i64 y.r.f, .slice a2y y.r.args.length c2y]]) Try.func20 rfl (by kernel_rfl) ?_
 refine WC.sub (K' := [(0, .agg #[.bool x.neg, .int .i64 x.l.f, .slice a1 x.l.args.length c1, .int .i64 x.r.f, .slice a2 x.r.args.length c2]), (1, .agg #[.bool y.neg, .int .i64 y.l.f, .slice a1y y.l.args.length c1y, .int .i64 y.r.f, .slice a2y y.r.args.length c2y])]) ⟨rfl, rfl, trivial⟩ ?_
 refine WC.seq (WC.region ?_)
 refine WL.step (post := NewBlk w 36 #[.bool x.neg, .int .i64 x.l.f, .slice a1 x.l.args.length c1, .int .i64 x.r.f, .slice a2 x.r.args.length c2]) rfl rfl rfl (fun za zC zh zk => box_36 rfl (zh.ev rfl) (zk _ _ (newBlk _ _ _))) ?_
 rintro _ w1 ⟨g2, rfl, hg3, hB4, hb5, hz6⟩
 have hl7 : w.heap.size ≤ g2 := by omega
 refine WL.step (post := NewBlk w1 36 #[.bool y.neg, .int .i64 y.l.f, .slice a1y y.l.args.length c1y, .int .i64 y.r.f, .slice a2y y.r.args.length c2y]) rfl rfl rfl (fun za zC zh zk => box_36 rfl (zh.ev rfl) (zk _ _ (newBlk _ _ _))) ?_
 rintro _ w8 ⟨g9, rfl, hg10, hB11, hb12, hz13⟩
 have hl14 : g2 < g9 := by have z1 := hB4.lt; omega
 have hl15 : w.heap.size ≤ g9 := by have z2 := (hb5).size; omega
 refine WL.asg rfl rfl rfl rfl rfl (WL.nil (WE.next (WC.seq ?_)))
 have hB16 := hB4.below hb12
 have hb17 : Below w.heap.size w w8 := (bstep hb5 hb12)
 refine WC.opt [(true, .val (.agg #[.bool x.neg, .int .i64 x.l.f, .slice a1 x.l.args.length c1, .int .i64 x.r.f, .slice a2 x.r.args.length c2])), (true, .val (.int .i64 (((x.sz : Nat) : Int)))), (true, .val (.agg #[.bool y.neg, .int .i64 y.l.f, .slice a1y y.l.args.length c1y, .int .i64 y.r.f, .slice a2y y.r.args.length c2y])), (true, .val (.int .i64 (((y.sz : Nat) : Int)))), (true, .val (.bool ((decide ((((x.sz : Nat) : Int) : Int) < (((y.sz : Nat) : Int) : Int)))))), (true, .val (.bool ((decide ((((x.sz : Nat) : Int) : Int) < (((y.sz : Nat) : Int) : Int))))))] [(0, .agg #[.bool x.neg, .int .i64 x.l.f, .slice a1 x.l.args.length c1, .int .i64 x.r.f, .slice a2 x.r.args.length c2]), (1, .agg #[.bool y.neg, .int .i64 y.l.f, .slice a1y y.l.args.length c1y, .int .i64 y.r.f, .slice a2y y.r.args.length c2y]), (2, .pointer (some ⟨g2, 0, none⟩)), (3, .pointer (some ⟨g9, 0, none⟩))] ⟨rfl, rfl, rfl, rfl, trivial⟩ (by kernel_rfl) (by kernel_rfl) (by kernel_rfl) ?_ ?_
 ·refine ⟨⟨true, .none rfl, fun h w => optUndef h, fun zβ za zw zc => ?_⟩, ?_⟩
  ·exact ld_36 rfl (zc.kn.ev rfl) (bkeeps zc.below _ _ ((hB16.cell 0).trans rfl)) (bkeeps zc.below _ _ ((hB16.cell 1).trans rfl)) (bkeeps zc.below _ _ ((hB16.cell 2).trans rfl)) (bkeeps zc.below _ _ ((hB16.cell 3).trans rfl)) (bkeeps zc.below _ _ ((hB16.cell 4).trans rfl)) ⟨_, rfl, Below.refl _ _, optDef zβ rfl⟩
  refine ⟨⟨true, .none rfl, fun h w => optUndef h, fun zβ za zw zc => ?_⟩, ?_⟩
  ·exact wp_call (by kernel_rfl) rfl (hv1 ((evt za 5).trans (optVal (zc.dep 0 5 (by kernel_rfl)) rfl rfl))) (litsize_any x _ _ zx.1 zx.2 (hv0.below (bstep hb17 zc.below))) (fun v w' h => ⟨v, rfl, h.2, optDef zβ h.1⟩)
  refine ⟨⟨true, .none rfl, fun h w => optUndef h, fun zβ za zw zc => ?_⟩, ?_⟩
  ·exact ld_36 rfl (zc.kn.ev rfl) (bkeeps zc.below _ _ ((hB11.cell 0).trans rfl)) (bkeeps zc.below _ _ ((hB11.cell 1).trans rfl)) (bkeeps zc.below _ _ ((hB11.cell 2).trans rfl)) (bkeeps zc.below _ _ ((hB11.cell 3).trans rfl)) (bkeeps zc.below _ _ ((hB11.cell 4).trans rfl)) ⟨_, rfl, Below.refl _ _, optDef zβ rfl⟩
  refine ⟨⟨true, .none rfl, fun h w => optUndef h, fun zβ za zw zc => ?_⟩, ?_⟩
  ·exact wp_call (by kernel_rfl) rfl (hv1 ((evt za 7).trans (optVal (zc.dep 2 7 (by kernel_rfl)) rfl rfl))) (litsize_any y _ _ zy.1 zy.2 (hu0.below (bstep hb17 zc.below))) (fun v w' h => ⟨v, rfl, h.2, optDef zβ h.1⟩)
  refine ⟨⟨true, .none rfl, fun h w => optUndef h, fun zβ za zw zc => ?_⟩, ?_⟩
  ·exact lss_3 rfl ((evt za 6).trans (optVal (zc.dep 1 6 (by kernel_rfl)) rfl rfl)) ((evt za 8).trans (optVal (zc.dep 3 8 (by kernel_rfl)) rfl rfl)) ⟨_, rfl, Below.refl _ _, optDef zβ rfl⟩
  refine ⟨⟨true, .none rfl, fun h w => optUndef h, fun zβ za zw zc => ?_⟩, ?_⟩
  ·exact wp_assign rfl ((evt za 9).trans (optVal (zc.dep 4 9 (by kernel_rfl)) rfl rfl)) ⟨_, rfl, Below.refl _ _, optDef zβ rfl⟩
  exact trivial
 ·intro za w20 zh hb21 zu
  have zh := zh.cons (d := 4) (v := .bool ((decide ((((x.sz : Nat) : Int) : Int) < (((y.sz : Nat) : Int) : Int))))) (optVal (zu 5 4 (by kernel_rfl)) rfl rfl)
  clear zu
  refine WE.go zh ?_
  refine WE.next (WC.ret (WE.ret1 rfl rfl ?_))
  have hb22 : Below w.heap.size w w20 := (bstep hb17 hb21)
  exact ⟨_, rfl, congrArg Value.bool (by unfold betB; rw [if_pos rfl]), hb22⟩
set_option maxRecDepth 100000 in
theorem betL_any (x y : Li) (w : World) (v u : Value) (zx : x.l.size ≤ 4294967296 ∧ x.r.size ≤ 4294967296) (zy : y.l.size ≤ 4294967296 ∧ y.r.size ≤ 4294967296) (hv : IsLi w x v) (hu : IsLi w y u) : Calls Try.prog 24 #[v, u] w (Ret fun v' w' => v' = .bool (betB false x y) ∧ Below w.heap.size w w') := by
 have hv0 := hv
 have hu0 := hu
 obtain ⟨a1, a2, c1, c2, rfl, _, _⟩ := hv.form
 obtain ⟨a1y, a2y, c1y, c2y, rfl, _, _⟩ := hu.form
 refine Calls.walk (l := [.agg #[.bool x.neg, .int .i64 x.l.f, .slice a1 x.l.args.length c1, .int .i64 x.r.f, .slice a2 x.r.args.length c2], .agg #[.bool y.neg, .int .i64 y.l.f, .slice a1y y.l.args.length c1y, .int .i64 y.r.f, .slice a2y y.r.args.length c2y]]) Try.func24 rfl (by kernel_rfl) ?_
 refine WC.sub (K' := [(0, .agg #[.bool x.neg, .int .i64 x.l.f, .slice a1 x.l.args.length c1, .int .i64 x.r.f, .slice a2 x.r.args.length c2]), (1, .agg #[.bool y.neg, .int .i64 y.l.f, .slice a1y y.l.args.length c1y, .int .i64 y.r.f, .slice a2y y.r.args.length c2y])]) ⟨rfl, rfl, trivial⟩ ?_
 refine WC.seq (WC.region ?_)
 refine WL.step (post := NewBlk w 36 #[.bool x.neg, .int .i64 x.l.f, .slice a1 x.l.args.length c1, .int .i64 x.r.f, .slice a2 x.r.args.length c2]) rfl rfl rfl (fun za zC zh zk => box_36 rfl (zh.ev rfl) (zk _ _ (newBlk _ _ _))) ?_
 rintro _ w1 ⟨g2, rfl, hg3, hB4, hb5, hz6⟩
 have hl7 : w.heap.size ≤ g2 := by omega
 refine WL.step (post := NewBlk w1 36 #[.bool y.neg, .int .i64 y.l.f, .slice a1y y.l.args.length c1y, .int .i64 y.r.f, .slice a2y y.r.args.length c2y]) rfl rfl rfl (fun za zC zh zk => box_36 rfl (zh.ev rfl) (zk _ _ (newBlk _ _ _))) ?_
 rintro _ w8 ⟨g9, rfl, hg10, hB11, hb12, hz13⟩
 have hl14 : g2 < g9 := by have z1 := hB4.lt; omega
 have hl15 : w.heap.size ≤ g9 := by have z2 := (hb5).size; omega
 refine WL.asg rfl rfl rfl rfl rfl (WL.nil (WE.next (WC.seq ?_)))
 have hB16 := hB4.below hb12
 have hb17 : Below w.heap.size w w8 := (bstep hb5 hb12)
 refine WC.opt [(true, .val (.agg #[.bool x.neg, .int .i64 x.l.f, .slice a1 x.l.args.length c1, .int .i64 x.r.f, .slice a2 x.r.args.length c2])), (true, .val (.int .i64 (((x.sz : Nat) : Int)))), (true, .val (.agg #[.bool y.neg, .int .i64 y.l.f, .slice a1y y.l.args.length c1y, .int .i64 y.r.f, .slice a2y y.r.args.length c2y])), (true, .val (.int .i64 (((y.sz : Nat) : Int)))), (true, .val (.bool ((decide ((((y.sz : Nat) : Int) : Int) < (((x.sz : Nat) : Int) : Int)))))), (true, .val (.bool ((decide ((((y.sz : Nat) : Int) : Int) < (((x.sz : Nat) : Int) : Int))))))] [(0, .agg #[.bool x.neg, .int .i64 x.l.f, .slice a1 x.l.args.length c1, .int .i64 x.r.f, .slice a2 x.r.args.length c2]), (1, .agg #[.bool y.neg, .int .i64 y.l.f, .slice a1y y.l.args.length c1y, .int .i64 y.r.f, .slice a2y y.r.args.length c2y]), (2, .pointer (some ⟨g2, 0, none⟩)), (3, .pointer (some ⟨g9, 0, none⟩))] ⟨rfl, rfl, rfl, rfl, trivial⟩ (by kernel_rfl) (by kernel_rfl) (by kernel_rfl) ?_ ?_
 ·refine ⟨⟨true, .none rfl, fun h w => optUndef h, fun zβ za zw zc => ?_⟩, ?_⟩
  ·exact ld_36 rfl (zc.kn.ev rfl) (bkeeps zc.below _ _ ((hB16.cell 0).trans rfl)) (bkeeps zc.below _ _ ((hB16.cell 1).trans rfl)) (bkeeps zc.below _ _ ((hB16.cell 2).trans rfl)) (bkeeps zc.below _ _ ((hB16.cell 3).trans rfl)) (bkeeps zc.below _ _ ((hB16.cell 4).trans rfl)) ⟨_, rfl, Below.refl _ _, optDef zβ rfl⟩
  refine ⟨⟨true, .none rfl, fun h w => optUndef h, fun zβ za zw zc => ?_⟩, ?_⟩
  ·exact wp_call (by kernel_rfl) rfl (hv1 ((evt za 5).trans (optVal (zc.dep 0 5 (by kernel_rfl)) rfl rfl))) (litsize_any x _ _ zx.1 zx.2 (hv0.below (bstep hb17 zc.below))) (fun v w' h => ⟨v, rfl, h.2, optDef zβ h.1⟩)
  refine ⟨⟨true, .none rfl, fun h w => optUndef h, fun zβ za zw zc => ?_⟩, ?_⟩
  ·exact ld_36 rfl (zc.kn.ev rfl) (bkeeps zc.below _ _ ((hB11.cell 0).trans rfl)) (bkeeps zc.below _ _ ((hB11.cell 1).trans rfl)) (bkeeps zc.below _ _ ((hB11.cell 2).trans rfl)) (bkeeps zc.below _ _ ((hB11.cell 3).trans rfl)) (bkeeps zc.below _ _ ((hB11.cell 4).trans rfl)) ⟨_, rfl, Below.refl _ _, optDef zβ rfl⟩
  refine ⟨⟨true, .none rfl, fun h w => optUndef h, fun zβ za zw zc => ?_⟩, ?_⟩
  ·exact wp_call (by kernel_rfl) rfl (hv1 ((evt za 7).trans (optVal (zc.dep 2 7 (by kernel_rfl)) rfl rfl))) (litsize_any y _ _ zy.1 zy.2 (hu0.below (bstep hb17 zc.below))) (fun v w' h => ⟨v, rfl, h.2, optDef zβ h.1⟩)
  refine ⟨⟨true, .none rfl, fun h w => optUndef h, fun zβ za zw zc => ?_⟩, ?_⟩
  ·exact gtr_3 rfl ((evt za 6).trans (optVal (zc.dep 1 6 (by kernel_rfl)) rfl rfl)) ((evt za 8).trans (optVal (zc.dep 3 8 (by kernel_rfl)) rfl rfl)) ⟨_, rfl, Below.refl _ _, optDef zβ rfl⟩
  refine ⟨⟨true, .none rfl, fun h w => optUndef h, fun zβ za zw zc => ?_⟩, ?_⟩
  ·exact wp_assign rfl ((evt za 9).trans (optVal (zc.dep 4 9 (by kernel_rfl)) rfl rfl)) ⟨_, rfl, Below.refl _ _, optDef zβ rfl⟩
  exact trivial
 ·intro za w20 zh hb21 zu
  have zh := zh.cons (d := 4) (v := .bool ((decide ((((y.sz : Nat) : Int) : Int) < (((x.sz : Nat) : Int) : Int))))) (optVal (zu 5 4 (by kernel_rfl)) rfl rfl)
  clear zu
  refine WE.go zh ?_
  refine WE.next (WC.ret (WE.ret1 rfl rfl ?_))
  have hb22 : Below w.heap.size w w20 := (bstep hb17 hb21)
  exact ⟨_, rfl, congrArg Value.bool (by unfold betB; rw [if_neg Bool.false_ne_true]), hb22⟩
set_option maxRecDepth 100000 in
theorem pickS_any (l : List Li) (w : World) (a : Option Addr) (c : Nat) (hl : IsCl w l a c) (hlz : l.length ≤ 1048576) : Calls Try.prog 19 #[.slice a l.length c, .func (.func 17) #[] #[], .func (.func 20) #[] #[]] w (Ret fun v' w' => v' = .int .i64 (pickK true l l.length) ∧ Below w.heap.size w w') := by
 have hr := hl.rows
 have hin := fun k => pickK_in true l k
 refine Calls.walk (l := [.slice a l.length c, .func (.func 17) #[] #[], .func (.func 20) #[] #[]]) Try.func19 rfl (by kernel_rfl) ?_
 refine WC.sub (K' := [(0, .slice a l.length c), (1, .func (.func 17) #[] #[]), (2, .func (.func 20) #[] #[])]) ⟨rfl, rfl, rfl, trivial⟩ ?_
 refine WC.seq (WC.region (WL.asg rfl rfl rfl rfl rfl (WL.nil (WE.next (WC.seq (WC.region (WL.asg rfl rfl rfl rfl rfl (WL.nil (WE.next (WC.seq (WC.seq (WC.region (WL.mv rfl rfl rfl rfl rfl ?_)))))))))))))
 refine WL.val (.int .i64 (((l.length : Nat) : Int))) rfl rfl rfl (fun za zC zh zk => len_26 rfl (zh.ev rfl) zk) ?_
 refine WL.mv rfl rfl rfl rfl rfl (WL.nil (WE.next (WC.block ?_)))
 refine WC.loop (X := Nat) (fun k => l.length - k) (fun k => [(0, .slice a l.length c), (1, .func (.func 17) #[] #[]), (2, .func (.func 20) #[] #[]), (6, .int .i64 0), (7, .int .i64 ((pickK true l k))), (10, .slice a l.length c), (11, .int .i64 (((l.length : Nat) : Int))), (12, .int .i64 (((k : Nat) : Int)))]) (fun k w1 => k ≤ l.length ∧ Below w.heap.size w w1) 0 ⟨rfl, rfl, rfl, rfl, rfl, rfl, rfl, rfl, trivial⟩ ?_ ?_
 ·exact ⟨Nat.zero_le _, (Below.refl _ _)⟩
 ·rintro k w1 ⟨hk, hb2⟩
  refine WC.seq (WC.region ?_)
  refine WL.val (.bool ((decide ((((k : Nat) : Int) : Int) < (((l.length : Nat) : Int) : Int))))) rfl rfl rfl (fun za zC zh zk => lss_3 rfl (zh.ev rfl) (zh.ev rfl) zk) ?_
  refine WL.nil (WE.next (WC.seq ?_))
  refine WC.cond rfl (fun h3 => ?_) (fun h3 => ?_)
  ·have h3 : (((k : Nat) : Int) : Int) < (((l.length : Nat) : Int) : Int) := by simpa using h3
   refine WC.skip (WE.next (WC.seq (WC.block (WC.seq (WC.region (WL.mv rfl rfl rfl rfl rfl ?_))))))
   obtain ⟨b4, o5, A6, C7, A8, C9, ha10, hc11⟩ := InRow.openL hr
   refine WL.val _ rfl rfl rfl (fun za zC zh zk => ix_26 (k := k) rfl (zh.ev rfl) (ha10 k (by first | omega | (simp; omega))) (zh.ev rfl) (by first | omega | (simp; omega)) zk) ?_
   refine WL.val _ rfl rfl rfl (fun za zC zh zk => ld_36 rfl (zh.ev rfl) (bkeeps hb2 _ _ (hc11 k (by first | omega | (simp; omega))).1) (bkeeps hb2 _ _ (hc11 k (by first | omega | (simp; omega))).2.1) (bkeeps hb2 _ _ (hc11 k (by first | omega | (simp; omega))).2.2.1) (bkeeps hb2 _ _ (hc11 k (by first | omega | (simp; omega))).2.2.2.1) (bkeeps hb2 _ _ (hc11 k (by first | omega | (simp; omega))).2.2.2.2.1) zk) ?_
   refine WL.step (post := NewBlk w1 36 #[.bool false, .int .i64 0, .slice none 0 0, .int .i64 0, .slice none 0 0]) rfl rfl rfl (fun za zC zh zk => alloc_36 rfl (zk _ _ (newBlk _ _ _))) ?_
   rintro _ w12 ⟨g13, rfl, hg14, hB15, hb16, hz17⟩
   have hl18 : w.heap.size ≤ g13 := by have z2 := (hb2).size; omega
   refine WL.asg rfl rfl rfl rfl rfl ?_
   refine WL.step (post := fun _ w' => Upd g13 w12 w' ∧ Blk w' g13 36 #[.bool ((lget l k).neg), .int .i64 ((lget l k).l.f), .slice ((A6 k)) ((lget l k).l.args.length) ((C7 k)), .int .i64 ((lget l k).r.f), .slice ((A8 k)) ((lget l k).r.args.length) ((C9 k))]) rfl rfl rfl (fun za zC zh zk => st_36 rfl (zh.ev rfl) (zh.ev rfl) rfl rfl rfl rfl rfl hB15 (by first | decide | simp) (fun v => zk v _ ⟨((((Upd.at_ _ _ _ _).trans (Upd.at_ _ _ _ _)).trans (Upd.at_ _ _ _ _)).trans (Upd.at_ _ _ _ _)).trans (Upd.at_ _ _ _ _), ((((hB15.set_ 0 _).set_ 1 _).set_ 2 _).set_ 3 _).set_ 4 _⟩)) ?_
   rintro v22 w19 ⟨hu20, hB21⟩
   have hb23 : Below w.heap.size w w12 := (bstep hb2 hb16)
   have hb24 := upd_below hb23 hu20 (by omega)
   refine WL.nil (WE.next (WC.seq ?_))
   refine WC.opt [(true, .val (.func (.func 17) #[] #[])), (true, .val (.agg #[.bool ((lget l k).neg), .int .i64 ((lget l k).l.f), .slice ((A6 k)) ((lget l k).l.args.length) ((C7 k)), .int .i64 ((lget l k).r.f), .slice ((A8 k)) ((lget l k).r.args.length) ((C9 k))])), (true, .val (.bool ((lget l k).neg))), (true, .val (.bool ((lget l k).neg))), ((true && (lget l k).neg), .val (.int .i64 ((pickK true l k)))), ((true && (lget l k).neg), .val (.bool ((decide (((pickK true l k) : Int) < (0 : Int)))))), ((true && (lget l k).neg), .val (.bool ((decide (((pickK true l k) : Int) < (0 : Int)))))), (((true && (lget l k).neg) && !(decide (((pickK true l k) : Int) < (0 : Int)))), .val (.func (.func 20) #[] #[])), (((true && (lget l k).neg) && !(decide (((pickK true l k) : Int) < (0 : Int)))), .val (.agg #[.bool ((lget l k).neg), .int .i64 ((lget l k).l.f), .slice ((A6 k)) ((lget l k).l.args.length) ((C7 k)), .int .i64 ((lget l k).r.f), .slice ((A8 k)) ((lget l k).r.args.length) ((C9 k))])), (((true && (lget l k).neg) && !(decide (((pickK true l k) : Int) < (0 : Int)))), .val (.slice a l.length c)), (((true && (lget l k).neg) && !(decide (((pickK true l k) : Int) < (0 : Int)))), .val (.int .i64 ((pickK true l k)))), (((true && (lget l k).neg) && !(decide (((pickK true l k) : Int) < (0 : Int)))), .val (.pointer (some ⟨b4, o5 + (((pickK true l k)).toNat) * 5, none⟩))), (((true && (lget l k).neg) && !(decide (((pickK true l k) : Int) < (0 : Int)))), .val (.agg #[.bool ((lget l (((pickK true l k)).toNat)).neg), .int .i64 ((lget l (((pickK true l k)).toNat)).l.f), .slice ((A6 (((pickK true l k)).toNat))) ((lget l (((pickK true l k)).toNat)).l.args.length) ((C7 (((pickK true l k)).toNat))), .int .i64 ((lget l (((pickK true l k)).toNat)).r.f), .slice ((A8 (((pickK true l k)).toNat))) ((lget l (((pickK true l k)).toNat)).r.args.length) ((C9 (((pickK true l k)).toNat)))])), (((true && (lget l k).neg) && !(decide (((pickK true l k) : Int) < (0 : Int)))), .val (.bool ((betB true (lget l k) (lget l (((pickK true l k)).toNat)))))), ((true && (lget l k).neg), .val (.bool (((decide (((pickK true l k) : Int) < (0 : Int))) || (betB true (lget l k) (lget l (((pickK true l k)).toNat))))))), (true, .val (.bool (((lget l k).neg && ((decide (((pickK true l k) : Int) < (0 : Int))) || (betB true (lget l k) (lget l (((pickK true l k)).toNat))))))))] [(0, .slice a l.length c), (1, .func (.func 17) #[] #[]), (2, .func (.func 20) #[] #[]), (6, .int .i64 0), (7, .int .i64 ((pickK true l k))), (8, .int .i64 (((k : Nat) : Int))), (9, .pointer (some ⟨g13, 0, none⟩)), (10, .slice a l.length c), (11, .int .i64 (((l.length : Nat) : Int))), (12, .int .i64 (((k : Nat) : Int))), (13, .bool ((decide ((((k : Nat) : Int) : Int) < (((l.length : Nat) : Int) : Int)))))] ⟨rfl, rfl, rfl, rfl, rfl, rfl, rfl, rfl, rfl, rfl, rfl, trivial⟩ (by kernel_rfl) (by kernel_rfl) (by kernel_rfl) ?_ ?_
   ·refine ⟨⟨true, .none rfl, fun h w => optUndef h, fun zβ za zw zc => ?_⟩, ?_⟩
    ·exact wp_move rfl (zc.kn.ev rfl) ⟨_, rfl, Below.refl _ _, optDef zβ rfl⟩
    refine ⟨⟨true, .none rfl, fun h w => optUndef h, fun zβ za zw zc => ?_⟩, ?_⟩
    ·exact ld_36 rfl (zc.kn.ev rfl) (bkeeps zc.below _ _ ((hB21.cell 0).trans rfl)) (bkeeps zc.below _ _ ((hB21.cell 1).trans rfl)) (bkeeps zc.below _ _ ((hB21.cell 2).trans rfl)) (bkeeps zc.below _ _ ((hB21.cell 3).trans rfl)) (bkeeps zc.below _ _ ((hB21.cell 4).trans rfl)) ⟨_, rfl, Below.refl _ _, optDef zβ rfl⟩
    refine ⟨⟨true, .none rfl, fun h w => optUndef h, fun zβ za zw zc => ?_⟩, ?_⟩
    ·exact wp_callv (by kernel_rfl) rfl ((evt za 17).trans (optVal (zc.dep 0 17 (by kernel_rfl)) rfl rfl)) (hv1 ((evt za 18).trans (optVal (zc.dep 1 18 (by kernel_rfl)) rfl rfl))) (neg_any (lget l k) _ _ (isLi_mk (IsT.below (bstep hb24 zc.below) (InT.isT (hc11 k (by first | omega | (simp; omega))).2.2.2.2.2.1)) (IsT.below (bstep hb24 zc.below) (InT.isT (hc11 k (by first | omega | (simp; omega))).2.2.2.2.2.2)))) (fun v w' h => ⟨v, rfl, h.2, optDef zβ h.1⟩)
    refine ⟨⟨true, .none rfl, fun h w => optUndef h, fun zβ za zw zc => ?_⟩, ?_⟩
    ·exact wp_move rfl ((evt za 19).trans (optVal (zc.dep 2 19 (by kernel_rfl)) rfl rfl)) ⟨_, rfl, Below.refl _ _, optDef zβ rfl⟩
    refine ⟨⟨_, .yes (c := (lget l k).neg) (d := true) rfl (fun v w h => h), fun h w => optUndef h, fun zβ za zw zc => ?_⟩, ?_⟩
    ·exact wp_move rfl (zc.kn.ev rfl) ⟨_, rfl, Below.refl _ _, optDef zβ rfl⟩
    refine ⟨⟨_, .yes (c := (lget l k).neg) (d := true) rfl (fun v w h => h), fun h w => optUndef h, fun zβ za zw zc => ?_⟩, ?_⟩
    ·exact lss_3 rfl ((evt za 21).trans (optVal (zc.dep 4 21 (by kernel_rfl)) rfl zβ)) (zc.kn.ev rfl) ⟨_, rfl, Below.refl _ _, optDef zβ rfl⟩
    refine ⟨⟨_, .yes (c := (lget l k).neg) (d := true) rfl (fun v w h => h), fun h w => optUndef h, fun zβ za zw zc => ?_⟩, ?_⟩
    ·exact wp_move rfl ((evt za 22).trans (optVal (zc.dep 5 22 (by kernel_rfl)) rfl zβ)) ⟨_, rfl, Below.refl _ _, optDef zβ rfl⟩
    refine ⟨⟨_, .no (c := (decide (((pickK true l k) : Int) < (0 : Int)))) (d := (true && (lget l k).neg)) rfl (fun v w h => h), fun h w => optUndef h, fun zβ za zw zc => ?_⟩, ?_⟩
    ·exact wp_move rfl (zc.kn.ev rfl) ⟨_, rfl, Below.refl _ _, optDef zβ rfl⟩
    refine ⟨⟨_, .no (c := (decide (((pickK true l k) : Int) < (0 : Int)))) (d := (true && (lget l k).neg)) rfl (fun v w h => h), fun h w => optUndef h, fun zβ za zw zc => ?_⟩, ?_⟩
    ·exact ld_36 rfl (zc.kn.ev rfl) (bkeeps zc.below _ _ ((hB21.cell 0).trans rfl)) (bkeeps zc.below _ _ ((hB21.cell 1).trans rfl)) (bkeeps zc.below _ _ ((hB21.cell 2).trans rfl)) (bkeeps zc.below _ _ ((hB21.cell 3).trans rfl)) (bkeeps zc.below _ _ ((hB21.cell 4).trans rfl)) ⟨_, rfl, Below.refl _ _, optDef zβ rfl⟩
    refine ⟨⟨_, .no (c := (decide (((pickK true l k) : Int) < (0 : Int)))) (d := (true && (lget l k).neg)) rfl (fun v w h => h), fun h w => optUndef h, fun zβ za zw zc => ?_⟩, ?_⟩
    ·exact wp_move rfl (zc.kn.ev rfl) ⟨_, rfl, Below.refl _ _, optDef zβ rfl⟩
    refine ⟨⟨_, .no (c := (decide (((pickK true l k) : Int) < (0 : Int)))) (d := (true && (lget l k).neg)) rfl (fun v w h => h), fun h w => optUndef h, fun zβ za zw zc => ?_⟩, ?_⟩
    ·exact wp_move rfl (zc.kn.ev rfl) ⟨_, rfl, Below.refl _ _, optDef zβ rfl⟩
    refine ⟨⟨_, .no (c := (decide (((pickK true l k) : Int) < (0 : Int)))) (d := (true && (lget l k).neg)) rfl (fun v w h => h), fun h w => optUndef h, fun zβ za zw zc => ?_⟩, ?_⟩
    ·exact ix_26 (k := ((pickK true l k)).toNat) rfl ((evt za 26).trans (optVal (zc.dep 9 26 (by kernel_rfl)) rfl zβ)) (ha10 (((pickK true l k)).toNat) (by have hin9 := hin k; have zz := zβ; simp only [Bool.and_eq_true, Bool.true_and, Bool.not_eq_true', Bool.or_eq_false_iff, decide_eq_true_eq, decide_eq_false_iff_not] at zz; omega)) (((evt za 27).trans (optVal (zc.dep 10 27 (by kernel_rfl)) rfl zβ)).trans (congrArg (Value.int .i64) (by have hin9 := hin k; have zz := zβ; simp only [Bool.and_eq_true, Bool.true_and, Bool.not_eq_true', Bool.or_eq_false_iff, decide_eq_true_eq, decide_eq_false_iff_not] at zz; omega))) (by have hin9 := hin k; have zz := zβ; simp only [Bool.and_eq_true, Bool.true_and, Bool.not_eq_true', Bool.or_eq_false_iff, decide_eq_true_eq, decide_eq_false_iff_not] at zz; omega) ⟨_, rfl, Below.refl _ _, optDef zβ rfl⟩
    refine ⟨⟨_, .no (c := (decide (((pickK true l k) : Int) < (0 : Int)))) (d := (true && (lget l k).neg)) rfl (fun v w h => h), fun h w => optUndef h, fun zβ za zw zc => ?_⟩, ?_⟩
    ·exact ld_36 rfl ((evt za 28).trans (optVal (zc.dep 11 28 (by kernel_rfl)) rfl zβ)) (bkeeps (bstep hb24 zc.below) _ _ (hc11 (((pickK true l k)).toNat) (by have hin9 := hin k; have zz := zβ; simp only [Bool.and_eq_true, Bool.true_and, Bool.not_eq_true', Bool.or_eq_false_iff, decide_eq_true_eq, decide_eq_false_iff_not] at zz; omega)).1) (bkeeps (bstep hb24 zc.below) _ _ (hc11 (((pickK true l k)).toNat) (by have hin9 := hin k; have zz := zβ; simp only [Bool.and_eq_true, Bool.true_and, Bool.not_eq_true', Bool.or_eq_false_iff, decide_eq_true_eq, decide_eq_false_iff_not] at zz; omega)).2.1) (bkeeps (bstep hb24 zc.below) _ _ (hc11 (((pickK true l k)).toNat) (by have hin9 := hin k; have zz := zβ; simp only [Bool.and_eq_true, Bool.true_and, Bool.not_eq_true', Bool.or_eq_false_iff, decide_eq_true_eq, decide_eq_false_iff_not] at zz; omega)).2.2.1) (bkeeps (bstep hb24 zc.below) _ _ (hc11 (((pickK true l k)).toNat) (by have hin9 := hin k; have zz := zβ; simp only [Bool.and_eq_true, Bool.true_and, Bool.not_eq_true', Bool.or_eq_false_iff, decide_eq_true_eq, decide_eq_false_iff_not] at zz; omega)).2.2.2.1) (bkeeps (bstep hb24 zc.below) _ _ (hc11 (((pickK true l k)).toNat) (by have hin9 := hin k; have zz := zβ; simp only [Bool.and_eq_true, Bool.true_and, Bool.not_eq_true', Bool.or_eq_false_iff, decide_eq_true_eq, decide_eq_false_iff_not] at zz; omega)).2.2.2.2.1) ⟨_, rfl, Below.refl _ _, optDef zβ rfl⟩
    refine ⟨⟨_, .no (c := (decide (((pickK true l k) : Int) < (0 : Int)))) (d := (true && (lget l k).neg)) rfl (fun v w h => h), fun h w => optUndef h, fun zβ za zw zc => ?_⟩, ?_⟩
    ·exact wp_callv (by kernel_rfl) rfl ((evt za 24).trans (optVal (zc.dep 7 24 (by kernel_rfl)) rfl zβ)) (hv2 ((evt za 25).trans (optVal (zc.dep 8 25 (by kernel_rfl)) rfl zβ)) ((evt za 29).trans (optVal (zc.dep 12 29 (by kernel_rfl)) rfl zβ))) (betS_any (lget l k) (lget l (((pickK true l k)).toNat)) _ _ _ ⟨hl.pl (by have hin9 := hin k; first | omega | (have zz := zβ; simp only [Bool.and_eq_true, Bool.or_eq_true, Bool.true_and, Bool.not_eq_true', Bool.or_eq_false_iff, Bool.and_eq_false_iff, beq_eq_false_iff_ne, ne_eq, beq_iff_eq, decide_eq_true_eq, decide_eq_false_iff_not, bne_iff_ne, bne_eq_false_iff_eq] at zz; omega)), hl.pr (by have hin9 := hin k; first | omega | (have zz := zβ; simp only [Bool.and_eq_true, Bool.or_eq_true, Bool.true_and, Bool.not_eq_true', Bool.or_eq_false_iff, Bool.and_eq_false_iff, beq_eq_false_iff_ne, ne_eq, beq_iff_eq, decide_eq_true_eq, decide_eq_false_iff_not, bne_iff_ne, bne_eq_false_iff_eq] at zz; omega))⟩ ⟨hl.pl (by have hin9 := hin k; first | omega | (have zz := zβ; simp only [Bool.and_eq_true, Bool.or_eq_true, Bool.true_and, Bool.not_eq_true', Bool.or_eq_false_iff, Bool.and_eq_false_iff, beq_eq_false_iff_ne, ne_eq, beq_iff_eq, decide_eq_true_eq, decide_eq_false_iff_not, bne_iff_ne, bne_eq_false_iff_eq] at zz; omega)), hl.pr (by have hin9 := hin k; first | omega | (have zz := zβ; simp only [Bool.and_eq_true, Bool.or_eq_true, Bool.true_and, Bool.not_eq_true', Bool.or_eq_false_iff, Bool.and_eq_false_iff, beq_eq_false_iff_ne, ne_eq, beq_iff_eq, decide_eq_true_eq, decide_eq_false_iff_not, bne_iff_ne, bne_eq_false_iff_eq] at zz; omega))⟩ (isLi_mk (IsT.below (bstep hb24 zc.below) (InT.isT (hc11 k (by first | omega | (have zz := zβ; simp only [Bool.and_eq_true, Bool.or_eq_true, Bool.true_and, Bool.not_eq_true', Bool.or_eq_false_iff, Bool.and_eq_false_iff, beq_eq_false_iff_ne, ne_eq, beq_iff_eq, decide_eq_true_eq, decide_eq_false_iff_not, bne_iff_ne, bne_eq_false_iff_eq] at zz; omega))).2.2.2.2.2.1)) (IsT.below (bstep hb24 zc.below) (InT.isT (hc11 k (by first | omega | (have zz := zβ; simp only [Bool.and_eq_true, Bool.or_eq_true, Bool.true_and, Bool.not_eq_true', Bool.or_eq_false_iff, Bool.and_eq_false_iff, beq_eq_false_iff_ne, ne_eq, beq_iff_eq, decide_eq_true_eq, decide_eq_false_iff_not, bne_iff_ne, bne_eq_false_iff_eq] at zz; omega))).2.2.2.2.2.2))) (isLi_mk (IsT.below (bstep hb24 zc.below) (InT.isT (hc11 (((pickK true l k)).toNat) (by have hin9 := hin k; have zz := zβ; simp only [Bool.and_eq_true, Bool.true_and, Bool.not_eq_true', Bool.or_eq_false_iff, decide_eq_true_eq, decide_eq_false_iff_not] at zz; omega)).2.2.2.2.2.1)) (IsT.below (bstep hb24 zc.below) (InT.isT (hc11 (((pickK true l k)).toNat) (by have hin9 := hin k; have zz := zβ; simp only [Bool.and_eq_true, Bool.true_and, Bool.not_eq_true', Bool.or_eq_false_iff, decide_eq_true_eq, decide_eq_false_iff_not] at zz; omega)).2.2.2.2.2.2)))) (fun v w' h => ⟨v, rfl, h.2, optDef zβ h.1⟩)
    refine ⟨⟨_, .yes (c := (lget l k).neg) (d := true) rfl (fun v w h => h), fun h w => optUndef h, fun zβ za zw zc => ?_⟩, ?_⟩
    ·exact wp_or rfl ((evt za 23).trans (optVal (zc.dep 6 23 (by kernel_rfl)) rfl zβ)) (fun hp => ((evt za 30).trans (optVal (zc.dep 13 30 (by kernel_rfl)) rfl (bMkN zβ hp)))) ⟨_, rfl, Below.refl _ _, optDef zβ rfl⟩
    refine ⟨⟨true, .none rfl, fun h w => optUndef h, fun zβ za zw zc => ?_⟩, ?_⟩
    ·exact wp_and rfl ((evt za 20).trans (optVal (zc.dep 3 20 (by kernel_rfl)) rfl rfl)) (fun hp => ((evt za 31).trans (optVal (zc.dep 14 31 (by kernel_rfl)) rfl (bMk zβ hp)))) ⟨_, rfl, Below.refl _ _, optDef zβ rfl⟩
    exact trivial
   ·intro za w27 zh hb28 zu
    have zh := zh.cons (d := 32) (v := .bool (((lget l k).neg && ((decide (((pickK true l k) : Int) < (0 : Int))) || (betB true (lget l k) (lget l (((pickK true l k)).toNat))))))) (optVal (zu 15 32 (by kernel_rfl)) rfl rfl)
    clear zu
    refine WE.go zh ?_
    refine WE.next ?_
    refine WC.cond rfl (fun h29 => ?_) (fun h29 => ?_)
    ·have h29 : ((lget l k).neg = true) ∧ ((((pickK true l k) : Int) < (0 : Int)) ∨ ((betB true (lget l k) (lget l (((pickK true l k)).toNat))) = true)) := by simpa using h29
     refine WC.region (WL.mv rfl rfl rfl rfl rfl (WL.asg rfl rfl rfl rfl rfl (WL.nil (WE.blockNormal (WE.next (WC.region ?_))))))
     refine WL.val (.int .i64 ((((k + 1) : Nat) : Int))) rfl rfl rfl (fun za zC zh zk => addb_3 rfl (zh.ev rfl) (zh.ev rfl) (wrap_eq (by omega) (by omega) (by omega)) zk) ?_
     refine WL.mv rfl rfl rfl rfl rfl (WL.nil ?_)
     have hstep : pickK true l (k + 1) = (k : Int) := by
      rw [pickK, if_pos (by simpa using h29)]
     refine WE.sub (K' := [(0, .slice a l.length c), (1, .func (.func 17) #[] #[]), (2, .func (.func 20) #[] #[]), (6, .int .i64 0), (7, .int .i64 ((pickK true l (k + 1)))), (8, .int .i64 (((k : Nat) : Int))), (9, .pointer (some ⟨g13, 0, none⟩)), (10, .slice a l.length c), (11, .int .i64 (((l.length : Nat) : Int))), (12, .int .i64 ((((k + 1) : Nat) : Int))), (13, .bool ((decide ((((k : Nat) : Int) : Int) < (((l.length : Nat) : Int) : Int))))), (32, .bool (((lget l k).neg && ((decide (((pickK true l k) : Int) < (0 : Int))) || (betB true (lget l k) (lget l (((pickK true l k)).toNat)))))))]) ⟨rfl, rfl, rfl, rfl, (by rw [hstep]; rfl), rfl, rfl, rfl, rfl, rfl, rfl, rfl, trivial⟩ ?_
     refine WE.round (k + 1) ⟨rfl, rfl, rfl, rfl, rfl, rfl, rfl, rfl, trivial⟩ ?_ ?_
     ·have hb30 : Below w.heap.size w w27 := (bstep hb24 hb28)
      exact ⟨by omega, hb30⟩
     ·omega
    ·have h29 : ¬ (((lget l k).neg = true) ∧ ((((pickK true l k) : Int) < (0 : Int)) ∨ ((betB true (lget l k) (lget l (((pickK true l k)).toNat))) = true))) := by simpa using h29
     refine WC.skip (WE.blockNormal (WE.next (WC.region ?_)))
     refine WL.val (.int .i64 ((((k + 1) : Nat) : Int))) rfl rfl rfl (fun za zC zh zk => addb_3 rfl (zh.ev rfl) (zh.ev rfl) (wrap_eq (by omega) (by omega) (by omega)) zk) ?_
     refine WL.mv rfl rfl rfl rfl rfl (WL.nil ?_)
     have hstep : pickK true l (k + 1) = pickK true l k := by
      rw [pickK, if_neg (by simpa using h29)]
     refine WE.sub (K' := [(0, .slice a l.length c), (1, .func (.func 17) #[] #[]), (2, .func (.func 20) #[] #[]), (6, .int .i64 0), (7, .int .i64 ((pickK true l (k + 1)))), (8, .int .i64 (((k : Nat) : Int))), (9, .pointer (some ⟨g13, 0, none⟩)), (10, .slice a l.length c), (11, .int .i64 (((l.length : Nat) : Int))), (12, .int .i64 ((((k + 1) : Nat) : Int))), (13, .bool ((decide ((((k : Nat) : Int) : Int) < (((l.length : Nat) : Int) : Int))))), (32, .bool (((lget l k).neg && ((decide (((pickK true l k) : Int) < (0 : Int))) || (betB true (lget l k) (lget l (((pickK true l k)).toNat)))))))]) ⟨rfl, rfl, rfl, rfl, (by rw [hstep]; rfl), rfl, rfl, rfl, rfl, rfl, rfl, rfl, trivial⟩ ?_
     refine WE.round (k + 1) ⟨rfl, rfl, rfl, rfl, rfl, rfl, rfl, rfl, trivial⟩ ?_ ?_
     ·have hb31 : Below w.heap.size w w27 := (bstep hb24 hb28)
      exact ⟨by omega, hb31⟩
     ·omega
  ·have h3 : ¬ ((((k : Nat) : Int) : Int) < (((l.length : Nat) : Int) : Int)) := by simpa using h3
   refine WC.exit (WE.thenExit (WE.thenExit (WE.blockIs rfl (WE.next (WC.seq (WC.region (WL.mv rfl rfl rfl rfl rfl (WL.asg rfl rfl rfl rfl rfl (WL.nil (WE.next (WC.ret (WE.ret1 rfl rfl ?_))))))))))))
   have hkc : k = l.length := by omega
   exact ⟨_, rfl, by rw [hkc], hb2⟩
set_option maxRecDepth 100000 in
theorem pickL_any (l : List Li) (w : World) (a : Option Addr) (c : Nat) (hl : IsCl w l a c) (hlz : l.length ≤ 1048576) : Calls Try.prog 19 #[.slice a l.length c, .func (.func 17) #[] #[], .func (.func 24) #[] #[]] w (Ret fun v' w' => v' = .int .i64 (pickK false l l.length) ∧ Below w.heap.size w w') := by
 have hr := hl.rows
 have hin := fun k => pickK_in false l k
 refine Calls.walk (l := [.slice a l.length c, .func (.func 17) #[] #[], .func (.func 24) #[] #[]]) Try.func19 rfl (by kernel_rfl) ?_
 refine WC.sub (K' := [(0, .slice a l.length c), (1, .func (.func 17) #[] #[]), (2, .func (.func 24) #[] #[])]) ⟨rfl, rfl, rfl, trivial⟩ ?_
 refine WC.seq (WC.region (WL.asg rfl rfl rfl rfl rfl (WL.nil (WE.next (WC.seq (WC.region (WL.asg rfl rfl rfl rfl rfl (WL.nil (WE.next (WC.seq (WC.seq (WC.region (WL.mv rfl rfl rfl rfl rfl ?_)))))))))))))
 refine WL.val (.int .i64 (((l.length : Nat) : Int))) rfl rfl rfl (fun za zC zh zk => len_26 rfl (zh.ev rfl) zk) ?_
 refine WL.mv rfl rfl rfl rfl rfl (WL.nil (WE.next (WC.block ?_)))
 refine WC.loop (X := Nat) (fun k => l.length - k) (fun k => [(0, .slice a l.length c), (1, .func (.func 17) #[] #[]), (2, .func (.func 24) #[] #[]), (6, .int .i64 0), (7, .int .i64 ((pickK false l k))), (10, .slice a l.length c), (11, .int .i64 (((l.length : Nat) : Int))), (12, .int .i64 (((k : Nat) : Int)))]) (fun k w1 => k ≤ l.length ∧ Below w.heap.size w w1) 0 ⟨rfl, rfl, rfl, rfl, rfl, rfl, rfl, rfl, trivial⟩ ?_ ?_
 ·exact ⟨Nat.zero_le _, (Below.refl _ _)⟩
 ·rintro k w1 ⟨hk, hb2⟩
  refine WC.seq (WC.region ?_)
  refine WL.val (.bool ((decide ((((k : Nat) : Int) : Int) < (((l.length : Nat) : Int) : Int))))) rfl rfl rfl (fun za zC zh zk => lss_3 rfl (zh.ev rfl) (zh.ev rfl) zk) ?_
  refine WL.nil (WE.next (WC.seq ?_))
  refine WC.cond rfl (fun h3 => ?_) (fun h3 => ?_)
  ·have h3 : (((k : Nat) : Int) : Int) < (((l.length : Nat) : Int) : Int) := by simpa using h3
   refine WC.skip (WE.next (WC.seq (WC.block (WC.seq (WC.region (WL.mv rfl rfl rfl rfl rfl ?_))))))
   obtain ⟨b4, o5, A6, C7, A8, C9, ha10, hc11⟩ := InRow.openL hr
   refine WL.val _ rfl rfl rfl (fun za zC zh zk => ix_26 (k := k) rfl (zh.ev rfl) (ha10 k (by first | omega | (simp; omega))) (zh.ev rfl) (by first | omega | (simp; omega)) zk) ?_
   refine WL.val _ rfl rfl rfl (fun za zC zh zk => ld_36 rfl (zh.ev rfl) (bkeeps hb2 _ _ (hc11 k (by first | omega | (simp; omega))).1) (bkeeps hb2 _ _ (hc11 k (by first | omega | (simp; omega))).2.1) (bkeeps hb2 _ _ (hc11 k (by first | omega | (simp; omega))).2.2.1) (bkeeps hb2 _ _ (hc11 k (by first | omega | (simp; omega))).2.2.2.1) (bkeeps hb2 _ _ (hc11 k (by first | omega | (simp; omega))).2.2.2.2.1) zk) ?_
   refine WL.step (post := NewBlk w1 36 #[.bool false, .int .i64 0, .slice none 0 0, .int .i64 0, .slice none 0 0]) rfl rfl rfl (fun za zC zh zk => alloc_36 rfl (zk _ _ (newBlk _ _ _))) ?_
   rintro _ w12 ⟨g13, rfl, hg14, hB15, hb16, hz17⟩
   have hl18 : w.heap.size ≤ g13 := by have z2 := (hb2).size; omega
   refine WL.asg rfl rfl rfl rfl rfl ?_
   refine WL.step (post := fun _ w' => Upd g13 w12 w' ∧ Blk w' g13 36 #[.bool ((lget l k).neg), .int .i64 ((lget l k).l.f), .slice ((A6 k)) ((lget l k).l.args.length) ((C7 k)), .int .i64 ((lget l k).r.f), .slice ((A8 k)) ((lget l k).r.args.length) ((C9 k))]) rfl rfl rfl (fun za zC zh zk => st_36 rfl (zh.ev rfl) (zh.ev rfl) rfl rfl rfl rfl rfl hB15 (by first | decide | simp) (fun v => zk v _ ⟨((((Upd.at_ _ _ _ _).trans (Upd.at_ _ _ _ _)).trans (Upd.at_ _ _ _ _)).trans (Upd.at_ _ _ _ _)).trans (Upd.at_ _ _ _ _), ((((hB15.set_ 0 _).set_ 1 _).set_ 2 _).set_ 3 _).set_ 4 _⟩)) ?_
   rintro v22 w19 ⟨hu20, hB21⟩
   have hb23 : Below w.heap.size w w12 := (bstep hb2 hb16)
   have hb24 := upd_below hb23 hu20 (by omega)
   refine WL.nil (WE.next (WC.seq ?_))
   refine WC.opt [(true, .val (.func (.func 17) #[] #[])), (true, .val (.agg #[.bool ((lget l k).neg), .int .i64 ((lget l k).l.f), .slice ((A6 k)) ((lget l k).l.args.length) ((C7 k)), .int .i64 ((lget l k).r.f), .slice ((A8 k)) ((lget l k).r.args.length) ((C9 k))])), (true, .val (.bool ((lget l k).neg))), (true, .val (.bool ((lget l k).neg))), ((true && (lget l k).neg), .val (.int .i64 ((pickK false l k)))), ((true && (lget l k).neg), .val (.bool ((decide (((pickK false l k) : Int) < (0 : Int)))))), ((true && (lget l k).neg), .val (.bool ((decide (((pickK false l k) : Int) < (0 : Int)))))), (((true && (lget l k).neg) && !(decide (((pickK false l k) : Int) < (0 : Int)))), .val (.func (.func 24) #[] #[])), (((true && (lget l k).neg) && !(decide (((pickK false l k) : Int) < (0 : Int)))), .val (.agg #[.bool ((lget l k).neg), .int .i64 ((lget l k).l.f), .slice ((A6 k)) ((lget l k).l.args.length) ((C7 k)), .int .i64 ((lget l k).r.f), .slice ((A8 k)) ((lget l k).r.args.length) ((C9 k))])), (((true && (lget l k).neg) && !(decide (((pickK false l k) : Int) < (0 : Int)))), .val (.slice a l.length c)), (((true && (lget l k).neg) && !(decide (((pickK false l k) : Int) < (0 : Int)))), .val (.int .i64 ((pickK false l k)))), (((true && (lget l k).neg) && !(decide (((pickK false l k) : Int) < (0 : Int)))), .val (.pointer (some ⟨b4, o5 + (((pickK false l k)).toNat) * 5, none⟩))), (((true && (lget l k).neg) && !(decide (((pickK false l k) : Int) < (0 : Int)))), .val (.agg #[.bool ((lget l (((pickK false l k)).toNat)).neg), .int .i64 ((lget l (((pickK false l k)).toNat)).l.f), .slice ((A6 (((pickK false l k)).toNat))) ((lget l (((pickK false l k)).toNat)).l.args.length) ((C7 (((pickK false l k)).toNat))), .int .i64 ((lget l (((pickK false l k)).toNat)).r.f), .slice ((A8 (((pickK false l k)).toNat))) ((lget l (((pickK false l k)).toNat)).r.args.length) ((C9 (((pickK false l k)).toNat)))])), (((true && (lget l k).neg) && !(decide (((pickK false l k) : Int) < (0 : Int)))), .val (.bool ((betB false (lget l k) (lget l (((pickK false l k)).toNat)))))), ((true && (lget l k).neg), .val (.bool (((decide (((pickK false l k) : Int) < (0 : Int))) || (betB false (lget l k) (lget l (((pickK false l k)).toNat))))))), (true, .val (.bool (((lget l k).neg && ((decide (((pickK false l k) : Int) < (0 : Int))) || (betB false (lget l k) (lget l (((pickK false l k)).toNat))))))))] [(0, .slice a l.length c), (1, .func (.func 17) #[] #[]), (2, .func (.func 24) #[] #[]), (6, .int .i64 0), (7, .int .i64 ((pickK false l k))), (8, .int .i64 (((k : Nat) : Int))), (9, .pointer (some ⟨g13, 0, none⟩)), (10, .slice a l.length c), (11, .int .i64 (((l.length : Nat) : Int))), (12, .int .i64 (((k : Nat) : Int))), (13, .bool ((decide ((((k : Nat) : Int) : Int) < (((l.length : Nat) : Int) : Int)))))] ⟨rfl, rfl, rfl, rfl, rfl, rfl, rfl, rfl, rfl, rfl, rfl, trivial⟩ (by kernel_rfl) (by kernel_rfl) (by kernel_rfl) ?_ ?_
   ·refine ⟨⟨true, .none rfl, fun h w => optUndef h, fun zβ za zw zc => ?_⟩, ?_⟩
    ·exact wp_move rfl (zc.kn.ev rfl) ⟨_, rfl, Below.refl _ _, optDef zβ rfl⟩
    refine ⟨⟨true, .none rfl, fun h w => optUndef h, fun zβ za zw zc => ?_⟩, ?_⟩
    ·exact ld_36 rfl (zc.kn.ev rfl) (bkeeps zc.below _ _ ((hB21.cell 0).trans rfl)) (bkeeps zc.below _ _ ((hB21.cell 1).trans rfl)) (bkeeps zc.below _ _ ((hB21.cell 2).trans rfl)) (bkeeps zc.below _ _ ((hB21.cell 3).trans rfl)) (bkeeps zc.below _ _ ((hB21.cell 4).trans rfl)) ⟨_, rfl, Below.refl _ _, optDef zβ rfl⟩
    refine ⟨⟨true, .none rfl, fun h w => optUndef h, fun zβ za zw zc => ?_⟩, ?_⟩
    ·exact wp_callv (by kernel_rfl) rfl ((evt za 17).trans (optVal (zc.dep 0 17 (by kernel_rfl)) rfl rfl)) (hv1 ((evt za 18).trans (optVal (zc.dep 1 18 (by kernel_rfl)) rfl rfl))) (neg_any (lget l k) _ _ (isLi_mk (IsT.below (bstep hb24 zc.below) (InT.isT (hc11 k (by first | omega | (simp; omega))).2.2.2.2.2.1)) (IsT.below (bstep hb24 zc.below) (InT.isT (hc11 k (by first | omega | (simp; omega))).2.2.2.2.2.2)))) (fun v w' h => ⟨v, rfl, h.2, optDef zβ h.1⟩)
    refine ⟨⟨true, .none rfl, fun h w => optUndef h, fun zβ za zw zc => ?_⟩, ?_⟩
    ·exact wp_move rfl ((evt za 19).trans (optVal (zc.dep 2 19 (by kernel_rfl)) rfl rfl)) ⟨_, rfl, Below.refl _ _, optDef zβ rfl⟩
    refine ⟨⟨_, .yes (c := (lget l k).neg) (d := true) rfl (fun v w h => h), fun h w => optUndef h, fun zβ za zw zc => ?_⟩, ?_⟩
    ·exact wp_move rfl (zc.kn.ev rfl) ⟨_, rfl, Below.refl _ _, optDef zβ rfl⟩
    refine ⟨⟨_, .yes (c := (lget l k).neg) (d := true) rfl (fun v w h => h), fun h w => optUndef h, fun zβ za zw zc => ?_⟩, ?_⟩
    ·exact lss_3 rfl ((evt za 21).trans (optVal (zc.dep 4 21 (by kernel_rfl)) rfl zβ)) (zc.kn.ev rfl) ⟨_, rfl, Below.refl _ _, optDef zβ rfl⟩
    refine ⟨⟨_, .yes (c := (lget l k).neg) (d := true) rfl (fun v w h => h), fun h w => optUndef h, fun zβ za zw zc => ?_⟩, ?_⟩
    ·exact wp_move rfl ((evt za 22).trans (optVal (zc.dep 5 22 (by kernel_rfl)) rfl zβ)) ⟨_, rfl, Below.refl _ _, optDef zβ rfl⟩
    refine ⟨⟨_, .no (c := (decide (((pickK false l k) : Int) < (0 : Int)))) (d := (true && (lget l k).neg)) rfl (fun v w h => h), fun h w => optUndef h, fun zβ za zw zc => ?_⟩, ?_⟩
    ·exact wp_move rfl (zc.kn.ev rfl) ⟨_, rfl, Below.refl _ _, optDef zβ rfl⟩
    refine ⟨⟨_, .no (c := (decide (((pickK false l k) : Int) < (0 : Int)))) (d := (true && (lget l k).neg)) rfl (fun v w h => h), fun h w => optUndef h, fun zβ za zw zc => ?_⟩, ?_⟩
    ·exact ld_36 rfl (zc.kn.ev rfl) (bkeeps zc.below _ _ ((hB21.cell 0).trans rfl)) (bkeeps zc.below _ _ ((hB21.cell 1).trans rfl)) (bkeeps zc.below _ _ ((hB21.cell 2).trans rfl)) (bkeeps zc.below _ _ ((hB21.cell 3).trans rfl)) (bkeeps zc.below _ _ ((hB21.cell 4).trans rfl)) ⟨_, rfl, Below.refl _ _, optDef zβ rfl⟩
    refine ⟨⟨_, .no (c := (decide (((pickK false l k) : Int) < (0 : Int)))) (d := (true && (lget l k).neg)) rfl (fun v w h => h), fun h w => optUndef h, fun zβ za zw zc => ?_⟩, ?_⟩
    ·exact wp_move rfl (zc.kn.ev rfl) ⟨_, rfl, Below.refl _ _, optDef zβ rfl⟩
    refine ⟨⟨_, .no (c := (decide (((pickK false l k) : Int) < (0 : Int)))) (d := (true && (lget l k).neg)) rfl (fun v w h => h), fun h w => optUndef h, fun zβ za zw zc => ?_⟩, ?_⟩
    ·exact wp_move rfl (zc.kn.ev rfl) ⟨_, rfl, Below.refl _ _, optDef zβ rfl⟩
    refine ⟨⟨_, .no (c := (decide (((pickK false l k) : Int) < (0 : Int)))) (d := (true && (lget l k).neg)) rfl (fun v w h => h), fun h w => optUndef h, fun zβ za zw zc => ?_⟩, ?_⟩
    ·exact ix_26 (k := ((pickK false l k)).toNat) rfl ((evt za 26).trans (optVal (zc.dep 9 26 (by kernel_rfl)) rfl zβ)) (ha10 (((pickK false l k)).toNat) (by have hin9 := hin k; have zz := zβ; simp only [Bool.and_eq_true, Bool.true_and, Bool.not_eq_true', Bool.or_eq_false_iff, decide_eq_true_eq, decide_eq_false_iff_not] at zz; omega)) (((evt za 27).trans (optVal (zc.dep 10 27 (by kernel_rfl)) rfl zβ)).trans (congrArg (Value.int .i64) (by have hin9 := hin k; have zz := zβ; simp only [Bool.and_eq_true, Bool.true_and, Bool.not_eq_true', Bool.or_eq_false_iff, decide_eq_true_eq, decide_eq_false_iff_not] at zz; omega))) (by have hin9 := hin k; have zz := zβ; simp only [Bool.and_eq_true, Bool.true_and, Bool.not_eq_true', Bool.or_eq_false_iff, decide_eq_true_eq, decide_eq_false_iff_not] at zz; omega) ⟨_, rfl, Below.refl _ _, optDef zβ rfl⟩
    refine ⟨⟨_, .no (c := (decide (((pickK false l k) : Int) < (0 : Int)))) (d := (true && (lget l k).neg)) rfl (fun v w h => h), fun h w => optUndef h, fun zβ za zw zc => ?_⟩, ?_⟩
    ·exact ld_36 rfl ((evt za 28).trans (optVal (zc.dep 11 28 (by kernel_rfl)) rfl zβ)) (bkeeps (bstep hb24 zc.below) _ _ (hc11 (((pickK false l k)).toNat) (by have hin9 := hin k; have zz := zβ; simp only [Bool.and_eq_true, Bool.true_and, Bool.not_eq_true', Bool.or_eq_false_iff, decide_eq_true_eq, decide_eq_false_iff_not] at zz; omega)).1) (bkeeps (bstep hb24 zc.below) _ _ (hc11 (((pickK false l k)).toNat) (by have hin9 := hin k; have zz := zβ; simp only [Bool.and_eq_true, Bool.true_and, Bool.not_eq_true', Bool.or_eq_false_iff, decide_eq_true_eq, decide_eq_false_iff_not] at zz; omega)).2.1) (bkeeps (bstep hb24 zc.below) _ _ (hc11 (((pickK false l k)).toNat) (by have hin9 := hin k; have zz := zβ; simp only [Bool.and_eq_true, Bool.true_and, Bool.not_eq_true', Bool.or_eq_false_iff, decide_eq_true_eq, decide_eq_false_iff_not] at zz; omega)).2.2.1) (bkeeps (bstep hb24 zc.below) _ _ (hc11 (((pickK false l k)).toNat) (by have hin9 := hin k; have zz := zβ; simp only [Bool.and_eq_true, Bool.true_and, Bool.not_eq_true', Bool.or_eq_false_iff, decide_eq_true_eq, decide_eq_false_iff_not] at zz; omega)).2.2.2.1) (bkeeps (bstep hb24 zc.below) _ _ (hc11 (((pickK false l k)).toNat) (by have hin9 := hin k; have zz := zβ; simp only [Bool.and_eq_true, Bool.true_and, Bool.not_eq_true', Bool.or_eq_false_iff, decide_eq_true_eq, decide_eq_false_iff_not] at zz; omega)).2.2.2.2.1) ⟨_, rfl, Below.refl _ _, optDef zβ rfl⟩
    refine ⟨⟨_, .no (c := (decide (((pickK false l k) : Int) < (0 : Int)))) (d := (true && (lget l k).neg)) rfl (fun v w h => h), fun h w => optUndef h, fun zβ za zw zc => ?_⟩, ?_⟩
    ·exact wp_callv (by kernel_rfl) rfl ((evt za 24).trans (optVal (zc.dep 7 24 (by kernel_rfl)) rfl zβ)) (hv2 ((evt za 25).trans (optVal (zc.dep 8 25 (by kernel_rfl)) rfl zβ)) ((evt za 29).trans (optVal (zc.dep 12 29 (by kernel_rfl)) rfl zβ))) (betL_any (lget l k) (lget l (((pickK false l k)).toNat)) _ _ _ ⟨hl.pl (by have hin9 := hin k; first | omega | (have zz := zβ; simp only [Bool.and_eq_true, Bool.or_eq_true, Bool.true_and, Bool.not_eq_true', Bool.or_eq_false_iff, Bool.and_eq_false_iff, beq_eq_false_iff_ne, ne_eq, beq_iff_eq, decide_eq_true_eq, decide_eq_false_iff_not, bne_iff_ne, bne_eq_false_iff_eq] at zz; omega)), hl.pr (by have hin9 := hin k; first | omega | (have zz := zβ; simp only [Bool.and_eq_true, Bool.or_eq_true, Bool.true_and, Bool.not_eq_true', Bool.or_eq_false_iff, Bool.and_eq_false_iff, beq_eq_false_iff_ne, ne_eq, beq_iff_eq, decide_eq_true_eq, decide_eq_false_iff_not, bne_iff_ne, bne_eq_false_iff_eq] at zz; omega))⟩ ⟨hl.pl (by have hin9 := hin k; first | omega | (have zz := zβ; simp only [Bool.and_eq_true, Bool.or_eq_true, Bool.true_and, Bool.not_eq_true', Bool.or_eq_false_iff, Bool.and_eq_false_iff, beq_eq_false_iff_ne, ne_eq, beq_iff_eq, decide_eq_true_eq, decide_eq_false_iff_not, bne_iff_ne, bne_eq_false_iff_eq] at zz; omega)), hl.pr (by have hin9 := hin k; first | omega | (have zz := zβ; simp only [Bool.and_eq_true, Bool.or_eq_true, Bool.true_and, Bool.not_eq_true', Bool.or_eq_false_iff, Bool.and_eq_false_iff, beq_eq_false_iff_ne, ne_eq, beq_iff_eq, decide_eq_true_eq, decide_eq_false_iff_not, bne_iff_ne, bne_eq_false_iff_eq] at zz; omega))⟩ (isLi_mk (IsT.below (bstep hb24 zc.below) (InT.isT (hc11 k (by first | omega | (have zz := zβ; simp only [Bool.and_eq_true, Bool.or_eq_true, Bool.true_and, Bool.not_eq_true', Bool.or_eq_false_iff, Bool.and_eq_false_iff, beq_eq_false_iff_ne, ne_eq, beq_iff_eq, decide_eq_true_eq, decide_eq_false_iff_not, bne_iff_ne, bne_eq_false_iff_eq] at zz; omega))).2.2.2.2.2.1)) (IsT.below (bstep hb24 zc.below) (InT.isT (hc11 k (by first | omega | (have zz := zβ; simp only [Bool.and_eq_true, Bool.or_eq_true, Bool.true_and, Bool.not_eq_true', Bool.or_eq_false_iff, Bool.and_eq_false_iff, beq_eq_false_iff_ne, ne_eq, beq_iff_eq, decide_eq_true_eq, decide_eq_false_iff_not, bne_iff_ne, bne_eq_false_iff_eq] at zz; omega))).2.2.2.2.2.2))) (isLi_mk (IsT.below (bstep hb24 zc.below) (InT.isT (hc11 (((pickK false l k)).toNat) (by have hin9 := hin k; have zz := zβ; simp only [Bool.and_eq_true, Bool.true_and, Bool.not_eq_true', Bool.or_eq_false_iff, decide_eq_true_eq, decide_eq_false_iff_not] at zz; omega)).2.2.2.2.2.1)) (IsT.below (bstep hb24 zc.below) (InT.isT (hc11 (((pickK false l k)).toNat) (by have hin9 := hin k; have zz := zβ; simp only [Bool.and_eq_true, Bool.true_and, Bool.not_eq_true', Bool.or_eq_false_iff, decide_eq_true_eq, decide_eq_false_iff_not] at zz; omega)).2.2.2.2.2.2)))) (fun v w' h => ⟨v, rfl, h.2, optDef zβ h.1⟩)
    refine ⟨⟨_, .yes (c := (lget l k).neg) (d := true) rfl (fun v w h => h), fun h w => optUndef h, fun zβ za zw zc => ?_⟩, ?_⟩
    ·exact wp_or rfl ((evt za 23).trans (optVal (zc.dep 6 23 (by kernel_rfl)) rfl zβ)) (fun hp => ((evt za 30).trans (optVal (zc.dep 13 30 (by kernel_rfl)) rfl (bMkN zβ hp)))) ⟨_, rfl, Below.refl _ _, optDef zβ rfl⟩
    refine ⟨⟨true, .none rfl, fun h w => optUndef h, fun zβ za zw zc => ?_⟩, ?_⟩
    ·exact wp_and rfl ((evt za 20).trans (optVal (zc.dep 3 20 (by kernel_rfl)) rfl rfl)) (fun hp => ((evt za 31).trans (optVal (zc.dep 14 31 (by kernel_rfl)) rfl (bMk zβ hp)))) ⟨_, rfl, Below.refl _ _, optDef zβ rfl⟩
    exact trivial
   ·intro za w27 zh hb28 zu
    have zh := zh.cons (d := 32) (v := .bool (((lget l k).neg && ((decide (((pickK false l k) : Int) < (0 : Int))) || (betB false (lget l k) (lget l (((pickK false l k)).toNat))))))) (optVal (zu 15 32 (by kernel_rfl)) rfl rfl)
    clear zu
    refine WE.go zh ?_
    refine WE.next ?_
    refine WC.cond rfl (fun h29 => ?_) (fun h29 => ?_)
    ·have h29 : ((lget l k).neg = true) ∧ ((((pickK false l k) : Int) < (0 : Int)) ∨ ((betB false (lget l k) (lget l (((pickK false l k)).toNat))) = true)) := by simpa using h29
     refine WC.region (WL.mv rfl rfl rfl rfl rfl (WL.asg rfl rfl rfl rfl rfl (WL.nil (WE.blockNormal (WE.next (WC.region ?_))))))
     refine WL.val (.int .i64 ((((k + 1) : Nat) : Int))) rfl rfl rfl (fun za zC zh zk => addb_3 rfl (zh.ev rfl) (zh.ev rfl) (wrap_eq (by omega) (by omega) (by omega)) zk) ?_
     refine WL.mv rfl rfl rfl rfl rfl (WL.nil ?_)
     have hstep : pickK false l (k + 1) = (k : Int) := by
      rw [pickK, if_pos (by simpa using h29)]
     refine WE.sub (K' := [(0, .slice a l.length c), (1, .func (.func 17) #[] #[]), (2, .func (.func 24) #[] #[]), (6, .int .i64 0), (7, .int .i64 ((pickK false l (k + 1)))), (8, .int .i64 (((k : Nat) : Int))), (9, .pointer (some ⟨g13, 0, none⟩)), (10, .slice a l.length c), (11, .int .i64 (((l.length : Nat) : Int))), (12, .int .i64 ((((k + 1) : Nat) : Int))), (13, .bool ((decide ((((k : Nat) : Int) : Int) < (((l.length : Nat) : Int) : Int))))), (32, .bool (((lget l k).neg && ((decide (((pickK false l k) : Int) < (0 : Int))) || (betB false (lget l k) (lget l (((pickK false l k)).toNat)))))))]) ⟨rfl, rfl, rfl, rfl, (by rw [hstep]; rfl), rfl, rfl, rfl, rfl, rfl, rfl, rfl, trivial⟩ ?_
     refine WE.round (k + 1) ⟨rfl, rfl, rfl, rfl, rfl, rfl, rfl, rfl, trivial⟩ ?_ ?_
     ·have hb30 : Below w.heap.size w w27 := (bstep hb24 hb28)
      exact ⟨by omega, hb30⟩
     ·omega
    ·have h29 : ¬ (((lget l k).neg = true) ∧ ((((pickK false l k) : Int) < (0 : Int)) ∨ ((betB false (lget l k) (lget l (((pickK false l k)).toNat))) = true))) := by simpa using h29
     refine WC.skip (WE.blockNormal (WE.next (WC.region ?_)))
     refine WL.val (.int .i64 ((((k + 1) : Nat) : Int))) rfl rfl rfl (fun za zC zh zk => addb_3 rfl (zh.ev rfl) (zh.ev rfl) (wrap_eq (by omega) (by omega) (by omega)) zk) ?_
     refine WL.mv rfl rfl rfl rfl rfl (WL.nil ?_)
     have hstep : pickK false l (k + 1) = pickK false l k := by
      rw [pickK, if_neg (by simpa using h29)]
     refine WE.sub (K' := [(0, .slice a l.length c), (1, .func (.func 17) #[] #[]), (2, .func (.func 24) #[] #[]), (6, .int .i64 0), (7, .int .i64 ((pickK false l (k + 1)))), (8, .int .i64 (((k : Nat) : Int))), (9, .pointer (some ⟨g13, 0, none⟩)), (10, .slice a l.length c), (11, .int .i64 (((l.length : Nat) : Int))), (12, .int .i64 ((((k + 1) : Nat) : Int))), (13, .bool ((decide ((((k : Nat) : Int) : Int) < (((l.length : Nat) : Int) : Int))))), (32, .bool (((lget l k).neg && ((decide (((pickK false l k) : Int) < (0 : Int))) || (betB false (lget l k) (lget l (((pickK false l k)).toNat)))))))]) ⟨rfl, rfl, rfl, rfl, (by rw [hstep]; rfl), rfl, rfl, rfl, rfl, rfl, rfl, rfl, trivial⟩ ?_
     refine WE.round (k + 1) ⟨rfl, rfl, rfl, rfl, rfl, rfl, rfl, rfl, trivial⟩ ?_ ?_
     ·have hb31 : Below w.heap.size w w27 := (bstep hb24 hb28)
      exact ⟨by omega, hb31⟩
     ·omega
  ·have h3 : ¬ ((((k : Nat) : Int) : Int) < (((l.length : Nat) : Int) : Int)) := by simpa using h3
   refine WC.exit (WE.thenExit (WE.thenExit (WE.blockIs rfl (WE.next (WC.seq (WC.region (WL.mv rfl rfl rfl rfl rfl (WL.asg rfl rfl rfl rfl rfl (WL.nil (WE.next (WC.ret (WE.ret1 rfl rfl ?_))))))))))))
   have hkc : k = l.length := by omega
   exact ⟨_, rfl, by rw [hkc], hb2⟩
set_option maxRecDepth 100000 in
theorem first_any (l : List Li) (w : World) (a : Option Addr) (c : Nat) (hl : IsCl w l a c) (hlz : l.length ≤ 1048576) : Calls Try.prog 16 #[.slice a l.length c, .func (.func 17) #[] #[]] w (Ret fun v' w' => v' = .int .i64 (firstK l l.length) ∧ Below w.heap.size w w') := by
 have hr := hl.rows
 refine Calls.walk (l := [.slice a l.length c, .func (.func 17) #[] #[]]) Try.func16 rfl (by kernel_rfl) ?_
 refine WC.sub (K' := [(0, .slice a l.length c), (1, .func (.func 17) #[] #[])]) ⟨rfl, rfl, trivial⟩ ?_
 refine WC.seq (WC.region (WL.asg rfl rfl rfl rfl rfl (WL.nil (WE.next (WC.seq (WC.seq (WC.region (WL.mv rfl rfl rfl rfl rfl ?_))))))))
 refine WL.val (.int .i64 (((l.length : Nat) : Int))) rfl rfl rfl (fun za zC zh zk => len_27 rfl (zh.ev rfl) zk) ?_
 refine WL.mv rfl rfl rfl rfl rfl (WL.nil (WE.next (WC.block ?_)))
 refine WC.loop (X := Nat) (fun k => l.length - k) (fun k => [(0, .slice a l.length c), (1, .func (.func 17) #[] #[]), (7, .int .i64 (((l.length : Nat) : Int))), (8, .int .i64 (((k : Nat) : Int)))]) (fun k w1 => k ≤ l.length ∧ (∀ q, q < k → (lget l q).neg = false) ∧ Below w.heap.size w w1) 0 ⟨rfl, rfl, rfl, rfl, trivial⟩ ?_ ?_
 ·exact ⟨Nat.zero_le _, fun q h => absurd h (Nat.not_lt_zero q), (Below.refl _ _)⟩
 ·rintro k w1 ⟨hk, hall, hb2⟩
  refine WC.seq (WC.region ?_)
  refine WL.val (.bool ((decide ((((k : Nat) : Int) : Int) < (((l.length : Nat) : Int) : Int))))) rfl rfl rfl (fun za zC zh zk => lss_3 rfl (zh.ev rfl) (zh.ev rfl) zk) ?_
  refine WL.nil (WE.next (WC.seq ?_))
  refine WC.cond rfl (fun h3 => ?_) (fun h3 => ?_)
  ·have h3 : (((k : Nat) : Int) : Int) < (((l.length : Nat) : Int) : Int) := by simpa using h3
   refine WC.skip (WE.next (WC.seq (WC.block (WC.seq (WC.region (WL.mv rfl rfl rfl rfl rfl (WL.asg rfl rfl rfl rfl rfl (WL.nil (WE.next (WC.seq (WC.region (WL.mv rfl rfl rfl rfl rfl (WL.mv rfl rfl rfl rfl rfl (WL.mv rfl rfl rfl rfl rfl ?_))))))))))))))
   obtain ⟨b4, o5, A6, C7, A8, C9, ha10, hc11⟩ := InRow.openL hr
   refine WL.val _ rfl rfl rfl (fun za zC zh zk => ix_27 (k := k) rfl (zh.ev rfl) (ha10 k (by first | omega | (simp; omega))) (zh.ev rfl) (by first | omega | (simp; omega)) zk) ?_
   refine WL.val _ rfl rfl rfl (fun za zC zh zk => ld_36 rfl (zh.ev rfl) (bkeeps hb2 _ _ (hc11 k (by first | omega | (simp; omega))).1) (bkeeps hb2 _ _ (hc11 k (by first | omega | (simp; omega))).2.1) (bkeeps hb2 _ _ (hc11 k (by first | omega | (simp; omega))).2.2.1) (bkeeps hb2 _ _ (hc11 k (by first | omega | (simp; omega))).2.2.2.1) (bkeeps hb2 _ _ (hc11 k (by first | omega | (simp; omega))).2.2.2.2.1) zk) ?_
   refine WL.call rfl rfl rfl (fun za zh zC => wp_callv (by kernel_rfl) rfl (zh.ev rfl) (hv1 (zh.ev rfl))) (neg_any (lget l k) _ _ (isLi_mk (IsT.below hb2 (InT.isT (hc11 k (by first | omega | (simp; omega))).2.2.2.2.2.1)) (IsT.below hb2 (InT.isT (hc11 k (by first | omega | (simp; omega))).2.2.2.2.2.2)))) ?_
   rintro _ w13 ⟨rfl, hq12⟩
   refine WL.nil (WE.next ?_)
   refine WC.cond rfl (fun h14 => ?_) (fun h14 => ?_)
   ·skip
    refine WC.seq (WC.region (WL.mv rfl rfl rfl rfl rfl (WL.asg rfl rfl rfl rfl rfl (WL.nil (WE.next (WC.ret (WE.blockRet (WE.thenRet (WE.thenRet (WE.blockRet (WE.thenRet (WE.ret1 rfl rfl ?_))))))))))))
    have hb15 : Below w.heap.size w w13 := (bstep hb2 hq12)
    exact ⟨_, rfl, by rw [firstK_at hall (by simpa using h14) (by omega)], hb15⟩
   ·skip
    refine WC.skip (WE.blockNormal (WE.next (WC.region ?_)))
    refine WL.val (.int .i64 ((((k + 1) : Nat) : Int))) rfl rfl rfl (fun za zC zh zk => addb_3 rfl (zh.ev rfl) (zh.ev rfl) (wrap_eq (by omega) (by omega) (by omega)) zk) ?_
    refine WL.mv rfl rfl rfl rfl rfl (WL.nil ?_)
    refine WE.round (k + 1) ⟨rfl, rfl, rfl, rfl, trivial⟩ ?_ ?_
    ·have hb16 : Below w.heap.size w w13 := (bstep hb2 hq12)
     exact ⟨by omega, fun q hq => by
       by_cases e : q = k
       ·rw [e]; simpa using h14
       ·exact hall q (by omega), hb16⟩
    ·omega
  ·have h3 : ¬ ((((k : Nat) : Int) : Int) < (((l.length : Nat) : Int) : Int)) := by simpa using h3
   refine WC.exit (WE.thenExit (WE.thenExit (WE.blockIs rfl (WE.next (WC.seq (WC.region (WL.asg rfl rfl rfl rfl rfl (WL.nil (WE.next (WC.ret (WE.ret1 rfl rfl ?_)))))))))))
   exact ⟨_, rfl, by rw [firstK_none (fun q hq => hall q (by omega))], hb2⟩
end Go.Proofs.Ytnokgjajcnhkkaa
