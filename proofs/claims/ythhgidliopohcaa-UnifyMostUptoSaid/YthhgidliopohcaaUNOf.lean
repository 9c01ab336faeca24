/- Sizes, depths, variables: the document's program. -/
import Derived.Test.YthhgidliopohcaaUNOe
import Derived.Test.YthhgidliopohcaaUNOd
import Derived.Test.YthhgidliopohcaaUNOa
import Derived.Test.YthhgidliopohcaaUNOb
import Derived.Test.YthhgidliopohcaaUNOc

/- All pairs are joined and measured: the program. -/
namespace Go.Proofs.Ythhgidliopohcaa
open Go.RowKit Go
set_option linter.unusedVariables false
set_option linter.unusedSimpArgs false
/-- A net in memory behind 'B', apart from 'X'. -/
def NetS (w : World) (B g : Nat) (κ : Nat → Nat) (N : List Pt) (V : Nat → Nat) (X : Nat → Prop) : Prop := ∃ (Z : Nat → Prop) (U : List Nat) (d : Nat → Nat), (∀ b, Z b → B ≤ b ∧ ¬ X b) ∧ Reps U κ d ∧ NetX w g Z U N V
theorem NetS.below {w w' : World} {B g : Nat} {κ : Nat → Nat} {N : List Pt} {V : Nat → Nat} {X : Nat → Prop} (h : NetS w B g κ N V X) (hb : Below w.heap.size w w') : NetS w' B g κ N V X := by
 obtain ⟨Z, U, d, h1, h2, h3⟩ := h
 exact ⟨Z, U, d, h1, h2, h3.below hb⟩
/-- How joining all stands. -/
structure SS where
 k : Nat
 st : NS
 κ : Nat → Nat
/-- What 'solve' tells. -/
def SolveV (w0 w : World) (l : List (T × T)) (v : Value) : Prop :=
 (wideB l = false ∧ v = .tuple #[.pointer none, .slice none 0 0, .int .i64 2]) ∨ (wideB l = true ∧ SolveIs true l none ∧ v = .tuple #[.pointer none, .slice none 0 0, .int .i64 4]) ∨
 (wideB l = true ∧ ∃ st κ g mb ms, SolveGo true l l.length st κ ∧ AskOk st.N κ ms ∧ (∀ i, i < st.N.length → 0 < (mget ms (κ i)).sz) ∧ v = .tuple #[.pointer (some ⟨g, 0, none⟩), .slice (some ⟨mb, 0, none⟩) st.N.length st.N.length, .int .i64 0] ∧ NetS w w0.heap.size g κ st.N st.V (fun b => b = mb) ∧ w0.heap.size ≤ mb ∧ MB w mb ms)
set_option maxRecDepth 100000 in
theorem psolve_any (l : List (T × T)) (w : World) (a : Option Addr) (c : Nat) (hl : IsPs w l a c) (hlz : l.length ≤ 1048576) :
  Calls Try.prog 24 #[.slice a l.length c] w (Ret fun v' w' => SolveV w w' l v' ∧ Below w.heap.size w w') := by
 skip
 refine Calls.walk (l := [.slice a l.length c]) Try.func24 rfl (by kernel_rfl) ?_
 refine WC.sub (K' := [(0, .slice a l.length c)]) ⟨rfl, trivial⟩ ?_
 refine WC.seq (WC.region (WL.asg rfl rfl rfl rfl rfl (WL.asg rfl rfl rfl rfl rfl (WL.asg rfl rfl rfl rfl rfl (WL.nil (WE.next (WC.seq (WC.seq (WC.region (WL.mv rfl rfl rfl rfl rfl ?_))))))))))
 refine WL.val (.int .i64 (((l.length : Nat) : Int))) rfl rfl rfl (fun za zC zh zk => len_22 rfl (zh.ev rfl) zk) ?_
 refine WL.val (.bool ((decide ((64 : Int) < (((l.length : Nat) : Int) : Int))))) rfl rfl rfl (fun za zC zh zk => gtr_3 rfl (zh.ev rfl) (zh.ev rfl) zk) ?_
 refine WL.nil (WE.next ?_)
 refine WC.cond rfl (fun h1 => ?_) (fun h1 => ?_)
 ·have h1 : (64 : Int) < (((l.length : Nat) : Int) : Int) := by simpa using h1
  refine WC.seq (WC.region (WL.asg rfl rfl rfl rfl rfl (WL.asg rfl rfl rfl rfl rfl (WL.asg rfl rfl rfl rfl rfl (WL.nil (WE.next (WC.ret (WE.thenRet ?_))))))))
  refine WE.retAny (v := .tuple #[.pointer none, .slice none 0 0, .int .i64 2]) (fun za zh => ?_) ?_
  ·have z0 : za.tmps[2]?.getD undef = .pointer none := by rw [← Array.getD_eq_getD_getElem?]; exact zh.knows 2 _ rfl
   have z1 : za.tmps[3]?.getD undef = .slice none 0 0 := by rw [← Array.getD_eq_getD_getElem?]; exact zh.knows 3 _ rfl
   have z2 : za.tmps[4]?.getD undef = .int .i64 2 := by rw [← Array.getD_eq_getD_getElem?]; exact zh.knows 4 _ rfl
   simp [results, Try.results24, z0, z1, z2, go_sem]
  ·exact ⟨_, rfl, .inl ⟨wide_len (by omega), rfl⟩, (Below.refl _ _)⟩
 ·have h1 : ¬ ((64 : Int) < (((l.length : Nat) : Int) : Int)) := by simpa using h1
  have h64 : l.length ≤ 64 := by omega
  refine WC.skip (WE.next (WC.seq (WC.seq (WC.region (WL.mv rfl rfl rfl rfl rfl ?_)))))
  refine WL.val (.int .i64 (((l.length : Nat) : Int))) rfl rfl rfl (fun za zC zh zk => len_22 rfl (zh.ev rfl) zk) ?_
  refine WL.mv rfl rfl rfl rfl rfl (WL.nil (WE.next (WC.block ?_)))
  refine WC.loop (X := Nat) (fun p => l.length - p) (fun p => [(0, .slice a l.length c), (13, .bool ((decide ((64 : Int) < (((l.length : Nat) : Int) : Int))))), (14, .slice a l.length c), (15, .int .i64 (((l.length : Nat) : Int))), (16, .int .i64 (((p : Nat) : Int)))]) (fun p w2 => p ≤ l.length ∧ (∀ k, k < p → (prget l k).1.small 96 = true ∧ (prget l k).2.small 96 = true) ∧ Below w.heap.size w w2) 0 ⟨rfl, rfl, rfl, rfl, rfl, trivial⟩ ?_ ?_
  ·exact ⟨Nat.zero_le _, (fun k hk9 => absurd hk9 (Nat.not_lt_zero k)), (Below.refl _ _)⟩
  ·rintro p w2 ⟨hkp, hsm, hb3⟩
   refine WC.seq (WC.region ?_)
   refine WL.val (.bool ((decide ((((p : Nat) : Int) : Int) < (((l.length : Nat) : Int) : Int))))) rfl rfl rfl (fun za zC zh zk => lss_3 rfl (zh.ev rfl) (zh.ev rfl) zk) ?_
   refine WL.nil (WE.next (WC.seq ?_))
   refine WC.cond rfl (fun h4 => ?_) (fun h4 => ?_)
   ·have h4 : (((p : Nat) : Int) : Int) < (((l.length : Nat) : Int) : Int) := by simpa using h4
    refine WC.skip (WE.next (WC.seq (WC.block (WC.seq (WC.region ?_)))))
    obtain ⟨b5, o6, A7, C8, D9, E10, ha11, hc12⟩ := IsPs.open hl
    refine WL.val _ rfl rfl rfl (fun za zC zh zk => ix_22 (k := p) rfl (zh.ev rfl) (ha11 p (by first | omega | (simp; omega))) (zh.ev rfl) (by first | omega | (simp; omega)) zk) ?_
    refine WL.val _ rfl rfl rfl (fun za zC zh zk => ld_33 rfl (zh.ev rfl) (bkeeps hb3 _ _ (hc12 p (by first | omega | (simp; omega))).1) (bkeeps hb3 _ _ (hc12 p (by first | omega | (simp; omega))).2.1) (bkeeps hb3 _ _ (hc12 p (by first | omega | (simp; omega))).2.2.1) (bkeeps hb3 _ _ (hc12 p (by first | omega | (simp; omega))).2.2.2.1) zk) ?_
    refine WL.step (post := NewBlk w2 33 #[.int .i64 0, .slice none 0 0, .int .i64 0, .slice none 0 0]) rfl rfl rfl (fun za zC zh zk => alloc_33 rfl (zk _ _ (newBlk _ _ _))) ?_
    rintro _ w13 ⟨g14, rfl, hg15, hB16, hb17, hz18⟩
    have hl19 : w.heap.size ≤ g14 := by have z2 := (hb3).size; omega
    refine WL.step (post := fun _ w' => Upd g14 w13 w' ∧ Blk w' g14 33 #[.int .i64 ((prget l p).1.f), .slice ((A7 p)) ((prget l p).1.args.length) ((C8 p)), .int .i64 ((prget l p).2.f), .slice ((D9 p)) ((prget l p).2.args.length) ((E10 p))]) rfl rfl rfl (fun za zC zh zk => st_33 rfl (zh.ev rfl) (zh.ev rfl) rfl rfl rfl rfl hB16 (by first | decide | simp) (fun v => zk v _ ⟨(((Upd.at_ _ _ _ _).trans (Upd.at_ _ _ _ _)).trans (Upd.at_ _ _ _ _)).trans (Upd.at_ _ _ _ _), (((hB16.set_ 0 _).set_ 1 _).set_ 2 _).set_ 3 _⟩)) ?_
    rintro v23 w20 ⟨hu21, hB22⟩
    have hb24 : Below w.heap.size w w13 := (bstep hb3 hb17)
    have hb25 := upd_below hb24 hu21 (by omega)
    refine WL.nil (WE.next (WC.seq ?_))
    refine WC.opt [(true, .val (.pointer (some ⟨g14, 0, none⟩))), (true, .val (.agg #[.int .i64 ((prget l p).1.f), .slice ((A7 p)) ((prget l p).1.args.length) ((C8 p))])), (true, .val (.bool ((smallB 96 (prget l p).1)))), (true, .val (.bool ((!(smallB 96 (prget l p).1))))), (true, .val (.bool ((!(smallB 96 (prget l p).1))))), ((true && !(!(smallB 96 (prget l p).1))), .val (.pointer (some ⟨g14, 2, none⟩))), ((true && !(!(smallB 96 (prget l p).1))), .val (.agg #[.int .i64 ((prget l p).2.f), .slice ((D9 p)) ((prget l p).2.args.length) ((E10 p))])), ((true && !(!(smallB 96 (prget l p).1))), .val (.bool ((smallB 96 (prget l p).2)))), ((true && !(!(smallB 96 (prget l p).1))), .val (.bool ((!(smallB 96 (prget l p).2))))), (true, .val (.bool (((!(smallB 96 (prget l p).1)) || (!(smallB 96 (prget l p).2))))))] [(0, .slice a l.length c), (6, .pointer (some ⟨g14, 0, none⟩)), (13, .bool ((decide ((64 : Int) < (((l.length : Nat) : Int) : Int))))), (14, .slice a l.length c), (15, .int .i64 (((l.length : Nat) : Int))), (16, .int .i64 (((p : Nat) : Int))), (17, .bool ((decide ((((p : Nat) : Int) : Int) < (((l.length : Nat) : Int) : Int)))))] ⟨rfl, rfl, rfl, rfl, rfl, rfl, rfl, trivial⟩ (by kernel_rfl) (by kernel_rfl) (by kernel_rfl) ?_ ?_
    ·refine ⟨⟨true, .none rfl, fun h w => optUndef h, fun zβ za zw zc => ?_⟩, ?_⟩
     ·exact ixa_33 (k := 0) rfl (zc.kn.ev rfl) (zc.kn.ev rfl) (by decide) ⟨_, rfl, Below.refl _ _, optDef zβ rfl⟩
     refine ⟨⟨true, .none rfl, fun h w => optUndef h, fun zβ za zw zc => ?_⟩, ?_⟩
     ·exact ld_32 rfl ((evt za 20).trans (optVal (zc.dep 0 20 (by kernel_rfl)) rfl rfl)) (bkeeps zc.below _ _ ((hB22.cell 0).trans rfl)) (bkeeps zc.below _ _ ((hB22.cell 1).trans rfl)) ⟨_, rfl, Below.refl _ _, optDef zβ rfl⟩
     refine ⟨⟨true, .none rfl, fun h w => optUndef h, fun zβ za zw zc => ?_⟩, ?_⟩
     ·exact wp_call (by kernel_rfl) rfl (hv2 ((evt za 21).trans (optVal (zc.dep 1 21 (by kernel_rfl)) rfl rfl)) (zc.kn.ev rfl)) (tsmall_any ((prget l p).1) 96 (by omega) _ _ (IsT.below (bstep hb25 zc.below) (hc12 p (by first | omega | (simp; omega))).2.2.2.2.1)) (fun v w' h => ⟨v, rfl, h.2, optDef zβ h.1⟩)
     refine ⟨⟨true, .none rfl, fun h w => optUndef h, fun zβ za zw zc => ?_⟩, ?_⟩
     ·exact wp_not rfl ((evt za 22).trans (optVal (zc.dep 2 22 (by kernel_rfl)) rfl rfl)) ⟨_, rfl, Below.refl _ _, optDef zβ rfl⟩
     refine ⟨⟨true, .none rfl, fun h w => optUndef h, fun zβ za zw zc => ?_⟩, ?_⟩
     ·exact wp_move rfl ((evt za 23).trans (optVal (zc.dep 3 23 (by kernel_rfl)) rfl rfl)) ⟨_, rfl, Below.refl _ _, optDef zβ rfl⟩
     refine ⟨⟨_, .no (c := (!(smallB 96 (prget l p).1))) (d := true) rfl (fun v w h => h), fun h w => optUndef h, fun zβ za zw zc => ?_⟩, ?_⟩
     ·exact ixa_33 (k := 1) rfl (zc.kn.ev rfl) (zc.kn.ev rfl) (by decide) ⟨_, rfl, Below.refl _ _, optDef zβ rfl⟩
     refine ⟨⟨_, .no (c := (!(smallB 96 (prget l p).1))) (d := true) rfl (fun v w h => h), fun h w => optUndef h, fun zβ za zw zc => ?_⟩, ?_⟩
     ·exact ld_32 rfl ((evt za 25).trans (optVal (zc.dep 5 25 (by kernel_rfl)) rfl zβ)) (bkeeps zc.below _ _ ((hB22.cell 2).trans rfl)) (bkeeps zc.below _ _ ((hB22.cell 3).trans rfl)) ⟨_, rfl, Below.refl _ _, optDef zβ rfl⟩
     refine ⟨⟨_, .no (c := (!(smallB 96 (prget l p).1))) (d := true) rfl (fun v w h => h), fun h w => optUndef h, fun zβ za zw zc => ?_⟩, ?_⟩
     ·exact wp_call (by kernel_rfl) rfl (hv2 ((evt za 26).trans (optVal (zc.dep 6 26 (by kernel_rfl)) rfl zβ)) (zc.kn.ev rfl)) (tsmall_any ((prget l p).2) 96 (by omega) _ _ (IsT.below (bstep hb25 zc.below) (hc12 p (by first | omega | (have zz := zβ; simp only [Bool.and_eq_true, Bool.or_eq_true, Bool.true_and, Bool.not_eq_true', Bool.or_eq_false_iff, Bool.and_eq_false_iff, beq_eq_false_iff_ne, ne_eq, beq_iff_eq, decide_eq_true_eq, decide_eq_false_iff_not, bne_iff_ne, bne_eq_false_iff_eq] at zz; omega))).2.2.2.2.2)) (fun v w' h => ⟨v, rfl, h.2, optDef zβ h.1⟩)
     refine ⟨⟨_, .no (c := (!(smallB 96 (prget l p).1))) (d := true) rfl (fun v w h => h), fun h w => optUndef h, fun zβ za zw zc => ?_⟩, ?_⟩
     ·exact wp_not rfl ((evt za 27).trans (optVal (zc.dep 7 27 (by kernel_rfl)) rfl zβ)) ⟨_, rfl, Below.refl _ _, optDef zβ rfl⟩
     refine ⟨⟨true, .none rfl, fun h w => optUndef h, fun zβ za zw zc => ?_⟩, ?_⟩
     ·exact wp_or rfl ((evt za 24).trans (optVal (zc.dep 4 24 (by kernel_rfl)) rfl rfl)) (fun hp => ((evt za 28).trans (optVal (zc.dep 8 28 (by kernel_rfl)) rfl (bMkN zβ hp)))) ⟨_, rfl, Below.refl _ _, optDef zβ rfl⟩
     exact trivial
    ·intro za w28 zh hb29 zu
     have zh := zh.cons (d := 29) (v := .bool (((!(smallB 96 (prget l p).1)) || (!(smallB 96 (prget l p).2))))) (optVal (zu 9 29 (by kernel_rfl)) rfl rfl)
     clear zu
     refine WE.go zh ?_
     refine WE.next ?_
     refine WC.cond rfl (fun h30 => ?_) (fun h30 => ?_)
     ·have h30 : (¬ ((smallB 96 (prget l p).1) = true)) ∨ (¬ ((smallB 96 (prget l p).2) = true)) := by simpa using h30
      have hbg : ¬ ((prget l p).1.small 96 = true ∧ (prget l p).2.small 96 = true) := fun q => by
       rw [smallB_small, smallB_small, q.1, q.2] at h30; simp at h30
      refine WC.seq (WC.region (WL.asg rfl rfl rfl rfl rfl (WL.asg rfl rfl rfl rfl rfl (WL.asg rfl rfl rfl rfl rfl (WL.nil (WE.next (WC.ret (WE.blockRet (WE.thenRet (WE.thenRet (WE.blockRet (WE.thenRet ?_))))))))))))
      refine WE.retAny (v := .tuple #[.pointer none, .slice none 0 0, .int .i64 2]) (fun za zh => ?_) ?_
      ·have z0 : za.tmps[2]?.getD undef = .pointer none := by rw [← Array.getD_eq_getD_getElem?]; exact zh.knows 2 _ rfl
       have z1 : za.tmps[3]?.getD undef = .slice none 0 0 := by rw [← Array.getD_eq_getD_getElem?]; exact zh.knows 3 _ rfl
       have z2 : za.tmps[4]?.getD undef = .int .i64 2 := by rw [← Array.getD_eq_getD_getElem?]; exact zh.knows 4 _ rfl
       simp [results, Try.results24, z0, z1, z2, go_sem]
      ·have hb31 : Below w.heap.size w w28 := (bstep hb25 hb29)
       exact ⟨_, rfl, .inl ⟨wide_no (by omega) hbg, rfl⟩, hb31⟩
     ·have h30 : ¬ ((¬ ((smallB 96 (prget l p).1) = true)) ∨ (¬ ((smallB 96 (prget l p).2) = true))) := by simpa using h30
      have hsx : (prget l p).1.small 96 = true ∧ (prget l p).2.small 96 = true := by
       rw [smallB_small, smallB_small] at h30; simpa using h30
      refine WC.skip (WE.blockNormal (WE.next (WC.region ?_)))
      refine WL.val (.int .i64 ((((p + 1) : Nat) : Int))) rfl rfl rfl (fun za zC zh zk => addb_3 rfl (zh.ev rfl) (zh.ev rfl) (wrap_eq (by omega) (by omega) (by omega)) zk) ?_
      refine WL.mv rfl rfl rfl rfl rfl (WL.nil ?_)
      refine WE.round (p + 1) ⟨rfl, rfl, rfl, rfl, rfl, trivial⟩ ?_ ?_
      ·have hb32 : Below w.heap.size w w28 := (bstep hb25 hb29)
       exact ⟨(by omega), (fun k hk9 => by rcases Nat.lt_succ_iff_lt_or_eq.1 hk9 with z | z; exact hsm k z; (rw [z]; exact hsx)), hb32⟩
      ·omega
   ·have h4 : ¬ ((((p : Nat) : Int) : Int) < (((l.length : Nat) : Int) : Int)) := by simpa using h4
    refine WC.exit (WE.thenExit (WE.thenExit (WE.blockIs rfl (WE.next (WC.seq (WC.region ?_))))))
    refine WL.val (.agg net0) rfl rfl rfl (fun za zC zh zk => build_net rfl zk) ?_
    refine WL.step (post := fun v w' => ∃ g, v = .pointer (some ⟨g, 0, none⟩) ∧ w2.heap.size = g ∧ Blk w' g 54 net0 ∧ Below w2.heap.size w2 w') rfl rfl rfl (fun za zC zh zk => box_net rfl (zh.ev rfl) (zk _ _ ⟨_, rfl, rfl, Blk.new' rfl, balloc _ _⟩)) ?_
    rintro _ w33 ⟨g34, rfl, hg35, hB36, hb37⟩
    have hl39 : w.heap.size ≤ g34 := by have z2 := (hb3).size; omega
    have hgw : w.heap.size ≤ g34 := by have z := (hb3).size; omega
    have hN38 : NetS w33 w.heap.size g34 id [] (fun _ => 0) (fun _ => False) := ⟨fun b => b = g34, [], fun _ => 0, fun b e => ⟨by rw [show b = g34 from e]; exact hgw, id⟩, reps0, NetX.new hB36⟩
    refine WL.asg rfl rfl rfl rfl rfl (WL.nil (WE.next (WC.seq (WC.seq (WC.region (WL.mv rfl rfl rfl rfl rfl ?_))))))
    refine WL.val (.int .i64 (((l.length : Nat) : Int))) rfl rfl rfl (fun za zC zh zk => len_22 rfl (zh.ev rfl) zk) ?_
    refine WL.mv rfl rfl rfl rfl rfl (WL.nil (WE.next (WC.block ?_)))
    have hwd : ∀ k, k < l.length → (prget l k).1.small 96 = true ∧ (prget l k).2.small 96 = true := fun k hk9 => hsm k (by omega)
    have hWl : wideB l = true := (wide_at h64).2 hwd
    refine WC.loop (X := SS) (fun x => l.length - x.k) (fun x => [(0, .slice a l.length c), (7, .pointer (some ⟨g34, 0, none⟩)), (13, .bool ((decide ((64 : Int) < (((l.length : Nat) : Int) : Int))))), (14, .slice a l.length c), (15, .int .i64 (((l.length : Nat) : Int))), (16, .int .i64 (((p : Nat) : Int))), (17, .bool ((decide ((((p : Nat) : Int) : Int) < (((l.length : Nat) : Int) : Int))))), (34, .int .i64 (((l.length : Nat) : Int))), (35, .int .i64 (((x.k : Nat) : Int)))]) (fun x w40 => x.k ≤ l.length ∧ SolveGo true l x.k x.st x.κ ∧ Below w.heap.size w w40 ∧ NetS (w40) w.heap.size g34 x.κ x.st.N x.st.V (fun _ => False)) (⟨0, ⟨[], fun _ => 0⟩, id⟩) ⟨rfl, rfl, rfl, rfl, rfl, rfl, rfl, rfl, rfl, trivial⟩ ?_ ?_
    ·have hb41 : Below w.heap.size w w33 := (bstep hb3 hb37)
     exact ⟨Nat.zero_le _, SolveGo.start true l, hb41, hN38⟩
    ·rintro x w40 ⟨hkx, hgo, hb42, ho43⟩
     refine WC.seq (WC.region ?_)
     refine WL.val (.bool ((decide ((((x.k : Nat) : Int) : Int) < (((l.length : Nat) : Int) : Int))))) rfl rfl rfl (fun za zC zh zk => lss_3 rfl (zh.ev rfl) (zh.ev rfl) zk) ?_
     refine WL.nil (WE.next (WC.seq ?_))
     refine WC.cond rfl (fun h44 => ?_) (fun h44 => ?_)
     ·have h44 : (((x.k : Nat) : Int) : Int) < (((l.length : Nat) : Int) : Int) := by simpa using h44
      refine WC.skip (WE.next (WC.seq (WC.block (WC.seq (WC.region (WL.mv rfl rfl rfl rfl rfl (WL.asg rfl rfl rfl rfl rfl (WL.nil (WE.next (WC.seq ?_))))))))))
      obtain ⟨b45, o46, A47, C48, D49, E50, ha51, hc52⟩ := IsPs.open hl
      have hkl : x.k < l.length := by omega
      obtain ⟨hs1, hs2⟩ := hwd x.k hkl
      obtain ⟨hz1, hw1⟩ := small_low hs1
      obtain ⟨hz2, hw2⟩ := small_low hs2
      have hput := hgo.put hkl hz1 hz2 (IsT.sy (hc52 x.k (by first | omega | (simp; omega))).2.2.2.2.1) (IsT.sy (hc52 x.k (by first | omega | (simp; omega))).2.2.2.2.2)
      have hl0 := hgo.len
      have hl1 := hput.len1
      have hl2 := hput.len2
      have hg2 := hput.arg2
      have hle1 := hput.le
      have hb53 : Below w.heap.size w w40 := hb42
      have hsz9 := hb53.size
      have hGV9 : ∀ (vals : List Value) (wa wb : World), Below wa.heap.size wa wb → (fun vals wz => match vals with | [] => NetS wz w.heap.size g34 x.κ x.st.N x.st.V (fun _ => False) | [_] => NetS wz w.heap.size g34 x.κ (((prget l x.k).1.put x.st).1.N) (((prget l x.k).1.put x.st).1.V) (fun _ => False) | [_, _] => NetS wz w.heap.size g34 x.κ (((prget l x.k).2.put ((prget l x.k).1.put x.st).1).1.N) (((prget l x.k).2.put ((prget l x.k).1.put x.st).1).1.V) (fun _ => False) | [_, _, z2] => ∃ oo, Run true ((prget l x.k).2.put ((prget l x.k).1.put x.st).1).1.N [(((prget l x.k).1.put x.st).2, ((prget l x.k).2.put ((prget l x.k).1.put x.st).1).2)] x.κ oo ∧ z2 = .bool oo.isSome ∧ ∀ κ9, oo = some κ9 → NetS wz w.heap.size g34 κ9 (((prget l x.k).2.put ((prget l x.k).1.put x.st).1).1.N) (((prget l x.k).2.put ((prget l x.k).1.put x.st).1).1.V) (fun _ => False) | [_, _, _, z3] => ∃ oo, Run true ((prget l x.k).2.put ((prget l x.k).1.put x.st).1).1.N [(((prget l x.k).1.put x.st).2, ((prget l x.k).2.put ((prget l x.k).1.put x.st).1).2)] x.κ oo ∧ z3 = .bool (!oo.isSome) ∧ ∀ κ9, oo = some κ9 → NetS wz w.heap.size g34 κ9 (((prget l x.k).2.put ((prget l x.k).1.put x.st).1).1.N) (((prget l x.k).2.put ((prget l x.k).1.put x.st).1).1.V) (fun _ => False) | _ => False) vals wa → (fun vals wz => match vals with | [] => NetS wz w.heap.size g34 x.κ x.st.N x.st.V (fun _ => False) | [_] => NetS wz w.heap.size g34 x.κ (((prget l x.k).1.put x.st).1.N) (((prget l x.k).1.put x.st).1.V) (fun _ => False) | [_, _] => NetS wz w.heap.size g34 x.κ (((prget l x.k).2.put ((prget l x.k).1.put x.st).1).1.N) (((prget l x.k).2.put ((prget l x.k).1.put x.st).1).1.V) (fun _ => False) | [_, _, z2] => ∃ oo, Run true ((prget l x.k).2.put ((prget l x.k).1.put x.st).1).1.N [(((prget l x.k).1.put x.st).2, ((prget l x.k).2.put ((prget l x.k).1.put x.st).1).2)] x.κ oo ∧ z2 = .bool oo.isSome ∧ ∀ κ9, oo = some κ9 → NetS wz w.heap.size g34 κ9 (((prget l x.k).2.put ((prget l x.k).1.put x.st).1).1.N) (((prget l x.k).2.put ((prget l x.k).1.put x.st).1).1.V) (fun _ => False) | [_, _, _, z3] => ∃ oo, Run true ((prget l x.k).2.put ((prget l x.k).1.put x.st).1).1.N [(((prget l x.k).1.put x.st).2, ((prget l x.k).2.put ((prget l x.k).1.put x.st).1).2)] x.κ oo ∧ z3 = .bool (!oo.isSome) ∧ ∀ κ9, oo = some κ9 → NetS wz w.heap.size g34 κ9 (((prget l x.k).2.put ((prget l x.k).1.put x.st).1).1.N) (((prget l x.k).2.put ((prget l x.k).1.put x.st).1).1.V) (fun _ => False) | _ => False) vals wb := by
       intro vals wa wb hb h
       match vals, h with
       | [], h => exact NetS.below h hb
       | [_], h => exact NetS.below h hb
       | [_, _], h => exact NetS.below h hb
       | [_, _, z2], h =>
        obtain ⟨oo, k1, k2, k3⟩ := h
        exact ⟨oo, k1, k2, fun κ9 e => (k3 κ9 e).below hb⟩
       | [_, _, _, z3], h =>
        obtain ⟨oo, k1, k2, k3⟩ := h
        exact ⟨oo, k1, k2, fun κ9 e => (k3 κ9 e).below hb⟩
      refine WC.seqV (S := ((fun b => w.heap.size ≤ b))) [(true, .val (.pointer (some ⟨g34, 0, none⟩))), (true, .val (.pointer (some ⟨g34, 0, none⟩))), (true, .val (.slice a l.length c)), (true, .val (.int .i64 (((x.k : Nat) : Int)))), (true, .val (.pointer (some ⟨b45, o46 + x.k * 4, none⟩))), (true, .val (.pointer (some ⟨b45, o46 + x.k * 4, none⟩))), (true, .val undef), (true, .val (.pointer (some ⟨g34, 0, none⟩))), (true, .val (.slice a l.length c)), (true, .val (.int .i64 (((x.k : Nat) : Int)))), (true, .val (.pointer (some ⟨b45, o46 + x.k * 4, none⟩))), (true, .val (.pointer (some ⟨b45, o46 + x.k * 4 + 2, none⟩))), (true, .val undef), (true, .val undef), (true, .val undef)] [(0, .slice a l.length c), (7, .pointer (some ⟨g34, 0, none⟩)), (8, .int .i64 (((x.k : Nat) : Int))), (13, .bool ((decide ((64 : Int) < (((l.length : Nat) : Int) : Int))))), (14, .slice a l.length c), (15, .int .i64 (((l.length : Nat) : Int))), (16, .int .i64 (((p : Nat) : Int))), (17, .bool ((decide ((((p : Nat) : Int) : Int) < (((l.length : Nat) : Int) : Int))))), (34, .int .i64 (((l.length : Nat) : Int))), (35, .int .i64 (((x.k : Nat) : Int))), (36, .bool ((decide ((((x.k : Nat) : Int) : Int) < (((l.length : Nat) : Int) : Int)))))] [6, 12, 13, 14] [some (true, .int .i64 (((((prget l x.k).1.put x.st).2 : Nat) : Int))), some (true, .int .i64 (((((prget l x.k).2.put ((prget l x.k).1.put x.st).1).2 : Nat) : Int))), none, none] (fun vals wz => match vals with | [] => NetS wz w.heap.size g34 x.κ x.st.N x.st.V (fun _ => False) | [_] => NetS wz w.heap.size g34 x.κ (((prget l x.k).1.put x.st).1.N) (((prget l x.k).1.put x.st).1.V) (fun _ => False) | [_, _] => NetS wz w.heap.size g34 x.κ (((prget l x.k).2.put ((prget l x.k).1.put x.st).1).1.N) (((prget l x.k).2.put ((prget l x.k).1.put x.st).1).1.V) (fun _ => False) | [_, _, z2] => ∃ oo, Run true ((prget l x.k).2.put ((prget l x.k).1.put x.st).1).1.N [(((prget l x.k).1.put x.st).2, ((prget l x.k).2.put ((prget l x.k).1.put x.st).1).2)] x.κ oo ∧ z2 = .bool oo.isSome ∧ ∀ κ9, oo = some κ9 → NetS wz w.heap.size g34 κ9 (((prget l x.k).2.put ((prget l x.k).1.put x.st).1).1.N) (((prget l x.k).2.put ((prget l x.k).1.put x.st).1).1.V) (fun _ => False) | [_, _, _, z3] => ∃ oo, Run true ((prget l x.k).2.put ((prget l x.k).1.put x.st).1).1.N [(((prget l x.k).1.put x.st).2, ((prget l x.k).2.put ((prget l x.k).1.put x.st).1).2)] x.κ oo ∧ z3 = .bool (!oo.isSome) ∧ ∀ κ9, oo = some κ9 → NetS wz w.heap.size g34 κ9 (((prget l x.k).2.put ((prget l x.k).1.put x.st).1).1.N) (((prget l x.k).2.put ((prget l x.k).1.put x.st).1).1.V) (fun _ => False) | _ => False) hGV9 (by decide) ⟨rfl, rfl, rfl, rfl, rfl, rfl, rfl, rfl, rfl, rfl, rfl, trivial⟩ (by kernel_rfl) (by kernel_rfl) (by kernel_rfl) (by kernel_rfl) ho43 ?_ ?_
      ·refine ⟨.inl ⟨rfl, true, .none rfl, (fun gg b h => by cases h), fun h w => optUndef h, fun zβ za zw zc => ?_⟩, ?_⟩
       ·exact wp_move rfl (zc.kn.ev rfl) ⟨_, rfl, Below.refl _ _, optDef zβ rfl⟩
       refine ⟨.inl ⟨rfl, true, .none rfl, (fun gg b h => by cases h), fun h w => optUndef h, fun zβ za zw zc => ?_⟩, ?_⟩
       ·exact wp_move rfl (zc.kn.ev rfl) ⟨_, rfl, Below.refl _ _, optDef zβ rfl⟩
       refine ⟨.inl ⟨rfl, true, .none rfl, (fun gg b h => by cases h), fun h w => optUndef h, fun zβ za zw zc => ?_⟩, ?_⟩
       ·exact wp_move rfl (zc.kn.ev rfl) ⟨_, rfl, Below.refl _ _, optDef zβ rfl⟩
       refine ⟨.inl ⟨rfl, true, .none rfl, (fun gg b h => by cases h), fun h w => optUndef h, fun zβ za zw zc => ?_⟩, ?_⟩
       ·exact wp_move rfl (zc.kn.ev rfl) ⟨_, rfl, Below.refl _ _, optDef zβ rfl⟩
       refine ⟨.inl ⟨rfl, true, .none rfl, (fun gg b h => by cases h), fun h w => optUndef h, fun zβ za zw zc => ?_⟩, ?_⟩
       ·exact ix_22 (k := x.k) rfl ((evt za 40).trans (optSVal (zc.dep 2 40 (by kernel_rfl) (by decide)) rfl rfl)) (ha51 x.k (by first | omega | (simp; omega))) ((evt za 41).trans (optSVal (zc.dep 3 41 (by kernel_rfl) (by decide)) rfl rfl)) (by first | omega | (simp; omega)) ⟨_, rfl, Below.refl _ _, optDef zβ rfl⟩
       refine ⟨.inl ⟨rfl, true, .none rfl, (fun gg b h => by cases h), fun h w => optUndef h, fun zβ za zw zc => ?_⟩, ?_⟩
       ·exact ixa_33 (k := 0) rfl ((evt za 42).trans (optSVal (zc.dep 4 42 (by kernel_rfl) (by decide)) rfl rfl)) (zc.kn.ev rfl) (by decide) ⟨_, rfl, Below.refl _ _, optDef zβ rfl⟩
       refine ⟨.inr ⟨0, rfl, by kernel_rfl, true, .none rfl, (fun gg b h => by cases h), (fun h => (nomatch h)), fun zβ za zw zvals zc => ?_⟩, ?_⟩
       ·obtain rfl := vlen0 zc.len
        have zn := zc.now
        obtain ⟨Z, U, d, k1, k2, k3⟩ := zn
        have hbz := chg_below hb53 zc.chg (fun b hb h9 => by (try dsimp only at h9); omega)
        exact wp_call (by kernel_rfl) rfl (hv2 ((evt za 39).trans (optSVal (zc.dep 1 39 (by kernel_rfl) (by decide)) rfl rfl)) ((evt za 43).trans (optSVal (zc.dep 5 43 (by kernel_rfl) (by decide)) rfl rfl))) (pput_any w x.κ d g34 (prget l x.k).1 x.st U Z _ b45 (o46 + x.k * 4) _ _ hgo.ok k3 k2 hgo.cl.ok.big (by omega) hw1 hbz (fun b q => (k1 b q).1) (hc52 x.k (by first | omega | (simp; omega))).1 (hc52 x.k (by first | omega | (simp; omega))).2.1 (hc52 x.k (by first | omega | (simp; omega))).2.2.2.2.1) (fun v w' h => by obtain ⟨m1, ⟨U2, Z2, m2, m3, m4, _⟩, m6⟩ := h; exact ⟨v, rfl, m6.mono (fun b q => (k1 b q).1), ⟨Z2, U2, d, fun b q => ⟨by rcases m4 b q with z | z; exact (k1 b z).1; (have z2 := hbz.size; omega), id⟩, m2, m3⟩, cvIs m1⟩)
       refine ⟨.inl ⟨rfl, true, .none rfl, (fun gg b h => by cases h), fun h w => optUndef h, fun zβ za zw zc => ?_⟩, ?_⟩
       ·exact wp_move rfl (zc.kn.ev rfl) ⟨_, rfl, Below.refl _ _, optDef zβ rfl⟩
       refine ⟨.inl ⟨rfl, true, .none rfl, (fun gg b h => by cases h), fun h w => optUndef h, fun zβ za zw zc => ?_⟩, ?_⟩
       ·exact wp_move rfl (zc.kn.ev rfl) ⟨_, rfl, Below.refl _ _, optDef zβ rfl⟩
       refine ⟨.inl ⟨rfl, true, .none rfl, (fun gg b h => by cases h), fun h w => optUndef h, fun zβ za zw zc => ?_⟩, ?_⟩
       ·exact wp_move rfl (zc.kn.ev rfl) ⟨_, rfl, Below.refl _ _, optDef zβ rfl⟩
       refine ⟨.inl ⟨rfl, true, .none rfl, (fun gg b h => by cases h), fun h w => optUndef h, fun zβ za zw zc => ?_⟩, ?_⟩
       ·exact ix_22 (k := x.k) rfl ((evt za 46).trans (optSVal (zc.dep 8 46 (by kernel_rfl) (by decide)) rfl rfl)) (ha51 x.k (by first | omega | (simp; omega))) ((evt za 47).trans (optSVal (zc.dep 9 47 (by kernel_rfl) (by decide)) rfl rfl)) (by first | omega | (simp; omega)) ⟨_, rfl, Below.refl _ _, optDef zβ rfl⟩
       refine ⟨.inl ⟨rfl, true, .none rfl, (fun gg b h => by cases h), fun h w => optUndef h, fun zβ za zw zc => ?_⟩, ?_⟩
       ·exact ixa_33 (k := 1) rfl ((evt za 48).trans (optSVal (zc.dep 10 48 (by kernel_rfl) (by decide)) rfl rfl)) (zc.kn.ev rfl) (by decide) ⟨_, rfl, Below.refl _ _, optDef zβ rfl⟩
       refine ⟨.inr ⟨1, rfl, by kernel_rfl, true, .none rfl, (fun gg b h => by cases h), (fun h => (nomatch h)), fun zβ za zw zvals zc => ?_⟩, ?_⟩
       ·obtain ⟨z0, rfl⟩ := vlen1 zc.len
        have zn := zc.now
        obtain ⟨Z, U, d, k1, k2, k3⟩ := zn
        have hbz := chg_below hb53 zc.chg (fun b hb h9 => by (try dsimp only at h9); omega)
        exact wp_call (by kernel_rfl) rfl (hv2 ((evt za 45).trans (optSVal (zc.dep 7 45 (by kernel_rfl) (by decide)) rfl rfl)) ((evt za 49).trans (optSVal (zc.dep 11 49 (by kernel_rfl) (by decide)) rfl rfl))) (pput_any w x.κ d g34 (prget l x.k).2 ((prget l x.k).1.put x.st).1 U Z _ b45 (o46 + x.k * 4 + 2) _ _ hput.ok1 k3 k2 (fun i hi9 => hgo.cl.ok.big i (by omega)) (by omega) hw2 hbz (fun b q => (k1 b q).1) (hc52 x.k (by first | omega | (simp; omega))).2.2.1 (hc52 x.k (by first | omega | (simp; omega))).2.2.2.1 (hc52 x.k (by first | omega | (simp; omega))).2.2.2.2.2) (fun v w' h => by obtain ⟨m1, ⟨U2, Z2, m2, m3, m4, _⟩, m6⟩ := h; exact ⟨v, rfl, m6.mono (fun b q => (k1 b q).1), ⟨Z2, U2, d, fun b q => ⟨by rcases m4 b q with z | z; exact (k1 b z).1; (have z2 := hbz.size; omega), id⟩, m2, m3⟩, cvIs m1⟩)
       refine ⟨.inr ⟨2, rfl, by kernel_rfl, true, .none rfl, (fun gg b h => by cases h), (fun h => (nomatch h)), fun zβ za zw zvals zc => ?_⟩, ?_⟩
       ·obtain ⟨z0, z1, rfl⟩ := vlen2 zc.len
        have zn := zc.now
        obtain ⟨Z, U, d, k1, k2, k3⟩ := zn
        exact wp_call (by kernel_rfl) rfl (hv3 ((evt za 38).trans (optSVal (zc.dep 0 38 (by kernel_rfl) (by decide)) rfl rfl)) ((evt za 44).trans (zc.link 0 6 44 _ _ rfl (by kernel_rfl) rfl rfl)) ((evt za 50).trans (zc.link 1 12 50 _ _ rfl (by kernel_rfl) rfl rfl))) (pjoin_any x.κ d U ((prget l x.k).2.put ((prget l x.k).1.put x.st).1).1.N ((prget l x.k).2.put ((prget l x.k).1.put x.st).1).1.V g34 Z ((prget l x.k).1.put x.st).2 ((prget l x.k).2.put ((prget l x.k).1.put x.st).1).2 _ k3 k2 hput.cl.ok hput.ok2.args hput.hi hput.hj (by omega) (by omega)) (fun v w' h => by obtain ⟨oo, m1, m2, m3, m4⟩ := h; exact ⟨v, rfl, m3.mono (fun b q => (k1 b q).1), ⟨oo, m1, m2, fun κ9 e => by obtain ⟨U9, d9, m5, m6⟩ := m4 κ9 e; exact ⟨Z, U9, d9, k1, m5, m6⟩⟩, cvNo⟩)
       refine ⟨.inr ⟨3, rfl, by kernel_rfl, true, .none rfl, (fun gg b h => by cases h), (fun h => (nomatch h)), fun zβ za zw zvals zc => ?_⟩, ?_⟩
       ·obtain ⟨z0, z1, z2, rfl⟩ := vlen3 zc.len
        have zn := zc.now
        obtain ⟨oo, k1, e, k2⟩ := zn
        have e0 : z2 = za.tmps.getD 51 undef := Option.some.inj (zc.val 2 13 51 rfl (by kernel_rfl))
        exact wp_not rfl ((evt za 51).trans (e0.symm.trans e)) ⟨_, rfl, .ofBelow (Below.refl _ _), ⟨oo, k1, rfl, k2⟩, cvNo⟩
       exact trivial
      ·intro za w54 zvals zh zl hG55 hc56 zu zw zk
       obtain ⟨z0, z1, z2, z3, rfl⟩ := vlen4 zl
       obtain ⟨oo, hrun, e9, hNo⟩ := hG55
       have zh := zh.cons (d := 52) (v := .bool (!oo.isSome)) ((Option.some.inj (zw 3 14 52 rfl (by kernel_rfl))).symm.trans e9)
       have hb57 := chg_below hb53 hc56 (fun b hb h9 => by (try dsimp only at h9); omega)
       clear zu zw zk
       refine WE.go zh ?_
       refine WE.next ?_
       refine WC.cond rfl (fun h58 => ?_) (fun h58 => ?_)
       ·skip
        have hoo : oo = none := by cases oo with | none => rfl | some q => simp at h58
        refine WC.seq (WC.region (WL.asg rfl rfl rfl rfl rfl (WL.asg rfl rfl rfl rfl rfl (WL.asg rfl rfl rfl rfl rfl (WL.nil (WE.next (WC.ret (WE.blockRet (WE.thenRet (WE.thenRet (WE.blockRet (WE.thenRet ?_))))))))))))
        refine WE.retAny (v := .tuple #[.pointer none, .slice none 0 0, .int .i64 4]) (fun za zh => ?_) ?_
        ·have z0 : za.tmps[2]?.getD undef = .pointer none := by rw [← Array.getD_eq_getD_getElem?]; exact zh.knows 2 _ rfl
         have z1 : za.tmps[3]?.getD undef = .slice none 0 0 := by rw [← Array.getD_eq_getD_getElem?]; exact zh.knows 3 _ rfl
         have z2 : za.tmps[4]?.getD undef = .int .i64 4 := by rw [← Array.getD_eq_getD_getElem?]; exact zh.knows 4 _ rfl
         simp [results, Try.results24, z0, z1, z2, go_sem]
        ·exact ⟨_, rfl, .inr (.inl ⟨hWl, .clash (hput.no (by rw [← hoo]; exact hrun)), rfl⟩), hb57⟩
       ·skip
        obtain ⟨κ9, rfl⟩ : ∃ q, oo = some q := by cases oo with | none => simp at h58 | some q => exact ⟨q, rfl⟩
        have hN9 := hNo κ9 rfl
        have hgo9 := hput.yes κ9 hrun
        refine WC.skip (WE.blockNormal (WE.next (WC.region ?_)))
        refine WL.val (.int .i64 ((((x.k + 1) : Nat) : Int))) rfl rfl rfl (fun za zC zh zk => addb_3 rfl (zh.ev rfl) (zh.ev rfl) (wrap_eq (by omega) (by omega) (by omega)) zk) ?_
        refine WL.mv rfl rfl rfl rfl rfl (WL.nil ?_)
        refine WE.round (⟨x.k + 1, ((prget l x.k).2.put ((prget l x.k).1.put x.st).1).1, κ9⟩) ⟨rfl, rfl, rfl, rfl, rfl, rfl, rfl, rfl, rfl, trivial⟩ ?_ ?_
        ·exact ⟨(by (try dsimp only); omega), hgo9, hb57, hN9⟩
        ·(try dsimp only); omega
     ·have h44 : ¬ ((((x.k : Nat) : Int) : Int) < (((l.length : Nat) : Int) : Int)) := by simpa using h44
      refine WC.exit (WE.thenExit (WE.thenExit (WE.blockIs rfl (WE.next (WC.seq ?_)))))
      have hxk : x.k = l.length := by omega
      have hln := hgo.len
      have hag := hgo.arg
      obtain ⟨Z9, U9, d9, hZ9, hR9, S9, ua9, uc9, oa9, oc9, hP9, hPZ9, hZl9⟩ := id ho43
      refine WC.region (WL.mv rfl rfl rfl rfl rfl ?_)
      refine WL.val _ rfl rfl rfl (fun za zC zh zk => nilCheck_ rfl (zh.ev rfl) zk) ?_
      refine WL.val _ rfl rfl rfl (fun za zC zh zk => fld_54_0 rfl (zh.ev rfl) zk) ?_
      refine WL.val _ rfl rfl rfl (fun za zC zh zk => fld_51_0 rfl (zh.ev rfl) zk) ?_
      refine WL.val _ rfl rfl rfl (fun za zC zh zk => ld_48 rfl (zh.ev rfl) hP9.c0 zk) ?_
      refine WL.val (.int .i64 (((x.st.N.length : Nat) : Int))) rfl rfl rfl (fun za zC zh zk => len_48 rfl (zh.ev rfl) zk) ?_
      refine WL.step (post := fun v w' => ∃ g, v = .slice (some ⟨g, 0, none⟩) x.st.N.length x.st.N.length ∧ w40.heap.size = g ∧ Blk w' g 59 (madeCells (Value.cells (.agg #[.int .i64 0, .int .i64 0, .bool false])) (x.st.N.length * 3)) ∧ Below w40.heap.size w40 w') rfl rfl rfl (fun za zC zh zk => wp_mkE (z := .agg #[.int .i64 0, .int .i64 0, .bool false]) (size := 3) (bytes := 24) Try.underlying45 (by kernel_rfl) (by decide) rfl (zh.ev rfl) (zh.ev rfl) (by omega) (zk _ _ ⟨_, rfl, rfl, Blk.new' rfl, balloc _ _⟩)) ?_
      rintro _ w59 ⟨g60, rfl, hg61, hB62, hb63⟩
      have hmbw : w.heap.size ≤ g60 := by have z := (hb42).size; omega
      have hN65 : NetS w59 w.heap.size g34 x.κ x.st.N x.st.V (fun b => b = g60) := ⟨Z9, U9, d9, fun b q => ⟨(hZ9 b q).1, fun e => by have z := hZl9 b q; (try dsimp only at e); omega⟩, hR9, NetX.below ⟨S9, ua9, uc9, oa9, oc9, hP9, hPZ9, hZl9⟩ hb63⟩
      have hM64 := MB.made hB62
      refine WL.asg rfl rfl rfl rfl rfl (WL.nil (WE.next (WC.seq (WC.seq ?_))))
      obtain ⟨Z9, U9, d9, hZ9, hR9, S9, ua9, uc9, oa9, oc9, hP9, hPZ9, hZl9⟩ := id hN65
      refine WC.region (WL.mv rfl rfl rfl rfl rfl ?_)
      refine WL.val _ rfl rfl rfl (fun za zC zh zk => nilCheck_ rfl (zh.ev rfl) zk) ?_
      refine WL.val _ rfl rfl rfl (fun za zC zh zk => fld_54_0 rfl (zh.ev rfl) zk) ?_
      refine WL.val _ rfl rfl rfl (fun za zC zh zk => fld_51_0 rfl (zh.ev rfl) zk) ?_
      refine WL.val _ rfl rfl rfl (fun za zC zh zk => ld_48 rfl (zh.ev rfl) hP9.c0 zk) ?_
      refine WL.val (.int .i64 (((x.st.N.length : Nat) : Int))) rfl rfl rfl (fun za zC zh zk => len_48 rfl (zh.ev rfl) zk) ?_
      refine WL.mv rfl rfl rfl rfl rfl (WL.nil (WE.next (WC.block ?_)))
      refine WC.loop (X := AS) (fun y => x.st.N.length - y.k) (fun y => [(0, .slice a l.length c), (7, .pointer (some ⟨g34, 0, none⟩)), (9, .slice ((some ⟨g60, 0, none⟩)) x.st.N.length x.st.N.length), (13, .bool ((decide ((64 : Int) < (((l.length : Nat) : Int) : Int))))), (14, .slice a l.length c), (15, .int .i64 (((l.length : Nat) : Int))), (16, .int .i64 (((p : Nat) : Int))), (17, .bool ((decide ((((p : Nat) : Int) : Int) < (((l.length : Nat) : Int) : Int))))), (34, .int .i64 (((l.length : Nat) : Int))), (35, .int .i64 (((x.k : Nat) : Int))), (36, .bool ((decide ((((x.k : Nat) : Int) : Int) < (((l.length : Nat) : Int) : Int))))), (66, .int .i64 (((x.st.N.length : Nat) : Int))), (67, .int .i64 (((y.k : Nat) : Int)))]) (fun y w66 => y.k ≤ x.st.N.length ∧ AskOk x.st.N x.κ y.ms ∧ (∀ r, (mget y.ms r).op = false) ∧ (∀ i, i < y.k → 0 < (mget y.ms (x.κ i)).sz) ∧ Below w.heap.size w w66 ∧ NetS (w66) w.heap.size g34 x.κ x.st.N x.st.V (fun b => b = g60) ∧ MB (w66) g60 y.ms) (⟨0, [], List.replicate x.st.N.length ⟨0, 0, false⟩⟩) ⟨rfl, rfl, rfl, rfl, rfl, rfl, rfl, rfl, rfl, rfl, rfl, rfl, rfl, trivial⟩ ?_ ?_
      ·have hb67 : Below w.heap.size w w59 := (bstep hb42 hb63)
       exact ⟨Nat.zero_le _, AskOk.new _ _, (fun r => by by_cases hr9 : r < x.st.N.length; (rw [mget_lt (by simpa using hr9)]; simp); (rw [mget_ge (by simpa using hr9)])), (fun i hi9 => absurd hi9 (Nat.not_lt_zero i)), hb67, hN65, hM64⟩
      ·rintro y w66 ⟨hky, hAy, hoy, hdy, hb68, ho69, ho70⟩
       refine WC.seq (WC.region ?_)
       refine WL.val (.bool ((decide ((((y.k : Nat) : Int) : Int) < (((x.st.N.length : Nat) : Int) : Int))))) rfl rfl rfl (fun za zC zh zk => lss_3 rfl (zh.ev rfl) (zh.ev rfl) zk) ?_
       refine WL.nil (WE.next (WC.seq ?_))
       refine WC.cond rfl (fun h71 => ?_) (fun h71 => ?_)
       ·have h71 : (((y.k : Nat) : Int) : Int) < (((x.st.N.length : Nat) : Int) : Int) := by simpa using h71
        refine WC.skip (WE.next (WC.seq (WC.block (WC.seq (WC.region (WL.mv rfl rfl rfl rfl rfl (WL.asg rfl rfl rfl rfl rfl (WL.nil (WE.next (WC.seq (WC.region (WL.mv rfl rfl rfl rfl rfl (WL.mv rfl rfl rfl rfl rfl (WL.mv rfl rfl rfl rfl rfl ?_))))))))))))))
        have hyl : y.k < x.st.N.length := by omega
        obtain ⟨Z8, U8, d8, hZ8, hR8, S8, ua8, uc8, oa8, oc8, hP8, hPZ8, hZl8⟩ := ho69
        obtain ⟨ub8, rfl, hub8⟩ := hP8.ub (by omega)
        have hb76 : Below w.heap.size w w66 := hb68
        refine WL.call rfl rfl rfl (fun za zh zC => wp_call (by kernel_rfl) rfl (hv3 (zh.ev rfl) (zh.ev rfl) (zh.ev rfl))) (pask_any x.κ d8 x.st.N x.st.V g34 S8 ub8 uc8 oa8 oc8 g60 x.st.N.length hgo.cl.ok hgo.ok.args (by omega) (by omega) _ y.ms U8 y.k _ (Nat.le_refl _) hP8 hR8 hAy ho70 (fun q => (hZ8 _ (hPZ8 _ q)).2 rfl) hyl) ?_
        rintro _ w77 ⟨bb72, rfl, hc73, h74, h75⟩
        have hub9 := (hZ8 ub8 (hPZ8 ub8 (.inr (.inl hub8)))).1
        have hb78 := chg_below hb76 hc73 (fun b hb h9 => by rcases h9 with h9 | h9 <;> omega)
        refine WL.val (.bool ((!bb72))) rfl rfl rfl (fun za zC zh zk => wp_not rfl (zh.ev rfl) zk) ?_
        refine WL.nil (WE.next ?_)
        refine WC.cond rfl (fun h79 => ?_) (fun h79 => ?_)
        ·have h79 : ¬ (bb72 = true) := by simpa using h79
         refine WC.seq (WC.region (WL.asg rfl rfl rfl rfl rfl (WL.asg rfl rfl rfl rfl rfl (WL.asg rfl rfl rfl rfl rfl (WL.nil (WE.next (WC.ret (WE.blockRet (WE.thenRet (WE.thenRet (WE.blockRet (WE.thenRet ?_))))))))))))
         refine WE.retAny (v := .tuple #[.pointer none, .slice none 0 0, .int .i64 4]) (fun za zh => ?_) ?_
         ·have z0 : za.tmps[2]?.getD undef = .pointer none := by rw [← Array.getD_eq_getD_getElem?]; exact zh.knows 2 _ rfl
          have z1 : za.tmps[3]?.getD undef = .slice none 0 0 := by rw [← Array.getD_eq_getD_getElem?]; exact zh.knows 3 _ rfl
          have z2 : za.tmps[4]?.getD undef = .int .i64 4 := by rw [← Array.getD_eq_getD_getElem?]; exact zh.knows 4 _ rfl
          simp [results, Try.results24, z0, z1, z2, go_sem]
         ·have hrn := hgo.run
          rw [hxk, List.take_length] at hrn
          have hnm := h75 (by simpa using h79)
          exact ⟨_, rfl, .inr (.inl ⟨hWl, .cyc hrn (fun sz dp hm => by obtain ⟨o, e, _⟩ := hnm sz dp hm; rw [hoy o] at e; cases e), rfl⟩), hb78⟩
        ·have h79 : ¬ (¬ (bb72 = true)) := by simpa using h79
         refine WC.skip (WE.blockNormal (WE.next ?_))
         obtain ⟨U3, ms3, hR3, hP3, hM3, hA3, hE3, hD3⟩ := h74 (by simpa using h79)
         have hN3 : NetS w77 w.heap.size g34 x.κ x.st.N x.st.V (fun b => b = g60) := ⟨Z8, U3, d8, hZ8, hR3, S8, _, uc8, oa8, oc8, hP3, hPZ8, fun b q => Nat.lt_of_lt_of_le (hZl8 b q) hc73.size⟩
         refine WC.region ?_
         refine WL.val (.int .i64 ((((y.k + 1) : Nat) : Int))) rfl rfl rfl (fun za zC zh zk => addb_3 rfl (zh.ev rfl) (zh.ev rfl) (wrap_eq (by omega) (by omega) (by omega)) zk) ?_
         refine WL.mv rfl rfl rfl rfl rfl (WL.nil ?_)
         refine WE.round (⟨y.k + 1, [], ms3⟩) ⟨rfl, rfl, rfl, rfl, rfl, rfl, rfl, rfl, rfl, rfl, rfl, rfl, rfl, trivial⟩ ?_ ?_
         ·exact ⟨(by (try dsimp only); omega), hA3, (fun r => (hE3.op r).trans (hoy r)), (fun i hi9 => by
           rcases Nat.lt_succ_iff_lt_or_eq.1 hi9 with z | z
           ·rw [show mget ms3 (x.κ i) = mget y.ms (x.κ i) from hE3.keep _ (.inr (hdy i z))]; exact hdy i z
           ·rw [z]; exact hD3), hb78, hN3, hM3⟩
         ·(try dsimp only); omega
       ·have h71 : ¬ ((((y.k : Nat) : Int) : Int) < (((x.st.N.length : Nat) : Int) : Int)) := by simpa using h71
        refine WC.exit (WE.thenExit (WE.thenExit (WE.blockIs rfl (WE.next (WC.seq (WC.region (WL.mv rfl rfl rfl rfl rfl (WL.mv rfl rfl rfl rfl rfl (WL.asg rfl rfl rfl rfl rfl (WL.asg rfl rfl rfl rfl rfl (WL.asg rfl rfl rfl rfl rfl (WL.nil (WE.next (WC.ret ?_))))))))))))))
        refine WE.retAny (v := .tuple #[.pointer (some ⟨g34, 0, none⟩), .slice ((some ⟨g60, 0, none⟩)) x.st.N.length x.st.N.length, .int .i64 0]) (fun za zh => ?_) ?_
        ·have z0 : za.tmps[2]?.getD undef = .pointer (some ⟨g34, 0, none⟩) := by rw [← Array.getD_eq_getD_getElem?]; exact zh.knows 2 _ rfl
         have z1 : za.tmps[3]?.getD undef = .slice ((some ⟨g60, 0, none⟩)) x.st.N.length x.st.N.length := by rw [← Array.getD_eq_getD_getElem?]; exact zh.knows 3 _ rfl
         have z2 : za.tmps[4]?.getD undef = .int .i64 0 := by rw [← Array.getD_eq_getD_getElem?]; exact zh.knows 4 _ rfl
         simp [results, Try.results24, z0, z1, z2, go_sem]
        ·have hgo2 := hgo
         rw [hxk] at hgo2
         exact ⟨_, rfl, .inr (.inr ⟨hWl, x.st, x.κ, g34, g60, y.ms, hgo2, hAy, fun i hi9 => hdy i (by omega), rfl, ho69, hmbw, ho70⟩), hb68⟩
end Go.Proofs.Ythhgidliopohcaa

/- Regions in whatever order: a call that makes something, calls that read it, a new box into which one value is stored. -/
namespace Go.Proofs.Ythhgidliopohcaa
open Go.RowKit Go
set_option linter.unusedVariables false
def ycells : Value → Array Value
 | .agg cs => cs
 | v => #[v]
section
variable {w0 w w' : World} {t g : Nat} {z : Array Value} {y : Value} {x va vp : Option Value} {P1 : World → Value → Prop}
/-- What was made; a box: new, behind 'w0'; empty, or the value lies in it. What was made stands, as long as nothing is stored. -/
structure B1S (w0 : World) (P1 : World → Value → Prop) (t : Nat) (z : Array Value) (y : Value) (x va vp : Option Value) (w : World) : Prop where
 below : Below w0.heap.size w0 w
 md : vp = none → ∀ v, x = some v → P1 w v
 box : ∀ v, va = some v → ∃ g, v = .pointer (some ⟨g, 0, none⟩) ∧ w0.heap.size ≤ g ∧ Blk w g t (if vp = none then z else ycells y)
 pa : va = none → vp = none
def B1G (w0 : World) (P1 : World → Value → Prop) (t : Nat) (z : Array Value) (y : Value) : List (Option Value) → World → Prop
 | [x, va, vp], w => B1S w0 P1 t z y x va vp w
 | _, _ => False
theorem B1S.step (k1 : ∀ w w' v, Below w.heap.size w w' → P1 w v → P1 w' v) (h : B1S w0 P1 t z y x va vp w) (hb : Below w.heap.size w w') : B1S w0 P1 t z y x va vp w' :=
 ⟨bstep h.below hb, fun e v hv => k1 _ _ _ hb (h.md e v hv), fun v hv => by
  obtain ⟨g, e, h1, h2⟩ := h.box v hv
  exact ⟨g, e, h1, h2.below hb⟩, h.pa⟩
theorem B1S.call (k1 : ∀ w w' v, Below w.heap.size w w' → P1 w v → P1 w' v) {v : Value} (h : B1S w0 P1 t z y none va vp w) (hb : Below w.heap.size w w') (hv : P1 w' v) : B1S w0 P1 t z y (some v) va vp w' :=
 ⟨bstep h.below hb, fun _ u hu => by obtain rfl := Option.some.inj hu; exact hv, (h.step k1 hb).box, h.pa⟩
theorem B1S.alloc (k1 : ∀ w w' v, Below w.heap.size w w' → P1 w v → P1 w' v) (h : B1S w0 P1 t z y x none vp w) : B1S w0 P1 t z y x (some (.pointer (some ⟨w.heap.size, 0, none⟩))) vp (w.alloc (.cells z t)) := by
 have hp := h.pa rfl
 subst hp
 have hst := h.step k1 (balloc w (.cells z t))
 exact ⟨hst.below, hst.md, fun v hv => ⟨_, (Option.some.inj hv).symm, h.below.size, Blk.new' rfl⟩, fun e => by cases e⟩
theorem B1S.store {q : Value} (h : B1S w0 P1 t z y x (some (.pointer (some ⟨g, 0, none⟩))) none w) (hu : Upd g w w') (hB : Blk w' g t (ycells y)) : B1S w0 P1 t z y x (some (.pointer (some ⟨g, 0, none⟩))) (some q) w' := by
 obtain ⟨g', e, h1, h2⟩ := h.box _ rfl
 simp only [Value.pointer.injEq, Option.some.injEq, Addr.mk.injEq, and_true] at e
 subst e
 exact ⟨upd_below h.below hu h1, fun e => (by cases e), fun v hv => ⟨g, (Option.some.inj hv).symm, h1, by rw [if_neg (by simp)]; exact hB⟩, fun e => (by cases e)⟩
end
section
variable {P : Program} {ops : Array Oper} {P1 : World → Value → Prop}
def valR1 (l : List (Bool × Value)) (i : Nat) (v : Value) : Prop := (l.getD i (true, undef)).1 = true → v = (l.getD i (true, undef)).2
theorem valVal1 {l : List (Bool × Value)} {i : Nat} {v x : Value} {β : Bool} (h : valR1 l i v) (e : l.getD i (true, undef) = (β, x)) (hβ : β = true) : v = x := by
 have := h (by rw [e]; exact hβ)
 rw [e] at this; exact this
structure CtxB1 (ops : Array Oper) (l : List (Bool × Value)) (P1 : World → Value → Prop) (ic ip : Nat) (chain : List Nat) (n : Fr) (K : Known) (w0 : World) (i : Nat) (o : Oper) (a : Act) (w : World) : Prop where
 below : Below w0.heap.size w0 w
 kn : Kn n K a
 dep : ∀ j d, depB ops o j d = true → chain.contains j = false → valR1 l j (a.tmps.getD d undef)
 made : ∀ d, depB ops o ic d = true → (ancL ops ip).contains i = true → P1 w (a.tmps.getD d undef)
/-- Each operation: one that yields what is listed (it may make memory); the call; the new box; the store. -/
def SoundB1 (P : Program) (ops : Array Oper) (Q : Exit → Act → World → Prop) (l : List (Bool × Value)) (n : Fr) (K : Known) (w0 : World) (P1 : World → Value → Prop) (t : Nat) (z : Array Value) (y : Value) (ic ia ip : Nat) : Nat → List Oper → Prop
 | _, [] => True
 | i, o :: r => (([ic, ia, ip].contains i = false ∧ o.guard = none ∧
    (∀ a w, CtxB1 ops l P1 ic ip [ic, ia, ip] n K w0 i o a w → o.wp P a w (fun a' w' => ∃ v, a' = Act.put a o.dst v ∧ Below w.heap.size w w' ∧ valR1 l i v) Q)) ∨
   (i = ic ∧ o.guard = none ∧ ∀ a w, CtxB1 ops l P1 ic ip [ic, ia, ip] n K w0 i o a w → o.wp P a w (fun a' w' => ∃ v, a' = Act.put a o.dst v ∧ Below w.heap.size w w' ∧ P1 w' v) Q) ∨
   (i = ia ∧ o.guard = none ∧ ∀ a w, CtxB1 ops l P1 ic ip [ic, ia, ip] n K w0 i o a w → o.wp P a w (fun a' w' => a' = Act.put a o.dst (.pointer (some ⟨w.heap.size, 0, none⟩)) ∧ w' = w.alloc (.cells z t)) Q) ∨
   (i = ip ∧ o.guard = none ∧ ∃ dp, depB ops o ia dp = true ∧ ∀ a w g, CtxB1 ops l P1 ic ip [ic, ia, ip] n K w0 i o a w → a.tmps.getD dp undef = .pointer (some ⟨g, 0, none⟩) → Blk w g t z → o.wp P a w (fun a' w' => ∃ v, a' = Act.put a o.dst v ∧ Upd g w w' ∧ Blk w' g t (ycells y)) Q)) ∧ SoundB1 P ops Q l n K w0 P1 t z y ic ia ip (i + 1) r
theorem SoundB1.gen (k1 : ∀ w w' v, Below w.heap.size w w' → P1 w v → P1 w' v) {Q : Exit → Act → World → Prop} {l : List (Bool × Value)} {n : Fr} {K : Known} {w0 : World} {t : Nat} {z : Array Value} {y : Value} {ic ia ip : Nat} : ∀ {lo : List Oper} {i : Nat}, SoundB1 P ops Q l n K w0 P1 t z y ic ia ip i lo →
  SoundFromG P ops Q [ic, ia, ip] (fun i v _ => valR1 l i v) (fun _ _ => True) (B1G w0 P1 t z y) n K i lo
 | [], _, _ => trivial
 | o :: r, i, ⟨h, hr⟩ => by
  refine ⟨?_, hr.gen k1⟩
  have mk : ∀ {a : Act} {w : World} {vs : List (Option Value)} (_ : CtxG ops [ic, ia, ip] (fun i v _ => valR1 l i v) (B1G w0 P1 t z y) n K i o a w vs), CtxB1 ops l P1 ic ip [ic, ia, ip] n K w0 i o a w := by
   intro a w vs C
   refine ⟨?_, C.kn, C.dep, fun d hd ha => ?_⟩
   ·match vs, C.len, C.now with
    | [x, va, vp], _, hG => exact B1S.below hG
   ·have e0 := C.link 0 ic d rfl hd
    have e1 := C.mostT 2 ip rfl ha
    match vs, C.len, e0, e1, C.now with
    | [x, va, vp], _, e0, e1, hG =>
     simp only [List.getElem?_cons_zero, List.getElem?_cons_succ, Option.some.injEq] at e0 e1
     subst e0 e1
     exact B1S.md hG rfl _ rfl
  rcases h with ⟨h1, h2, h3⟩ | ⟨rfl, h1, h2⟩ | ⟨rfl, h1, h2⟩ | ⟨rfl, h1, dp, h2, h3⟩
  ·refine .inl ⟨h1, true, .none h2, fun g b hb => by (rw [h2] at hb; cases hb), fun e => (by cases e), fun _ a w vs C => ?_⟩
   refine Oper.wpIn_mono ?_ (wpIn_of (h3 a w (mk C)) (by rintro a' w' ⟨v, rfl, _⟩; exact put_defers _ _ _))
   rintro a' w' ⟨v, rfl, hb, hv⟩
   refine ⟨v, rfl, trivial, ?_, hv⟩
   match vs, C.len, C.now with
   | [x, va, vp], _, hG => exact B1S.step k1 hG hb
  ·refine .inr ⟨0, rfl, h1, fun a w vs C hn => ?_⟩
   refine Oper.wpIn_mono ?_ (wpIn_of (h2 a w (mk C)) (by rintro a' w' ⟨v, rfl, _⟩; exact put_defers _ _ _))
   rintro a' w' ⟨v, rfl, hb, hv⟩
   match vs, C.len, hn, C.now with
   | [x, va, vp], _, hn, hG =>
    simp only [List.getElem?_cons_zero, Option.some.injEq] at hn
    subst hn
    exact ⟨_, rfl, trivial, B1S.call k1 hG hb hv⟩
  ·refine .inr ⟨1, rfl, h1, fun a w vs C hn => ?_⟩
   refine Oper.wpIn_mono ?_ (wpIn_of (h2 a w (mk C)) (by rintro a' w' ⟨rfl, _⟩; exact put_defers _ _ _))
   rintro a' w' ⟨rfl, rfl⟩
   match vs, C.len, hn, C.now with
   | [x, va, vp], _, hn, hG =>
    simp only [List.getElem?_cons_zero, List.getElem?_cons_succ, Option.some.injEq] at hn
    subst hn
    exact ⟨_, rfl, trivial, B1S.alloc k1 hG⟩
  ·refine .inr ⟨2, rfl, h1, fun a w vs C hn => ?_⟩
   have e0 := C.link 1 ia dp rfl h2
   match vs, C.len, hn, e0, C.now, C with
   | [x, va, vp], _, hn, e0, hG, C =>
    simp only [List.getElem?_cons_zero, List.getElem?_cons_succ, Option.some.injEq] at hn e0
    subst hn e0
    have hG' : B1S w0 P1 t z y x (some (a.tmps.getD dp undef)) none w := hG
    obtain ⟨g, h5, h6, h7⟩ := hG'.box _ rfl
    rw [if_pos rfl] at h7
    refine Oper.wpIn_mono ?_ (wpIn_of (h3 a w g (mk C) h5 h7) (by rintro a' w' ⟨v, rfl, _⟩; exact put_defers _ _ _))
    rintro a' w' ⟨v, rfl, h8, h9⟩
    refine ⟨v, rfl, trivial, ?_⟩
    show B1S w0 P1 t z y x (some (a.tmps.getD dp undef)) (some v) w'
    rw [h5] at hG' ⊢
    exact B1S.store hG' h8 h9
theorem WC.box1 {rid : Nat} {dr : Bool} {Q : Exit → Act → World → Prop} {n : Fr} {K : Known} {w : World} (P1 : World → Value → Prop) (k1 : ∀ w w' v, Below w.heap.size w w' → P1 w v → P1 w' v) (l : List (Bool × Value)) (K0 : Known) {t : Nat} {z : Array Value} (y : Value) (ic ia ip da : Nat)
  (hd : ([ic, ia, ip]).Nodup) (hin : (([ic, ia, ip]).all fun c => Nat.blt c ops.size) = true) (hda : (ops[ia]?).bind (·.dst) = some da)
  (hs : subK K0 K) (hclear : clearB ops K0 = true) (hm : P.follows .mixedOrders = true) (hB : opsB ops n.n = true)
  (h : SoundB1 P ops Q l n K0 w P1 t z y ic ia ip 0 ops.toList)
  (hQ : ∀ (a : Act) (w' : World) (g : Nat), Kn n K0 a → Below w.heap.size w w' → w.heap.size ≤ g → Blk w' g t (ycells y) → a.tmps.getD da undef = .pointer (some ⟨g, 0, none⟩) → (∀ i d, (ops[i]?).bind (·.dst) = some d → ([ic, ia, ip]).contains i = false → valR1 l i (a.tmps.getD d undef)) → Q .normal a w') :
  WC P n K w (.region rid ops dr) Q := by
 refine WC.gen [ic, ia, ip] (fun i v _ => valR1 l i v) (fun _ _ => True) (B1G w P1 t z y) K0 hs hclear hm hB hd hin (fun _ _ _ _ h _ => h) ?_ (h.gen k1) (fun a w' vs hk hlen hall hG hu hl => ?_)
 ·have st : ∀ w' : World, Below w.heap.size w w' → B1S w P1 t z y none none none w' := fun w' hb => ⟨hb, fun _ v hv => (by cases hv), fun v hv => (by cases hv), fun _ => rfl⟩
  cases dr with
  | true => exact st _ (Below.refl _ _).drew
  | false => exact st _ (Below.refl _ _)
 ·obtain ⟨v0, hv0⟩ := hall 0 (by simp)
  obtain ⟨v1, hv1⟩ := hall 1 (by simp)
  obtain ⟨v2, hv2⟩ := hall 2 (by simp)
  have ha := hl 1 ia da rfl hda
  match vs, hlen, hv0, hv1, hv2, hG, ha with
  | [x, va, vp], _, hv0, hv1, hv2, hG, ha =>
   simp only [List.getElem?_cons_zero, List.getElem?_cons_succ, Option.some.injEq] at hv0 hv1 hv2 ha
   subst hv0 hv2 ha
   have hG' : B1S w P1 t z y (some v0) (some (a.tmps.getD da undef)) (some v2) w' := hG
   obtain ⟨g, e1, h1, h2⟩ := hG'.box _ rfl
   rw [if_neg (by simp)] at h2
   exact hQ a w' g hk hG'.below h1 h2 e1 hu
end
end Go.Proofs.Ythhgidliopohcaa

/- Regions in whatever order: two new rows of one length, a new box of both, laid down. -/
namespace Go.Proofs.Ythhgidliopohcaa
open Go.RowKit Go
set_option linter.unusedVariables false
/-- Two new rows, and a new box of both: as far as they are there, all are new, and apart. -/
structure MK2 (w0 : World) (n t1 : Nat) (cs : Array Value) (tb : Nat) (v1 v2 va vp vq : Option Value) (w : World) : Prop where
 below : Below w0.heap.size w0 w
 r1 : ∀ v, v1 = some v → ∃ g, v = .slice (some ⟨g, 0, none⟩) n n ∧ w0.heap.size ≤ g ∧ Blk w g t1 cs
 r2 : ∀ v, v2 = some v → ∃ g, v = .slice (some ⟨g, 0, none⟩) n n ∧ w0.heap.size ≤ g ∧ Blk w g t1 cs
 ne : ∀ g1 g2, v1 = some (.slice (some ⟨g1, 0, none⟩) n n) → v2 = some (.slice (some ⟨g2, 0, none⟩) n n) → g1 ≠ g2
 bx : ∀ v, va = some v → ∃ u1 u2, v1 = some u1 ∧ v2 = some u2 ∧ v = .agg #[u1, u2]
 bp : ∀ v, vp = some v → ∃ g1 g2 g, v1 = some (.slice (some ⟨g1, 0, none⟩) n n) ∧ v2 = some (.slice (some ⟨g2, 0, none⟩) n n) ∧ v = .pointer (some ⟨g, 0, none⟩) ∧ w0.heap.size ≤ g ∧ Blk w g tb #[.slice (some ⟨g1, 0, none⟩) n n, .slice (some ⟨g2, 0, none⟩) n n] ∧ g ≠ g1 ∧ g ≠ g2
 bq : ∀ v, vq = some v → vp = some v
section
variable {w0 w w' : World} {n t1 tb : Nat} {cs : Array Value} {v1 v2 va vp vq : Option Value}
theorem MK2.step (h : MK2 w0 n t1 cs tb v1 v2 va vp vq w) (hb : Below w.heap.size w w') : MK2 w0 n t1 cs tb v1 v2 va vp vq w' :=
 ⟨bstep h.below hb, fun v hv => by obtain ⟨g, e, h1, h2⟩ := h.r1 v hv; exact ⟨g, e, h1, h2.below hb⟩, fun v hv => by obtain ⟨g, e, h1, h2⟩ := h.r2 v hv; exact ⟨g, e, h1, h2.below hb⟩, h.ne, h.bx,
  fun v hv => by obtain ⟨g1, g2, g, e1, e2, e3, h1, h2, h3⟩ := h.bp v hv; exact ⟨g1, g2, g, e1, e2, e3, h1, h2.below hb, h3⟩, h.bq⟩
theorem MK2.mk1 (h : MK2 w0 n t1 cs tb none v2 va vp vq w) : MK2 w0 n t1 cs tb (some (.slice (some ⟨w.heap.size, 0, none⟩) n n)) v2 va vp vq (w.alloc (.cells cs t1)) := by
 have hs := h.step (balloc w (.cells cs t1))
 refine ⟨hs.below, fun v hv => ⟨_, (Option.some.inj hv).symm, h.below.size, Blk.new' rfl⟩, hs.r2, fun g1 g2 e1 e2 => ?_, fun v hv => ?_, fun v hv => ?_, hs.bq⟩
 ·obtain ⟨g, e, _, hB⟩ := h.r2 _ e2
  have := hB.lt
  simp only [Option.some.injEq, Value.slice.injEq, Addr.mk.injEq, and_true] at e1 e
  omega
 ·obtain ⟨u1, u2, e1, _⟩ := h.bx v hv; cases e1
 ·obtain ⟨g1, g2, g, e1, _⟩ := h.bp v hv; cases e1
theorem MK2.mk2 (h : MK2 w0 n t1 cs tb v1 none va vp vq w) : MK2 w0 n t1 cs tb v1 (some (.slice (some ⟨w.heap.size, 0, none⟩) n n)) va vp vq (w.alloc (.cells cs t1)) := by
 have hs := h.step (balloc w (.cells cs t1))
 refine ⟨hs.below, hs.r1, fun v hv => ⟨_, (Option.some.inj hv).symm, h.below.size, Blk.new' rfl⟩, fun g1 g2 e1 e2 => ?_, fun v hv => ?_, fun v hv => ?_, hs.bq⟩
 ·obtain ⟨g, e, _, hB⟩ := h.r1 _ e1
  have := hB.lt
  simp only [Option.some.injEq, Value.slice.injEq, Addr.mk.injEq, and_true] at e2 e
  omega
 ·obtain ⟨u1, u2, _, e1, _⟩ := h.bx v hv; cases e1
 ·obtain ⟨g1, g2, g, _, e1, _⟩ := h.bp v hv; cases e1
theorem MK2.bld (h : MK2 w0 n t1 cs tb v1 v2 none vp vq w) {u1 u2 : Value} (h1 : v1 = some u1) (h2 : v2 = some u2) : MK2 w0 n t1 cs tb v1 v2 (some (.agg #[u1, u2])) vp vq w :=
 ⟨h.below, h.r1, h.r2, h.ne, fun v hv => ⟨u1, u2, h1, h2, (Option.some.inj hv).symm⟩, h.bp, h.bq⟩
theorem MK2.box (h : MK2 w0 n t1 cs tb v1 v2 va none vq w) (hq : vq = none) {u1 u2 : Value} (h1 : v1 = some u1) (h2 : v2 = some u2) : MK2 w0 n t1 cs tb v1 v2 va (some (.pointer (some ⟨w.heap.size, 0, none⟩))) vq (w.alloc (.cells #[u1, u2] tb)) := by
 have hs := h.step (balloc w (.cells #[u1, u2] tb))
 obtain ⟨g1, e1, k1, B1⟩ := h.r1 _ h1
 obtain ⟨g2, e2, k2, B2⟩ := h.r2 _ h2
 have z1 := B1.lt
 have z2 := B2.lt
 refine ⟨hs.below, hs.r1, hs.r2, hs.ne, hs.bx, fun v hv => ⟨g1, g2, w.heap.size, h1.trans (congrArg some e1), h2.trans (congrArg some e2), (Option.some.inj hv).symm, h.below.size, by rw [← e1, ← e2]; exact Blk.new' rfl, by omega, by omega⟩, fun v hv => by rw [hq] at hv; cases hv⟩
theorem MK2.lay (h : MK2 w0 n t1 cs tb v1 v2 va vp none w) {v : Value} (hv : vp = some v) : MK2 w0 n t1 cs tb v1 v2 va vp (some v) w :=
 ⟨h.below, h.r1, h.r2, h.ne, h.bx, h.bp, fun u hu => by rw [← hu]; exact hv⟩
def MK2G (w0 : World) (n t1 : Nat) (cs : Array Value) (tb : Nat) : List (Option Value) → World → Prop
 | [v1, v2, va, vp, vq], w => MK2 w0 n t1 cs tb v1 v2 va vp vq w
 | _, _ => False
end
section
variable {P : Program} {ops : Array Oper}
structure CtxK2 (ops : Array Oper) (l : List (Bool × Value)) (chain : List Nat) (n : Fr) (K : Known) (w0 : World) (o : Oper) (a : Act) (w : World) : Prop where
 below : Below w0.heap.size w0 w
 kn : Kn n K a
 dep : ∀ j d, depB ops o j d = true → chain.contains j = false → valR1 l j (a.tmps.getD d undef)
/-- Each operation: one that yields what is listed (it may make memory); a new row; the value of both; the new box; the laying down. -/
def SoundK2 (P : Program) (ops : Array Oper) (Q : Exit → Act → World → Prop) (l : List (Bool × Value)) (f : Fr) (K : Known) (w0 : World) (n t1 : Nat) (cs : Array Value) (tb : Nat) (i1 i2 ib ip iq : Nat) : Nat → List Oper → Prop
 | _, [] => True
 | i, o :: r => (([i1, i2, ib, ip, iq].contains i = false ∧ o.guard = none ∧
    (∀ a w, CtxK2 ops l [i1, i2, ib, ip, iq] f K w0 o a w → o.wp P a w (fun a' w' => ∃ v, a' = Act.put a o.dst v ∧ Below w.heap.size w w' ∧ valR1 l i v) Q)) ∨
   ((i = i1 ∨ i = i2) ∧ o.guard = none ∧ ∀ a w, CtxK2 ops l [i1, i2, ib, ip, iq] f K w0 o a w → o.wp P a w (fun a' w' => a' = Act.put a o.dst (.slice (some ⟨w.heap.size, 0, none⟩) n n) ∧ w' = w.alloc (.cells cs t1)) Q) ∨
   (i = ib ∧ o.guard = none ∧ ∃ d1 d2, depB ops o i1 d1 = true ∧ depB ops o i2 d2 = true ∧ ∀ (a : Act) (w : World) g1 g2, a.tmps.getD d1 undef = .slice (some ⟨g1, 0, none⟩) n n → a.tmps.getD d2 undef = .slice (some ⟨g2, 0, none⟩) n n → o.wp P a w (fun a' w' => a' = Act.put a o.dst (.agg #[.slice (some ⟨g1, 0, none⟩) n n, .slice (some ⟨g2, 0, none⟩) n n]) ∧ w' = w) Q) ∨
   (i = ip ∧ o.guard = none ∧ afterB ops iq i = true ∧ ∃ d1, depB ops o ib d1 = true ∧ ∀ (a : Act) (w : World) u1 u2, a.tmps.getD d1 undef = .agg #[u1, u2] → o.wp P a w (fun a' w' => a' = Act.put a o.dst (.pointer (some ⟨w.heap.size, 0, none⟩)) ∧ w' = w.alloc (.cells #[u1, u2] tb)) Q) ∨
   (i = iq ∧ o.guard = none ∧ ∃ d1, depB ops o ip d1 = true ∧ ∀ (a : Act) (w : World), o.wp P a w (fun a' w' => a' = Act.put a o.dst (a.tmps.getD d1 undef) ∧ w' = w) Q)) ∧ SoundK2 P ops Q l f K w0 n t1 cs tb i1 i2 ib ip iq (i + 1) r
theorem SoundK2.gen {i1 i2 ib ip iq : Nat} {w0 : World} {n t1 tb : Nat} {cs : Array Value} {Q : Exit → Act → World → Prop} {l : List (Bool × Value)} {f : Fr} {K : Known} : ∀ {lo : List Oper} {i : Nat}, SoundK2 P ops Q l f K w0 n t1 cs tb i1 i2 ib ip iq i lo →
  SoundFromG P ops Q [i1, i2, ib, ip, iq] (fun i v _ => valR1 l i v) (fun _ _ => True) (MK2G w0 n t1 cs tb) f K i lo
 | [], _, _ => trivial
 | o :: r, i, ⟨h, hr⟩ => by
  refine ⟨?_, hr.gen⟩
  have mk : ∀ {a : Act} {w : World} {vs : List (Option Value)} (_ : CtxG ops [i1, i2, ib, ip, iq] (fun i v _ => valR1 l i v) (MK2G w0 n t1 cs tb) f K i o a w vs), CtxK2 ops l [i1, i2, ib, ip, iq] f K w0 o a w := by
   intro a w vs C
   refine ⟨?_, C.kn, C.dep⟩
   match vs, C.len, C.now with
   | [v1, v2, va, vp, vq], _, hG => exact MK2.below hG
  rcases h with ⟨h1, h2, h3⟩ | ⟨h0, h1, h2⟩ | ⟨rfl, h1, d1, d2, hd1, hd2, h2⟩ | ⟨rfl, h1, haf, d1, hd1, h2⟩ | ⟨rfl, h1, d1, hd1, h2⟩
  ·refine .inl ⟨h1, true, .none h2, fun g b hb => by (rw [h2] at hb; cases hb), fun e => (by cases e), fun _ a w vs C => ?_⟩
   refine Oper.wpIn_mono ?_ (wpIn_of (h3 a w (mk C)) (by rintro a' w' ⟨v, rfl, _⟩; exact put_defers _ _ _))
   rintro a' w' ⟨v, rfl, hb, hv⟩
   refine ⟨v, rfl, trivial, ?_, hv⟩
   match vs, C.len, C.now with
   | [v1, v2, va, vp, vq], _, hG => exact MK2.step hG hb
  ·rcases h0 with rfl | rfl
   ·refine .inr ⟨0, rfl, h1, fun a w vs C hn => ?_⟩
    refine Oper.wpIn_mono ?_ (wpIn_of (h2 a w (mk C)) (by rintro a' w' ⟨rfl, _⟩; exact put_defers _ _ _))
    rintro a' w' ⟨rfl, rfl⟩
    match vs, C.len, hn, C.now with
    | [v1, v2, va, vp, vq], _, hn, hG =>
     simp only [List.getElem?_cons_zero, Option.some.injEq] at hn
     subst hn
     exact ⟨_, rfl, trivial, MK2.mk1 hG⟩
   ·refine .inr ⟨1, rfl, h1, fun a w vs C hn => ?_⟩
    refine Oper.wpIn_mono ?_ (wpIn_of (h2 a w (mk C)) (by rintro a' w' ⟨rfl, _⟩; exact put_defers _ _ _))
    rintro a' w' ⟨rfl, rfl⟩
    match vs, C.len, hn, C.now with
    | [v1, v2, va, vp, vq], _, hn, hG =>
     simp only [List.getElem?_cons_zero, List.getElem?_cons_succ, Option.some.injEq] at hn
     subst hn
     exact ⟨_, rfl, trivial, MK2.mk2 hG⟩
  ·refine .inr ⟨2, rfl, h1, fun a w vs C hn => ?_⟩
   have e1 := C.link 0 i1 d1 rfl hd1
   have e2 := C.link 1 i2 d2 rfl hd2
   match vs, C.len, hn, e1, e2, C.now with
   | [v1, v2, va, vp, vq], _, hn, e1, e2, hG =>
    simp only [List.getElem?_cons_zero, List.getElem?_cons_succ, Option.some.injEq] at hn e1 e2
    subst hn
    have hG' : MK2 w0 n t1 cs tb v1 v2 none vp vq w := hG
    obtain ⟨g1, k1, _⟩ := hG'.r1 _ e1
    obtain ⟨g2, k2, _⟩ := hG'.r2 _ e2
    refine Oper.wpIn_mono ?_ (wpIn_of (h2 a w g1 g2 k1 k2) (by rintro a' w' ⟨rfl, _⟩; exact put_defers _ _ _))
    rintro a' w' ⟨rfl, rfl⟩
    exact ⟨_, rfl, trivial, hG'.bld (e1.trans (congrArg some k1)) (e2.trans (congrArg some k2))⟩
  ·refine .inr ⟨3, rfl, h1, fun a w vs C hn => ?_⟩
   have e1 := C.link 2 ib d1 rfl hd1
   have eq := C.most 4 iq rfl haf
   match vs, C.len, hn, e1, eq, C.now with
   | [v1, v2, va, vp, vq], _, hn, e1, eq, hG =>
    simp only [List.getElem?_cons_zero, List.getElem?_cons_succ, Option.some.injEq] at hn e1 eq
    subst hn
    have hG' : MK2 w0 n t1 cs tb v1 v2 va none vq w := hG
    obtain ⟨u1, u2, k1, k2, k3⟩ := hG'.bx _ e1
    refine Oper.wpIn_mono ?_ (wpIn_of (h2 a w u1 u2 k3) (by rintro a' w' ⟨rfl, _⟩; exact put_defers _ _ _))
    rintro a' w' ⟨rfl, rfl⟩
    exact ⟨_, rfl, trivial, hG'.box eq k1 k2⟩
  ·refine .inr ⟨4, rfl, h1, fun a w vs C hn => ?_⟩
   have e1 := C.link 3 ip d1 rfl hd1
   match vs, C.len, hn, e1, C.now with
   | [v1, v2, va, vp, vq], _, hn, e1, hG =>
    simp only [List.getElem?_cons_zero, List.getElem?_cons_succ, Option.some.injEq] at hn e1
    subst hn
    have hG' : MK2 w0 n t1 cs tb v1 v2 va vp none w := hG
    refine Oper.wpIn_mono ?_ (wpIn_of (h2 a w) (by rintro a' w' ⟨rfl, _⟩; exact put_defers _ _ _))
    rintro a' w' ⟨rfl, rfl⟩
    exact ⟨_, rfl, trivial, hG'.lay e1⟩
theorem WC.mk2 {rid : Nat} {dr : Bool} {Q : Exit → Act → World → Prop} {f : Fr} {K : Known} {w : World} (l : List (Bool × Value)) (K0 : Known) (n t1 : Nat) (cs : Array Value) (tb : Nat) (i1 i2 ib ip iq dq : Nat)
  (hd : ([i1, i2, ib, ip, iq]).Nodup) (hin : (([i1, i2, ib, ip, iq]).all fun c => Nat.blt c ops.size) = true) (hda : (ops[iq]?).bind (·.dst) = some dq)
  (hs : subK K0 K) (hclear : clearB ops K0 = true) (hm : P.follows .mixedOrders = true) (hB : opsB ops f.n = true)
  (h : SoundK2 P ops Q l f K0 w n t1 cs tb i1 i2 ib ip iq 0 ops.toList)
  (hQ : ∀ (a : Act) (w' : World) (g1 g2 g : Nat), Kn f K0 a → Below w.heap.size w w' → w.heap.size ≤ g1 → w.heap.size ≤ g2 → w.heap.size ≤ g → g1 ≠ g2 → g ≠ g1 → g ≠ g2 → Blk w' g1 t1 cs → Blk w' g2 t1 cs → Blk w' g tb #[.slice (some ⟨g1, 0, none⟩) n n, .slice (some ⟨g2, 0, none⟩) n n] → a.tmps.getD dq undef = .pointer (some ⟨g, 0, none⟩) → (∀ i d, (ops[i]?).bind (·.dst) = some d → ([i1, i2, ib, ip, iq]).contains i = false → valR1 l i (a.tmps.getD d undef)) → Q .normal a w') :
  WC P f K w (.region rid ops dr) Q := by
 refine WC.gen [i1, i2, ib, ip, iq] (fun i v _ => valR1 l i v) (fun _ _ => True) (MK2G w n t1 cs tb) K0 hs hclear hm hB hd hin (fun _ _ _ _ h _ => h) ?_ h.gen (fun a w' vs hk hlen hall hG hu hl => ?_)
 ·have st : ∀ w' : World, Below w.heap.size w w' → MK2 w n t1 cs tb none none none none none w' := fun w' hb => ⟨hb, fun _ hv => (by cases hv), fun _ hv => (by cases hv), fun _ _ hv => (by cases hv), fun v hv => (by cases hv), fun v hv => (by cases hv), fun v hv => (by cases hv)⟩
  cases dr with
  | true => exact st _ (Below.refl _ _).drew
  | false => exact st _ (Below.refl _ _)
 ·obtain ⟨v4, hv4⟩ := hall 4 (by simp)
  have ha := hl 4 iq dq rfl hda
  match vs, hlen, hv4, hG, ha with
  | [x1, x2, xa, xp, xq], _, hv4, hG, ha =>
   simp only [List.getElem?_cons_zero, List.getElem?_cons_succ, Option.some.injEq] at hv4 ha
   have hG' : MK2 w n t1 cs tb x1 x2 xa xp xq w' := hG
   obtain ⟨g1, g2, g, e1, e2, e3, h1, h2, h3, h4⟩ := hG'.bp _ (hG'.bq _ ha)
   obtain ⟨_, z1, k1, B1⟩ := hG'.r1 _ e1
   obtain ⟨_, z2, k2, B2⟩ := hG'.r2 _ e2
   simp only [Value.slice.injEq, Option.some.injEq, Addr.mk.injEq, and_true] at z1 z2
   subst z1 z2
   exact hQ a w' g1 g2 g hk hG'.below k1 k2 h1 (hG'.ne _ _ e1 e2) h3 h4 B1 B2 h2 e3 hu
end
end Go.Proofs.Ythhgidliopohcaa

/- All pairs are joined and measured: the document's program. -/
namespace Go.Proofs.Ythhgidliopohcaa
open Go.RowKit Go
set_option linter.unusedVariables false
set_option linter.unusedSimpArgs false
/-- The row of the variables' parts while it grows: none of them has one; its block is behind 'B', and not 'g'. -/
def VR (w : World) (B g : Nat) (a : Option Addr) (c n : Nat) : Prop := RowD eltI (fun _ => False) w 3 a c n (List.replicate n (-1)) ∧ ∀ b, obk a n c = some b → B ≤ b ∧ b ≠ g
theorem VR.below {w w' : World} {B g c n : Nat} {a : Option Addr} (h : VR w B g a c n) (hb : Below w.heap.size w w') : VR w' B g a c n := ⟨h.1.below hb, h.2⟩
theorem VR.upd {w w' : World} {B g c n q : Nat} {a : Option Addr} (h : VR w B g a c n) (hu : Upd q w w') (hq : q = g ∨ q < B) : VR w' B g a c n :=
  ⟨h.1.chg (Z := fun b => b = q) (.ofUpd hu rfl) (fun b e e2 => by have z := h.2 b e; have e3 : b = q := e2; omega) (fun b e => e.elim), h.2⟩
end Go.Proofs.Ythhgidliopohcaa

/- Regions in whatever order: a call that changes memory, what it tells, a new box into which one value is stored. -/
namespace Go.Proofs.Ythhgidliopohcaa
open Go.RowKit Go
set_option linter.unusedVariables false
section
variable {w0 w w' : World} {T : Nat → Prop} {t g : Nat} {z : Array Value} {y : Value} {x va vp : Option Value} {P1 : World → Value → Prop}
/-- What the call told; a box: new, behind 'w0'; empty, or the value lies in it. -/
structure BCS (w0 : World) (T : Nat → Prop) (P1 : World → Value → Prop) (t : Nat) (z : Array Value) (y : Value) (x va vp : Option Value) (w : World) : Prop where
 chg : Chg T w0 w
 pre : x = none → Below w0.heap.size w0 w
 md : ∀ v, x = some v → P1 w v
 box : ∀ v, va = some v → ∃ g, v = .pointer (some ⟨g, 0, none⟩) ∧ w0.heap.size ≤ g ∧ Blk w g t (if vp = none then z else ycells y)
 pa : va = none → vp = none
def BCG (w0 : World) (T : Nat → Prop) (P1 : World → Value → Prop) (t : Nat) (z : Array Value) (y : Value) : List (Option Value) → World → Prop
 | [x, va, vp], w => BCS w0 T P1 t z y x va vp w
 | _, _ => False
theorem BCS.step (k1 : ∀ w w' v, Chg (fun b => w0.heap.size ≤ b) w w' → P1 w v → P1 w' v) (h : BCS w0 T P1 t z y x va vp w) (hb : Below w.heap.size w w') : BCS w0 T P1 t z y x va vp w' :=
 ⟨h.chg.trans (.ofBelow hb), fun e => bstep (h.pre e) hb, fun v hv => k1 _ _ _ (.ofBelow hb) (h.md v hv), fun v hv => by
  obtain ⟨g, e, h1, h2⟩ := h.box v hv
  exact ⟨g, e, h1, h2.below hb⟩, h.pa⟩
theorem BCS.call (hT : ∀ b, T b → b < w0.heap.size) {v : Value} (h : BCS w0 T P1 t z y none va vp w) (hc : Chg T w w') (hv : P1 w' v) : BCS w0 T P1 t z y (some v) va vp w' :=
 ⟨h.chg.trans hc, fun e => (by cases e), fun u hu => by obtain rfl := Option.some.inj hu; exact hv, fun v hv => by
  obtain ⟨g, e, h1, h2⟩ := h.box v hv
  exact ⟨g, e, h1, chg_blk h2 hc (fun q => by have := hT g q; omega)⟩, h.pa⟩
theorem BCS.alloc (k1 : ∀ w w' v, Chg (fun b => w0.heap.size ≤ b) w w' → P1 w v → P1 w' v) (h : BCS w0 T P1 t z y x none vp w) : BCS w0 T P1 t z y x (some (.pointer (some ⟨w.heap.size, 0, none⟩))) vp (w.alloc (.cells z t)) := by
 have hp := h.pa rfl
 subst hp
 have hst := h.step k1 (balloc w (.cells z t))
 exact ⟨hst.chg, hst.pre, hst.md, fun v hv => ⟨_, (Option.some.inj hv).symm, h.chg.size, Blk.new' rfl⟩, fun e => by cases e⟩
theorem BCS.store {q : Value} (k1 : ∀ w w' v, Chg (fun b => w0.heap.size ≤ b) w w' → P1 w v → P1 w' v) (h : BCS w0 T P1 t z y x (some (.pointer (some ⟨g, 0, none⟩))) none w) (hu : Upd g w w') (hB : Blk w' g t (ycells y)) : BCS w0 T P1 t z y x (some (.pointer (some ⟨g, 0, none⟩))) (some q) w' := by
 obtain ⟨g', e, h1, h2⟩ := h.box _ rfl
 simp only [Value.pointer.injEq, Option.some.injEq, Addr.mk.injEq, and_true] at e
 subst e
 exact ⟨Chg.trans2 h.chg (.ofUpd (S := fun b => b = g) hu rfl) (fun i hi q => by omega), fun e => upd_below (h.pre e) hu h1, fun v hv => k1 _ _ _ (.ofUpd hu h1) (h.md v hv), fun v hv => ⟨g, (Option.some.inj hv).symm, h1, by rw [if_neg (by simp)]; exact hB⟩, fun e => (by cases e)⟩
end
section
variable {P : Program} {ops : Array Oper} {P1 : World → Value → Prop}
structure CtxBC (ops : Array Oper) (l : List (Bool × Value)) (P1 : World → Value → Prop) (ic : Nat) (chain : List Nat) (n : Fr) (K : Known) (w0 : World) (T : Nat → Prop) (i : Nat) (o : Oper) (a : Act) (w : World) : Prop where
 chg : Chg T w0 w
 below : i = ic ∨ (ancL ops ic).contains i = true → Below w0.heap.size w0 w
 kn : Kn n K a
 dep : ∀ j d, depB ops o j d = true → chain.contains j = false → valR1 l j (a.tmps.getD d undef)
 made : ∀ d, depB ops o ic d = true → P1 w (a.tmps.getD d undef)
/-- Each operation: one that yields what is listed (it may make memory); the call; the new box; the store. -/
def SoundBC (P : Program) (ops : Array Oper) (Q : Exit → Act → World → Prop) (l : List (Bool × Value)) (n : Fr) (K : Known) (w0 : World) (T : Nat → Prop) (P1 : World → Value → Prop) (t : Nat) (z : Array Value) (y : Value) (ic ia ip : Nat) : Nat → List Oper → Prop
 | _, [] => True
 | i, o :: r => (([ic, ia, ip].contains i = false ∧ o.guard = none ∧
    (∀ a w, CtxBC ops l P1 ic [ic, ia, ip] n K w0 T i o a w → o.wp P a w (fun a' w' => ∃ v, a' = Act.put a o.dst v ∧ Below w.heap.size w w' ∧ valR1 l i v) Q)) ∨
   (i = ic ∧ o.guard = none ∧ ∀ a w, CtxBC ops l P1 ic [ic, ia, ip] n K w0 T i o a w → o.wp P a w (fun a' w' => ∃ v, a' = Act.put a o.dst v ∧ Chg T w w' ∧ P1 w' v) Q) ∨
   (i = ia ∧ o.guard = none ∧ ∀ a w, CtxBC ops l P1 ic [ic, ia, ip] n K w0 T i o a w → o.wp P a w (fun a' w' => a' = Act.put a o.dst (.pointer (some ⟨w.heap.size, 0, none⟩)) ∧ w' = w.alloc (.cells z t)) Q) ∨
   (i = ip ∧ o.guard = none ∧ ∃ dp, depB ops o ia dp = true ∧ ∀ a w g, CtxBC ops l P1 ic [ic, ia, ip] n K w0 T i o a w → a.tmps.getD dp undef = .pointer (some ⟨g, 0, none⟩) → Blk w g t z → o.wp P a w (fun a' w' => ∃ v, a' = Act.put a o.dst v ∧ Upd g w w' ∧ Blk w' g t (ycells y)) Q)) ∧ SoundBC P ops Q l n K w0 T P1 t z y ic ia ip (i + 1) r
theorem SoundBC.gen {ic ia ip : Nat} (hne1 : ia ≠ ic) (hne2 : ip ≠ ic) {w0 : World} {T : Nat → Prop} (hT : ∀ b, T b → b < w0.heap.size) (k1 : ∀ w w' v, Chg (fun b => w0.heap.size ≤ b) w w' → P1 w v → P1 w' v) {Q : Exit → Act → World → Prop} {l : List (Bool × Value)} {n : Fr} {K : Known} {t : Nat} {z : Array Value} {y : Value} : ∀ {lo : List Oper} {i : Nat}, SoundBC P ops Q l n K w0 T P1 t z y ic ia ip i lo →
  SoundFromG P ops Q [ic, ia, ip] (fun i v _ => valR1 l i v) (fun _ _ => True) (BCG w0 T P1 t z y) n K i lo
 | [], _, _ => trivial
 | o :: r, i, ⟨h, hr⟩ => by
  refine ⟨?_, hr.gen hne1 hne2 hT k1⟩
  have mk : ∀ {a : Act} {w : World} {vs : List (Option Value)} (_ : CtxG ops [ic, ia, ip] (fun i v _ => valR1 l i v) (BCG w0 T P1 t z y) n K i o a w vs), (i = ic → vs[0]? = some none) → CtxBC ops l P1 ic [ic, ia, ip] n K w0 T i o a w := by
   intro a w vs C hic
   refine ⟨?_, fun hq => ?_, C.kn, C.dep, fun d hd => ?_⟩
   ·match vs, C.len, C.now with
    | [x, va, vp], _, hG => exact BCS.chg hG
   ·have e0 : vs[0]? = some none := hq.elim hic (fun ha => C.mostT 0 ic rfl ha)
    match vs, C.len, e0, C.now with
    | [x, va, vp], _, e0, hG =>
     simp only [List.getElem?_cons_zero, Option.some.injEq] at e0
     exact BCS.pre hG e0
   ·have e0 := C.link 0 ic d rfl hd
    match vs, C.len, e0, C.now with
    | [x, va, vp], _, e0, hG =>
     simp only [List.getElem?_cons_zero, Option.some.injEq] at e0
     exact BCS.md hG _ e0
  rcases h with ⟨h1, h2, h3⟩ | ⟨rfl, h1, h2⟩ | ⟨rfl, h1, h2⟩ | ⟨rfl, h1, dp, h2, h3⟩
  ·have hne : i ≠ ic := fun e => by rw [e] at h1; simp at h1
   refine .inl ⟨h1, true, .none h2, fun g b hb => by (rw [h2] at hb; cases hb), fun e => (by cases e), fun _ a w vs C => ?_⟩
   refine Oper.wpIn_mono ?_ (wpIn_of (h3 a w (mk C (fun e => absurd e hne))) (by rintro a' w' ⟨v, rfl, _⟩; exact put_defers _ _ _))
   rintro a' w' ⟨v, rfl, hb, hv⟩
   refine ⟨v, rfl, trivial, ?_, hv⟩
   match vs, C.len, C.now with
   | [x, va, vp], _, hG => exact BCS.step k1 hG hb
  ·refine .inr ⟨0, rfl, h1, fun a w vs C hn => ?_⟩
   refine Oper.wpIn_mono ?_ (wpIn_of (h2 a w (mk C (fun _ => hn))) (by rintro a' w' ⟨v, rfl, _⟩; exact put_defers _ _ _))
   rintro a' w' ⟨v, rfl, hb, hv⟩
   match vs, C.len, hn, C.now with
   | [x, va, vp], _, hn, hG =>
    simp only [List.getElem?_cons_zero, Option.some.injEq] at hn
    subst hn
    exact ⟨_, rfl, trivial, BCS.call hT hG hb hv⟩
  ·refine .inr ⟨1, rfl, h1, fun a w vs C hn => ?_⟩
   refine Oper.wpIn_mono ?_ (wpIn_of (h2 a w (mk C (fun q => absurd q hne1))) (by rintro a' w' ⟨rfl, _⟩; exact put_defers _ _ _))
   rintro a' w' ⟨rfl, rfl⟩
   match vs, C.len, hn, C.now with
   | [x, va, vp], _, hn, hG =>
    simp only [List.getElem?_cons_zero, List.getElem?_cons_succ, Option.some.injEq] at hn
    subst hn
    exact ⟨_, rfl, trivial, BCS.alloc k1 hG⟩
  ·refine .inr ⟨2, rfl, h1, fun a w vs C hn => ?_⟩
   have e0 := C.link 1 ia dp rfl h2
   match vs, C.len, hn, e0, C.now, C with
   | [x, va, vp], _, hn, e0, hG, C =>
    simp only [List.getElem?_cons_zero, List.getElem?_cons_succ, Option.some.injEq] at hn e0
    subst hn e0
    have hG' : BCS w0 T P1 t z y x (some (a.tmps.getD dp undef)) none w := hG
    obtain ⟨g, h5, h6, h7⟩ := hG'.box _ rfl
    rw [if_pos rfl] at h7
    refine Oper.wpIn_mono ?_ (wpIn_of (h3 a w g (mk C (fun q => absurd q hne2)) h5 h7) (by rintro a' w' ⟨v, rfl, _⟩; exact put_defers _ _ _))
    rintro a' w' ⟨v, rfl, h8, h9⟩
    refine ⟨v, rfl, trivial, ?_⟩
    show BCS w0 T P1 t z y x (some (a.tmps.getD dp undef)) (some v) w'
    rw [h5] at hG' ⊢
    exact BCS.store k1 hG' h8 h9
theorem WC.boxC {rid : Nat} {dr : Bool} {Q : Exit → Act → World → Prop} {n : Fr} {K : Known} {w : World} (T : Nat → Prop) (hT : ∀ b, T b → b < w.heap.size) (P1 : World → Value → Prop) (k1 : ∀ w1 w' v, Chg (fun b => w.heap.size ≤ b) w1 w' → P1 w1 v → P1 w' v) (l : List (Bool × Value)) (K0 : Known) {t : Nat} {z : Array Value} (y : Value) (ic ia ip da : Nat)
  (hd : ([ic, ia, ip]).Nodup) (hin : (([ic, ia, ip]).all fun c => Nat.blt c ops.size) = true) (hda : (ops[ia]?).bind (·.dst) = some da)
  (hs : subK K0 K) (hclear : clearB ops K0 = true) (hm : P.follows .mixedOrders = true) (hB : opsB ops n.n = true)
  (h : SoundBC P ops Q l n K0 w T P1 t z y ic ia ip 0 ops.toList)
  (hQ : ∀ (a : Act) (w' : World) (g : Nat) (v : Value), Kn n K0 a → Chg T w w' → P1 w' v → w.heap.size ≤ g → Blk w' g t (ycells y) → a.tmps.getD da undef = .pointer (some ⟨g, 0, none⟩) → (∀ i d, (ops[i]?).bind (·.dst) = some d → ([ic, ia, ip]).contains i = false → valR1 l i (a.tmps.getD d undef)) → Q .normal a w') :
  WC P n K w (.region rid ops dr) Q := by
 have hne : ia ≠ ic ∧ ip ≠ ic := by
  simp only [List.nodup_cons, List.mem_cons, List.not_mem_nil, or_false, not_or] at hd
  exact ⟨fun e => hd.1.1 e.symm, fun e => hd.1.2 e.symm⟩
 refine WC.gen [ic, ia, ip] (fun i v _ => valR1 l i v) (fun _ _ => True) (BCG w T P1 t z y) K0 hs hclear hm hB hd hin (fun _ _ _ _ h _ => h) ?_ (h.gen hne.1 hne.2 hT k1) (fun a w' vs hk hlen hall hG hu hl => ?_)
 ·have st : ∀ w' : World, Below w.heap.size w w' → BCS w T P1 t z y none none none w' := fun w' hb => ⟨.ofBelow hb, fun _ => hb, fun _ hv => (by cases hv), fun v hv => (by cases hv), fun _ => rfl⟩
  cases dr with
  | true => exact st _ (Below.refl _ _).drew
  | false => exact st _ (Below.refl _ _)
 ·obtain ⟨v0, hv0⟩ := hall 0 (by simp)
  obtain ⟨v1, hv1⟩ := hall 1 (by simp)
  obtain ⟨v2, hv2⟩ := hall 2 (by simp)
  have ha := hl 1 ia da rfl hda
  match vs, hlen, hv0, hv1, hv2, hG, ha with
  | [x, va, vp], _, hv0, hv1, hv2, hG, ha =>
   simp only [List.getElem?_cons_zero, List.getElem?_cons_succ, Option.some.injEq] at hv0 hv1 hv2 ha
   subst hv0 hv2 ha
   have hG' : BCS w T P1 t z y (some v0) (some (a.tmps.getD da undef)) (some v2) w' := hG
   obtain ⟨g, e1, h1, h2⟩ := hG'.box _ rfl
   rw [if_neg (by simp)] at h2
   exact hQ a w' g v0 hk hG'.chg (hG'.md _ rfl) h1 h2 e1 hu
end
end Go.Proofs.Ythhgidliopohcaa

/- What a part becomes: the program. -/
namespace Go.Proofs.Ythhgidliopohcaa
open Go.RowKit Go
set_option linter.unusedVariables false
set_option linter.unusedSimpArgs false
section
variable {α : Type} {E : Elt α} {S : Nat → Prop} {w : World} {e n c : Nat} {a : Option Addr} {l : List α}
theorem RowD.inRowT (h : RowD E S w e a c n l) : InRow E (fun b => S b ∨ (Value.slice a n c).ownBlock = some b) w l a := by
 rcases Nat.eq_zero_or_pos n with h0 | h0
 ·have := h.len
  exact fun i hi => by omega
 ·obtain ⟨b, e1, e2, h3⟩ := h.opn h0
  intro i hi
  obtain ⟨cs, h4, h5⟩ := h3 i hi
  exact ⟨b, 0, cs, e1, .inr e2, E.mono (fun b q _ => .inl q) h4, h5⟩
end
theorem inT_rowT {S : Nat → Prop} {w : World} {e : Nat} {f : Int} {ts : List T} {ra : Option Addr} {n rc : Nat} {N : Nat → Prop} (hf : I64 f) (h : RowD eltT N w e ra rc n ts) (hN : ∀ b, N b → S b) (ho : ∀ b, (Value.slice ra n rc).ownBlock = some b → S b) : InT S w (.mk f ts) (.agg #[.int .i64 f, .slice ra n rc]) := by
 have hr := h.inRow
 have hl := h.len
 subst hl
 exact ⟨hf, ra, rc, rfl, hr.2.1, hr.2.2, (h.inRowT.mono (by decide) (fun b q _ => q.elim (hN b) (ho b))).ts⟩
set_option maxRecDepth 100000 in
theorem pterm_any (κ d sz dp : Nat → Nat) (N : List Pt) (V : Nat → Nat) (g : Nat) (S : Nat → Prop) (ub uc : Nat) (oa : Option Addr) (oc : Nat) (hk : KOk N κ) (hN : NOk N) (hn : N.length ≤ 1048576) (hs : argN N ≤ 1048576) (hI : ∀ i, i < N.length → I64 (pget N i).fn) (hm : Meas N κ sz dp) : ∀ (n : Nat) (U : List Nat) (i : Nat) (w : World), dp (κ i) ≤ n → PN w g S (some ⟨ub, 0, none⟩) uc oa oc U N V → Reps U κ d → i < N.length →
  Calls Try.prog 26 #[.pointer (some ⟨g, 0, none⟩), .int .i64 (i : Int)] w (Ret fun v' w' => NewT w w' (tmF N κ n i) v' ∧ (∃ U', Reps U' κ d ∧ PN w' g S (some ⟨ub, 0, none⟩) uc oa oc U' N V) ∧ Chg (fun b => b = ub) w w') := by
 intro n
 induction n with
 | zero => intro U i w h _ _ hi; have := (dpF_ge κ dp (pget N (κ i)).args 1).1; have e := hm.dp i hi; unfold dpF at e; omega
 | succ m ih => ?_
 intro U i w hdp hP hR hi
 have hC0 := Chg.refl (fun b => b = ub) w
 have hlr : κ i < N.length := hk.lt _ hi
 have hal9 := args_le hlr
 have hlt0 := hP.lt
 have hub := hlt0 ub (.inr (.inl rfl))
 have hgl := hlt0 g (.inl rfl)
 have hgu : g ≠ ub := fun e => (hP.uS ub rfl).2.1 e.symm
 have hSlt : ∀ b, S b → b < w.heap.size := fun b q => (hP.sS b q).2
 have hSub : ∀ b, S b → b ≠ ub := fun b q e => (hP.uS ub rfl).1 (e ▸ q)
 have hf := hI _ hlr
 obtain ⟨ob, A9, C9, rfl, hob, hcP⟩ := hP.ofP (by omega)
 have hou : ob ≠ ub := fun e => (hP.uS ub rfl).2.2 (by rw [hob, e])
 have hml : ∀ k, k < (pget N (κ i)).args.length → aget (pget N (κ i)).args k < N.length ∧ dp (κ (aget (pget N (κ i)).args k)) ≤ m := fun k hk2 => by
  have z := (hN (κ i) hlr).1 _ (aget_mem hk2)
  have z2 := hm.lt hi (aget_mem hk2)
  exact ⟨by omega, by omega⟩
 refine Calls.walk (l := [.pointer (some ⟨g, 0, none⟩), .int .i64 (((i : Nat) : Int))]) Try.func26 rfl (by kernel_rfl) ?_
 refine WC.sub (K' := [(0, .pointer (some ⟨g, 0, none⟩)), (1, .int .i64 (((i : Nat) : Int)))]) ⟨rfl, rfl, trivial⟩ ?_
 refine WC.seq (WC.region ?_)
 refine WL.step (post := NewBlk w 32 #[.int .i64 0, .slice none 0 0]) rfl rfl rfl (fun za zC zh zk => alloc_32 rfl (zk _ _ (newBlk _ _ _))) ?_
 rintro _ w1 ⟨g2, rfl, hg3, hB4, hb5, hz6⟩
 have hl7 : w.heap.size ≤ g2 := by omega
 refine WL.nil (WE.next (WC.seq ?_))
 have ho8 := hP.below hb5
 have ho9 := (hcP (κ i) hlr).2.2.below hb5
 have hC10 := Chg.trans hC0 (.ofBelow hb5)
 have hcP11 := fun k (hk2 : k < N.length) => (hcP k hk2)
 have hlt1 := ho8.lt
 have hw1 := (hC10).size
 have hcQ : ∀ k, k < N.length → w1.cell? ⟨ob, 0 + k * 2, none⟩ = some (.int .i64 (pget N k).fn) ∧ w1.cell? ⟨ob, 0 + k * 2 + 1, none⟩ = some (.slice (A9 k) (pget N k).args.length (C9 k)) := fun k hk2 => ⟨bkeeps hb5 _ _ (hcP k hk2).1, bkeeps hb5 _ _ (hcP k hk2).2.1⟩
 refine WC.boxC ((fun b => b = ub)) ((fun b e => by rw [show b = ub from e]; omega)) ((fun w' v => v = .int .i64 ((κ i : Nat) : Int) ∧ ∃ U1, Reps U1 κ d ∧ PN w' g S (some ⟨ub, 0, none⟩) uc (some ⟨ob, 0, none⟩) oc U1 N V)) ((fun w1 w2 v h z => by obtain ⟨e, U1, m1, m2⟩ := z; exact ⟨e, U1, m1, m2.chg h (fun b q q2 => by have z := hlt1 b q; omega)⟩)) [(true, .pointer (some ⟨g, 0, none⟩)), (true, .pointer (some ⟨g, 0, none⟩)), (true, .pointer (some ⟨g, 0, none⟩)), (true, .pointer (some ⟨g, 1, none⟩)), (true, .slice ((some ⟨ob, 0, none⟩)) N.length oc), (true, .pointer (some ⟨g, 0, none⟩)), (true, .pointer (some ⟨g, 0, none⟩)), (true, .pointer (some ⟨g, 0, none⟩)), (true, .int .i64 (((i : Nat) : Int))), (true, undef), (true, .pointer (some ⟨ob, 0 + ((κ i)) * 2, none⟩)), (true, .agg #[.int .i64 ((pget N ((κ i))).fn), .slice ((A9 ((κ i)))) ((pget N ((κ i))).args.length) ((C9 ((κ i))))]), (true, undef), (true, undef)] [(0, .pointer (some ⟨g, 0, none⟩)), (1, .int .i64 (((i : Nat) : Int))), (4, .pointer (some ⟨g2, 0, none⟩))] (t := 57) (z := #[.int .i64 0, .slice none 0 0]) (.agg #[.int .i64 ((pget N ((κ i))).fn), .slice ((A9 ((κ i)))) ((pget N ((κ i))).args.length) ((C9 ((κ i))))]) 9 12 13 5 (by decide) (by kernel_rfl) rfl ⟨rfl, rfl, rfl, trivial⟩ (by kernel_rfl) (by kernel_rfl) (by kernel_rfl) ?_ ?_
 ·refine ⟨.inl ⟨rfl, rfl, fun za zw zc => ?_⟩, ?_⟩
  ·exact wp_move rfl (zc.kn.ev rfl) ⟨_, rfl, Below.refl _ _, fun _ => rfl⟩
  refine ⟨.inl ⟨rfl, rfl, fun za zw zc => ?_⟩, ?_⟩
  ·exact nilCheck_ rfl ((evt za 9).trans (valVal1 (zc.dep 0 9 (by kernel_rfl) (by decide)) rfl rfl)) ⟨_, rfl, Below.refl _ _, fun _ => rfl⟩
  refine ⟨.inl ⟨rfl, rfl, fun za zw zc => ?_⟩, ?_⟩
  ·exact fld_54_0 rfl ((evt za 10).trans (valVal1 (zc.dep 1 10 (by kernel_rfl) (by decide)) rfl rfl)) ⟨_, rfl, Below.refl _ _, fun _ => rfl⟩
  refine ⟨.inl ⟨rfl, rfl, fun za zw zc => ?_⟩, ?_⟩
  ·exact fld_51_1 rfl ((evt za 11).trans (valVal1 (zc.dep 2 11 (by kernel_rfl) (by decide)) rfl rfl)) ⟨_, rfl, Below.refl _ _, fun _ => rfl⟩
  refine ⟨.inl ⟨rfl, rfl, fun za zw zc => ?_⟩, ?_⟩
  ·exact ld_49 rfl ((evt za 12).trans (valVal1 (zc.dep 3 12 (by kernel_rfl) (by decide)) rfl rfl)) (chg_cell zc.chg (by first | exact hgu | exact hou) ho8.c1) ⟨_, rfl, Below.refl _ _, fun _ => rfl⟩
  refine ⟨.inl ⟨rfl, rfl, fun za zw zc => ?_⟩, ?_⟩
  ·exact wp_move rfl (zc.kn.ev rfl) ⟨_, rfl, Below.refl _ _, fun _ => rfl⟩
  refine ⟨.inl ⟨rfl, rfl, fun za zw zc => ?_⟩, ?_⟩
  ·exact nilCheck_ rfl ((evt za 14).trans (valVal1 (zc.dep 5 14 (by kernel_rfl) (by decide)) rfl rfl)) ⟨_, rfl, Below.refl _ _, fun _ => rfl⟩
  refine ⟨.inl ⟨rfl, rfl, fun za zw zc => ?_⟩, ?_⟩
  ·exact fld_54_0 rfl ((evt za 15).trans (valVal1 (zc.dep 6 15 (by kernel_rfl) (by decide)) rfl rfl)) ⟨_, rfl, Below.refl _ _, fun _ => rfl⟩
  refine ⟨.inl ⟨rfl, rfl, fun za zw zc => ?_⟩, ?_⟩
  ·exact wp_move rfl (zc.kn.ev rfl) ⟨_, rfl, Below.refl _ _, fun _ => rfl⟩
  refine ⟨.inr (.inl ⟨rfl, rfl, fun za zw zc => ?_⟩), ?_⟩
  ·exact wp_call (by kernel_rfl) rfl (hv2 ((evt za 16).trans (valVal1 (zc.dep 7 16 (by kernel_rfl) (by decide)) rfl rfl)) ((evt za 17).trans (valVal1 (zc.dep 8 17 (by kernel_rfl) (by decide)) rfl rfl))) (ptop_pn κ d U N V g S ub uc _ oc i _ (ho8.below (zc.below (.inl rfl))) hR hi hn) (fun v w' h => by obtain ⟨m1, ⟨U2, m2, m3⟩, m4⟩ := h; exact ⟨v, rfl, m4, m1, U2, m2, m3⟩)
  refine ⟨.inl ⟨rfl, rfl, fun za zw zc => ?_⟩, ?_⟩
  ·exact ix_49 (k := (κ i)) rfl ((evt za 13).trans (valVal1 (zc.dep 4 13 (by kernel_rfl) (by decide)) rfl rfl)) rfl ((evt za 18).trans (zc.made 18 (by kernel_rfl)).1) (by first | omega | (simp; omega)) ⟨_, rfl, Below.refl _ _, fun _ => rfl⟩
  refine ⟨.inl ⟨rfl, rfl, fun za zw zc => ?_⟩, ?_⟩
  ·exact ld_57 rfl ((evt za 19).trans (valVal1 (zc.dep 10 19 (by kernel_rfl) (by decide)) rfl rfl)) (chg_cell zc.chg (by first | exact hgu | exact hou) (hcQ ((κ i)) (by first | omega | (simp; omega))).1) (chg_cell zc.chg (by first | exact hgu | exact hou) (hcQ ((κ i)) (by first | omega | (simp; omega))).2) ⟨_, rfl, Below.refl _ _, fun _ => rfl⟩
  refine ⟨.inr (.inr (.inl ⟨rfl, rfl, fun za zw zc => ?_⟩)), ?_⟩
  ·exact alloc_57 rfl ⟨rfl, rfl⟩
  refine ⟨.inr (.inr (.inr ⟨rfl, rfl, 5, by kernel_rfl, fun za zw g zc z1 zB => ?_⟩)), ?_⟩
  ·exact st_57 rfl ((evt za 5).trans z1) ((evt za 20).trans (valVal1 (zc.dep 11 20 (by kernel_rfl) (by decide)) rfl rfl)) rfl rfl zB (by first | decide | simp) (fun v => ⟨v, rfl, (Upd.at_ _ _ _ _).trans (Upd.at_ _ _ _ _), (zB.set_ 0 _).set_ 1 _⟩)
  exact trivial
 ·intro za w12 gz13 v14 zh hc15 hq16 hg17 hB18 hp19 zu
  have hl20 : g2 < gz13 := by have z1 := hB4.lt; omega
  have hB21 := chg_blk hB4 hc15 (fun e => by (try dsimp only at e); omega)
  have zh := zh.cons (d := 5) hp19
  clear zu
  obtain ⟨_, U1, hR1, hP1⟩ := hq16
  have hC22 := Chg.trans hC10 hc15
  have ha23 := ho9.chgS hc15 (fun b q e => hSub b q e)
  refine WE.go zh ?_
  refine WE.next (WC.seq (WC.region ?_))
  refine WL.val _ rfl rfl rfl (fun za zC zh zk => fld_57_0 rfl (zh.ev rfl) zk) ?_
  refine WL.val _ rfl rfl rfl (fun za zC zh zk => ld_3 rfl (zh.ev rfl) ((hB18.cell 0).trans rfl) zk) ?_
  refine WL.val (.agg #[.int .i64 ((pget N ((κ i))).fn), .slice none 0 0]) rfl rfl rfl (fun za zC zh zk => build_32_0 rfl (zh.ev rfl) zk) ?_
  refine WL.step (post := NewBlk w12 32 #[.int .i64 0, .slice none 0 0]) rfl rfl rfl (fun za zC zh zk => alloc_32 rfl (zk _ _ (newBlk _ _ _))) ?_
  rintro _ w24 ⟨g25, rfl, hg26, hB27, hb28, hz29⟩
  have hl30 : g2 < g25 := by have z1 := hB21.lt; omega
  have hl31 : gz13 < g25 := by have z1 := hB18.lt; omega
  have hl32 : w12.heap.size ≤ g25 := by omega
  refine WL.step (post := fun _ w' => Upd g25 w24 w' ∧ Blk w' g25 32 #[.int .i64 ((pget N ((κ i))).fn), .slice none 0 0]) rfl rfl rfl (fun za zC zh zk => st_32 rfl (zh.ev rfl) (zh.ev rfl) rfl rfl hB27 (by first | decide | simp) (fun v => zk v _ ⟨(Upd.at_ _ _ _ _).trans (Upd.at_ _ _ _ _), (hB27.set_ 0 _).set_ 1 _⟩)) ?_
  rintro v36 w33 ⟨hu34, hB35⟩
  have hb37 := upd_below hb28 hu34 (by omega)
  have hB38 := hB21.below hb28
  have hB39 := upd_blk hB38 hu34 (by omega)
  have hB40 := hB18.below hb28
  have hB41 := upd_blk hB40 hu34 (by omega)
  refine WL.nil (WE.next (WC.seq (WC.seq (WC.region ?_))))
  refine WL.val _ rfl rfl rfl (fun za zC zh zk => fld_57_1 rfl (zh.ev rfl) zk) ?_
  refine WL.val _ rfl rfl rfl (fun za zC zh zk => ld_48 rfl (zh.ev rfl) ((hB41.cell 1).trans rfl) zk) ?_
  refine WL.val (.int .i64 ((((pget N ((κ i))).args.length : Nat) : Int))) rfl rfl rfl (fun za zC zh zk => len_48 rfl (zh.ev rfl) zk) ?_
  refine WL.mv rfl rfl rfl rfl rfl (WL.nil (WE.next (WC.block ?_)))
  have hC42 := Chg.trans hC22 (.ofBelow hb37)
  have hr0 : RowD eltT (fun b => w.heap.size ≤ b ∧ b ≠ g2 ∧ b ≠ gz13 ∧ b ≠ g25 ∧ obk none 0 0 ≠ some b) w33 32 none 0 0 ((((pget N (κ i)).args.map (tmF N κ m)).take 0)) := RowD.nil
  have hgw43 : w.heap.size ≤ g2 := by have z := (hC42).size; omega
  have hgw44 : w.heap.size ≤ gz13 := by have z := (hC42).size; omega
  have hgw45 : w.heap.size ≤ g25 := by have z := (hC42).size; omega
  refine WC.loop (X := Nat × Option Addr × Nat × List Nat) (fun x => (pget N (κ i)).args.length - x.1) (fun x => [(0, .pointer (some ⟨g, 0, none⟩)), (1, .int .i64 (((i : Nat) : Int))), (4, .pointer (some ⟨g2, 0, none⟩)), (5, .pointer (some ⟨gz13, 0, none⟩)), (6, .pointer (some ⟨g25, 0, none⟩)), (25, .slice ((A9 ((κ i)))) ((pget N ((κ i))).args.length) ((C9 ((κ i))))), (26, .int .i64 ((((pget N ((κ i))).args.length : Nat) : Int))), (27, .int .i64 (((x.1 : Nat) : Int)))]) (fun x w46 => x.1 ≤ (pget N (κ i)).args.length ∧ Reps x.2.2.2 κ d ∧ (∀ q, obk x.2.1 x.1 x.2.2.1 = some q → w.heap.size ≤ q ∧ q ≠ g2 ∧ q ≠ gz13 ∧ q ≠ g25) ∧ Chg (fun b => b = ub) w w46 ∧ Blk w46 g2 32 #[.int .i64 0, .slice none 0 0] ∧ Blk w46 gz13 57 #[.int .i64 ((pget N ((κ i))).fn), .slice ((A9 ((κ i)))) ((pget N ((κ i))).args.length) ((C9 ((κ i))))] ∧ Blk w46 g25 32 #[.int .i64 ((pget N (κ i)).fn), .slice x.2.1 x.1 x.2.2.1] ∧ PN (w46) g S (some ⟨ub, 0, none⟩) uc (some ⟨ob, 0, none⟩) oc x.2.2.2 N V ∧ InRow eltN S (w46) (pget N (κ i)).args (A9 (κ i)) ∧ RowD eltT (fun b => w.heap.size ≤ b ∧ b ≠ g2 ∧ b ≠ gz13 ∧ b ≠ g25 ∧ obk x.2.1 x.1 x.2.2.1 ≠ some b) (w46) 32 x.2.1 x.2.2.1 x.1 ((((pget N (κ i)).args.map (tmF N κ m)).take x.1))) ((0, none, 0, U1)) ⟨rfl, rfl, rfl, rfl, rfl, rfl, rfl, rfl, trivial⟩ ?_ ?_
  ·have ho47 := hP1.below hb37
   have ho48 := ha23.below hb37
   exact ⟨Nat.zero_le _, hR1, (fun q e => nomatch e), hC42, hB39, hB41, hB35, ho47, ho48, hr0⟩
  ·rintro x w46 ⟨hkx, hRx, hownx, hCx, hB49, hB50, hB51, ho52, ho53, ho54⟩
   have hwx := hCx.size
   refine WC.seq (WC.region ?_)
   refine WL.val (.bool ((decide ((((x.1 : Nat) : Int) : Int) < ((((pget N ((κ i))).args.length : Nat) : Int) : Int))))) rfl rfl rfl (fun za zC zh zk => lss_3 rfl (zh.ev rfl) (zh.ev rfl) zk) ?_
   refine WL.nil (WE.next (WC.seq ?_))
   refine WC.cond rfl (fun h55 => ?_) (fun h55 => ?_)
   ·have h55 : (((x.1 : Nat) : Int) : Int) < ((((pget N ((κ i))).args.length : Nat) : Int) : Int) := by simpa using h55
    refine WC.skip (WE.next (WC.seq (WC.block (WC.seq (WC.region ?_)))))
    obtain ⟨b56, o57, ha58, hS59, hc60⟩ := InRow.openNS ho53
    have hSb61 := hS59 x.1 (by first | omega | (simp; omega))
    refine WL.val _ rfl rfl rfl (fun za zC zh zk => ix_48 (k := x.1) rfl (zh.ev rfl) (ha58 x.1 (by first | omega | (simp; omega))) (zh.ev rfl) (by first | omega | (simp; omega)) zk) ?_
    refine WL.val _ rfl rfl rfl (fun za zC zh zk => ld_3 rfl (zh.ev rfl) (hc60 x.1 (by first | omega | (simp; omega))) zk) ?_
    refine WL.asg rfl rfl rfl rfl rfl (WL.nil (WE.next ?_))
    have hl62 : g2 < w46.heap.size := hB49.lt
    have hl63 : gz13 < w46.heap.size := hB50.lt
    have hl64 : g25 < w46.heap.size := hB51.lt
    have hkl : x.1 < (pget N (κ i)).args.length := by omega
    obtain ⟨hal, hdl⟩ := hml x.1 hkl
    have hkw : ∀ b, obk x.2.1 x.1 x.2.2.1 = some b → b < w46.heap.size := ho54.lt
    have hcap9 := ho54.inRow.2.2
    unfold maxLen at hcap9
    have hww : w.heap.size ≤ w46.heap.size := (hCx).size
    have hLs : (((pget N (κ i)).args.map (tmF N κ m)).take (x.1 + 1)) = (((pget N (κ i)).args.map (tmF N κ m)).take x.1) ++ [(tmF N κ m (aget (pget N (κ i)).args x.1))] := by rw [List.take_succ_eq_append_getElem (by rw [List.length_map]; exact hkl), List.getElem_map, aget_lt hkl]
    have hng : ∀ (wa wb : World), Below wa.heap.size wa wb → (∃ U2, Reps U2 κ d ∧ PN wa g S (some ⟨ub, 0, none⟩) uc (some ⟨ob, 0, none⟩) oc U2 N V) → (∃ U2, Reps U2 κ d ∧ PN wb g S (some ⟨ub, 0, none⟩) uc (some ⟨ob, 0, none⟩) oc U2 N V) := fun wa wb hb ⟨U2, k1, k2⟩ => ⟨U2, k1, k2.below hb⟩
    have hGV9 : ∀ (vals : List Value) (wa wb : World), Below wa.heap.size wa wb → (fun vals wz => match vals with | [] => (∃ U2, Reps U2 κ d ∧ PN wz g S (some ⟨ub, 0, none⟩) uc (some ⟨ob, 0, none⟩) oc U2 N V) ∧ (RowD eltT (fun b => w.heap.size ≤ b ∧ b ≠ g2 ∧ b ≠ gz13 ∧ b ≠ g25 ∧ obk x.2.1 x.1 x.2.2.1 ≠ some b) wz 32 x.2.1 x.2.2.1 x.1 ((((pget N (κ i)).args.map (tmF N κ m)).take x.1))) ∧ Blk wz g25 32 #[.int .i64 (pget N (κ i)).fn, .slice x.2.1 x.1 x.2.2.1] | [z0] => InT (fun b => w46.heap.size ≤ b) wz (tmF N κ m (aget (pget N (κ i)).args x.1)) z0 ∧ (∃ U2, Reps U2 κ d ∧ PN wz g S (some ⟨ub, 0, none⟩) uc (some ⟨ob, 0, none⟩) oc U2 N V) ∧ (RowD eltT (fun b => w.heap.size ≤ b ∧ b ≠ g2 ∧ b ≠ gz13 ∧ b ≠ g25 ∧ obk x.2.1 x.1 x.2.2.1 ≠ some b) wz 32 x.2.1 x.2.2.1 x.1 ((((pget N (κ i)).args.map (tmF N κ m)).take x.1))) ∧ Blk wz g25 32 #[.int .i64 (pget N (κ i)).fn, .slice x.2.1 x.1 x.2.2.1] | [_, z1] => (∃ g1 cs, z1 = .slice (some ⟨g1, 0, none⟩) 1 1 ∧ Blk wz g1 32 (List.toArray cs) ∧ eltT.In (fun b => w46.heap.size ≤ b) wz (tmF N κ m (aget (pget N (κ i)).args x.1)) cs) ∧ (∃ U2, Reps U2 κ d ∧ PN wz g S (some ⟨ub, 0, none⟩) uc (some ⟨ob, 0, none⟩) oc U2 N V) ∧ (RowD eltT (fun b => w.heap.size ≤ b ∧ b ≠ g2 ∧ b ≠ gz13 ∧ b ≠ g25 ∧ obk x.2.1 x.1 x.2.2.1 ≠ some b) wz 32 x.2.1 x.2.2.1 x.1 ((((pget N (κ i)).args.map (tmF N κ m)).take x.1))) ∧ Blk wz g25 32 #[.int .i64 (pget N (κ i)).fn, .slice x.2.1 x.1 x.2.2.1] | [_, _, z2] => ∃ ra2 rc2, z2 = .slice ra2 (x.1 + 1) rc2 ∧ (RowD eltT (fun b => w.heap.size ≤ b ∧ b ≠ g2 ∧ b ≠ gz13 ∧ b ≠ g25 ∧ obk ra2 ((x.1 + 1)) rc2 ≠ some b) wz 32 ra2 rc2 ((x.1 + 1)) (((((pget N (κ i)).args.map (tmF N κ m)).take x.1) ++ [(tmF N κ m (aget (pget N (κ i)).args x.1))]))) ∧ (∀ q, obk ra2 ((x.1 + 1)) rc2 = some q → w.heap.size ≤ q ∧ q ≠ g2 ∧ q ≠ gz13 ∧ q ≠ g25) ∧ (∃ U2, Reps U2 κ d ∧ PN wz g S (some ⟨ub, 0, none⟩) uc (some ⟨ob, 0, none⟩) oc U2 N V) ∧ Blk wz g25 32 #[.int .i64 (pget N (κ i)).fn, .slice x.2.1 x.1 x.2.2.1] | [_, _, z2, _] => ∃ ra2 rc2, z2 = .slice ra2 (x.1 + 1) rc2 ∧ (RowD eltT (fun b => w.heap.size ≤ b ∧ b ≠ g2 ∧ b ≠ gz13 ∧ b ≠ g25 ∧ obk ra2 ((x.1 + 1)) rc2 ≠ some b) wz 32 ra2 rc2 ((x.1 + 1)) (((((pget N (κ i)).args.map (tmF N κ m)).take x.1) ++ [(tmF N κ m (aget (pget N (κ i)).args x.1))]))) ∧ (∀ q, obk ra2 ((x.1 + 1)) rc2 = some q → w.heap.size ≤ q ∧ q ≠ g2 ∧ q ≠ gz13 ∧ q ≠ g25) ∧ (∃ U2, Reps U2 κ d ∧ PN wz g S (some ⟨ub, 0, none⟩) uc (some ⟨ob, 0, none⟩) oc U2 N V) ∧ Blk wz g25 32 #[.int .i64 (pget N (κ i)).fn, .slice ra2 (x.1 + 1) rc2] | _ => False) vals wa → (fun vals wz => match vals with | [] => (∃ U2, Reps U2 κ d ∧ PN wz g S (some ⟨ub, 0, none⟩) uc (some ⟨ob, 0, none⟩) oc U2 N V) ∧ (RowD eltT (fun b => w.heap.size ≤ b ∧ b ≠ g2 ∧ b ≠ gz13 ∧ b ≠ g25 ∧ obk x.2.1 x.1 x.2.2.1 ≠ some b) wz 32 x.2.1 x.2.2.1 x.1 ((((pget N (κ i)).args.map (tmF N κ m)).take x.1))) ∧ Blk wz g25 32 #[.int .i64 (pget N (κ i)).fn, .slice x.2.1 x.1 x.2.2.1] | [z0] => InT (fun b => w46.heap.size ≤ b) wz (tmF N κ m (aget (pget N (κ i)).args x.1)) z0 ∧ (∃ U2, Reps U2 κ d ∧ PN wz g S (some ⟨ub, 0, none⟩) uc (some ⟨ob, 0, none⟩) oc U2 N V) ∧ (RowD eltT (fun b => w.heap.size ≤ b ∧ b ≠ g2 ∧ b ≠ gz13 ∧ b ≠ g25 ∧ obk x.2.1 x.1 x.2.2.1 ≠ some b) wz 32 x.2.1 x.2.2.1 x.1 ((((pget N (κ i)).args.map (tmF N κ m)).take x.1))) ∧ Blk wz g25 32 #[.int .i64 (pget N (κ i)).fn, .slice x.2.1 x.1 x.2.2.1] | [_, z1] => (∃ g1 cs, z1 = .slice (some ⟨g1, 0, none⟩) 1 1 ∧ Blk wz g1 32 (List.toArray cs) ∧ eltT.In (fun b => w46.heap.size ≤ b) wz (tmF N κ m (aget (pget N (κ i)).args x.1)) cs) ∧ (∃ U2, Reps U2 κ d ∧ PN wz g S (some ⟨ub, 0, none⟩) uc (some ⟨ob, 0, none⟩) oc U2 N V) ∧ (RowD eltT (fun b => w.heap.size ≤ b ∧ b ≠ g2 ∧ b ≠ gz13 ∧ b ≠ g25 ∧ obk x.2.1 x.1 x.2.2.1 ≠ some b) wz 32 x.2.1 x.2.2.1 x.1 ((((pget N (κ i)).args.map (tmF N κ m)).take x.1))) ∧ Blk wz g25 32 #[.int .i64 (pget N (κ i)).fn, .slice x.2.1 x.1 x.2.2.1] | [_, _, z2] => ∃ ra2 rc2, z2 = .slice ra2 (x.1 + 1) rc2 ∧ (RowD eltT (fun b => w.heap.size ≤ b ∧ b ≠ g2 ∧ b ≠ gz13 ∧ b ≠ g25 ∧ obk ra2 ((x.1 + 1)) rc2 ≠ some b) wz 32 ra2 rc2 ((x.1 + 1)) (((((pget N (κ i)).args.map (tmF N κ m)).take x.1) ++ [(tmF N κ m (aget (pget N (κ i)).args x.1))]))) ∧ (∀ q, obk ra2 ((x.1 + 1)) rc2 = some q → w.heap.size ≤ q ∧ q ≠ g2 ∧ q ≠ gz13 ∧ q ≠ g25) ∧ (∃ U2, Reps U2 κ d ∧ PN wz g S (some ⟨ub, 0, none⟩) uc (some ⟨ob, 0, none⟩) oc U2 N V) ∧ Blk wz g25 32 #[.int .i64 (pget N (κ i)).fn, .slice x.2.1 x.1 x.2.2.1] | [_, _, z2, _] => ∃ ra2 rc2, z2 = .slice ra2 (x.1 + 1) rc2 ∧ (RowD eltT (fun b => w.heap.size ≤ b ∧ b ≠ g2 ∧ b ≠ gz13 ∧ b ≠ g25 ∧ obk ra2 ((x.1 + 1)) rc2 ≠ some b) wz 32 ra2 rc2 ((x.1 + 1)) (((((pget N (κ i)).args.map (tmF N κ m)).take x.1) ++ [(tmF N κ m (aget (pget N (κ i)).args x.1))]))) ∧ (∀ q, obk ra2 ((x.1 + 1)) rc2 = some q → w.heap.size ≤ q ∧ q ≠ g2 ∧ q ≠ gz13 ∧ q ≠ g25) ∧ (∃ U2, Reps U2 κ d ∧ PN wz g S (some ⟨ub, 0, none⟩) uc (some ⟨ob, 0, none⟩) oc U2 N V) ∧ Blk wz g25 32 #[.int .i64 (pget N (κ i)).fn, .slice ra2 (x.1 + 1) rc2] | _ => False) vals wb := by
     intro vals wa wb hb h
     match vals, h with
     | [], h => exact ⟨hng _ _ hb h.1, h.2.1.below hb, h.2.2.below hb⟩
     | [z0], h => exact ⟨h.1.below hb, hng _ _ hb h.2.1, h.2.2.1.below hb, h.2.2.2.below hb⟩
     | [_, z1], h =>
      obtain ⟨⟨g1, cs, e, k1, k2⟩, k3, k4, k5⟩ := h
      exact ⟨⟨g1, cs, e, k1.below hb, Elt.below (E := eltT) k2 hb⟩, hng _ _ hb k3, k4.below hb, k5.below hb⟩
     | [_, _, z2], h =>
      obtain ⟨ra2, rc2, e, k1, k2, k3, k4⟩ := h
      exact ⟨ra2, rc2, e, k1.below hb, k2, hng _ _ hb k3, k4.below hb⟩
     | [_, _, z2, _], h =>
      obtain ⟨ra2, rc2, e, k1, k2, k3, k4⟩ := h
      exact ⟨ra2, rc2, e, k1.below hb, k2, hng _ _ hb k3, k4.below hb⟩
    refine WC.seqV (S := ((fun b => b = ub ∨ obk x.2.1 x.1 x.2.2.1 = some b ∨ b = g25))) [(true, .val (.pointer (some ⟨g25, 1, none⟩))), (true, .val (.slice x.2.1 x.1 x.2.2.1)), (true, .val (.pointer (some ⟨g, 0, none⟩))), (true, .val (.int .i64 ((((aget ((pget N (κ i)).args) x.1) : Nat) : Int)))), (true, .val undef), (true, .val undef), (true, .val undef), (true, .val (.pointer (some ⟨g25, 1, none⟩))), (true, .val undef)] [(0, .pointer (some ⟨g, 0, none⟩)), (1, .int .i64 (((i : Nat) : Int))), (4, .pointer (some ⟨g2, 0, none⟩)), (5, .pointer (some ⟨gz13, 0, none⟩)), (6, .pointer (some ⟨g25, 0, none⟩)), (8, .int .i64 ((((aget ((pget N (κ i)).args) x.1) : Nat) : Int))), (25, .slice ((A9 ((κ i)))) ((pget N ((κ i))).args.length) ((C9 ((κ i))))), (26, .int .i64 ((((pget N ((κ i))).args.length : Nat) : Int))), (27, .int .i64 (((x.1 : Nat) : Int))), (28, .bool ((decide ((((x.1 : Nat) : Int) : Int) < ((((pget N ((κ i))).args.length : Nat) : Int) : Int)))))] [4, 5, 6, 8] [none, none, none, none] (fun vals wz => match vals with | [] => (∃ U2, Reps U2 κ d ∧ PN wz g S (some ⟨ub, 0, none⟩) uc (some ⟨ob, 0, none⟩) oc U2 N V) ∧ (RowD eltT (fun b => w.heap.size ≤ b ∧ b ≠ g2 ∧ b ≠ gz13 ∧ b ≠ g25 ∧ obk x.2.1 x.1 x.2.2.1 ≠ some b) wz 32 x.2.1 x.2.2.1 x.1 ((((pget N (κ i)).args.map (tmF N κ m)).take x.1))) ∧ Blk wz g25 32 #[.int .i64 (pget N (κ i)).fn, .slice x.2.1 x.1 x.2.2.1] | [z0] => InT (fun b => w46.heap.size ≤ b) wz (tmF N κ m (aget (pget N (κ i)).args x.1)) z0 ∧ (∃ U2, Reps U2 κ d ∧ PN wz g S (some ⟨ub, 0, none⟩) uc (some ⟨ob, 0, none⟩) oc U2 N V) ∧ (RowD eltT (fun b => w.heap.size ≤ b ∧ b ≠ g2 ∧ b ≠ gz13 ∧ b ≠ g25 ∧ obk x.2.1 x.1 x.2.2.1 ≠ some b) wz 32 x.2.1 x.2.2.1 x.1 ((((pget N (κ i)).args.map (tmF N κ m)).take x.1))) ∧ Blk wz g25 32 #[.int .i64 (pget N (κ i)).fn, .slice x.2.1 x.1 x.2.2.1] | [_, z1] => (∃ g1 cs, z1 = .slice (some ⟨g1, 0, none⟩) 1 1 ∧ Blk wz g1 32 (List.toArray cs) ∧ eltT.In (fun b => w46.heap.size ≤ b) wz (tmF N κ m (aget (pget N (κ i)).args x.1)) cs) ∧ (∃ U2, Reps U2 κ d ∧ PN wz g S (some ⟨ub, 0, none⟩) uc (some ⟨ob, 0, none⟩) oc U2 N V) ∧ (RowD eltT (fun b => w.heap.size ≤ b ∧ b ≠ g2 ∧ b ≠ gz13 ∧ b ≠ g25 ∧ obk x.2.1 x.1 x.2.2.1 ≠ some b) wz 32 x.2.1 x.2.2.1 x.1 ((((pget N (κ i)).args.map (tmF N κ m)).take x.1))) ∧ Blk wz g25 32 #[.int .i64 (pget N (κ i)).fn, .slice x.2.1 x.1 x.2.2.1] | [_, _, z2] => ∃ ra2 rc2, z2 = .slice ra2 (x.1 + 1) rc2 ∧ (RowD eltT (fun b => w.heap.size ≤ b ∧ b ≠ g2 ∧ b ≠ gz13 ∧ b ≠ g25 ∧ obk ra2 ((x.1 + 1)) rc2 ≠ some b) wz 32 ra2 rc2 ((x.1 + 1)) (((((pget N (κ i)).args.map (tmF N κ m)).take x.1) ++ [(tmF N κ m (aget (pget N (κ i)).args x.1))]))) ∧ (∀ q, obk ra2 ((x.1 + 1)) rc2 = some q → w.heap.size ≤ q ∧ q ≠ g2 ∧ q ≠ gz13 ∧ q ≠ g25) ∧ (∃ U2, Reps U2 κ d ∧ PN wz g S (some ⟨ub, 0, none⟩) uc (some ⟨ob, 0, none⟩) oc U2 N V) ∧ Blk wz g25 32 #[.int .i64 (pget N (κ i)).fn, .slice x.2.1 x.1 x.2.2.1] | [_, _, z2, _] => ∃ ra2 rc2, z2 = .slice ra2 (x.1 + 1) rc2 ∧ (RowD eltT (fun b => w.heap.size ≤ b ∧ b ≠ g2 ∧ b ≠ gz13 ∧ b ≠ g25 ∧ obk ra2 ((x.1 + 1)) rc2 ≠ some b) wz 32 ra2 rc2 ((x.1 + 1)) (((((pget N (κ i)).args.map (tmF N κ m)).take x.1) ++ [(tmF N κ m (aget (pget N (κ i)).args x.1))]))) ∧ (∀ q, obk ra2 ((x.1 + 1)) rc2 = some q → w.heap.size ≤ q ∧ q ≠ g2 ∧ q ≠ gz13 ∧ q ≠ g25) ∧ (∃ U2, Reps U2 κ d ∧ PN wz g S (some ⟨ub, 0, none⟩) uc (some ⟨ob, 0, none⟩) oc U2 N V) ∧ Blk wz g25 32 #[.int .i64 (pget N (κ i)).fn, .slice ra2 (x.1 + 1) rc2] | _ => False) hGV9 (by decide) ⟨rfl, rfl, rfl, rfl, rfl, rfl, rfl, rfl, rfl, rfl, trivial⟩ (by kernel_rfl) (by kernel_rfl) (by kernel_rfl) (by kernel_rfl) (⟨⟨x.2.2.2, hRx, ho52⟩, ho54, hB51⟩) ?_ ?_
    ·refine ⟨.inl ⟨rfl, true, .none rfl, (fun gg b h => by cases h), fun h w => optUndef h, fun zβ za zw zc => ?_⟩, ?_⟩
     ·exact fld_32_1 rfl (zc.kn.ev rfl) ⟨_, rfl, Below.refl _ _, optDef zβ rfl⟩
     refine ⟨.inl ⟨rfl, true, .none rfl, (fun gg b h => by cases h), fun h w => optUndef h, fun zβ za zw zc => ?_⟩, ?_⟩
     ·obtain ⟨vals, hle, hgv, _⟩ := zc.early 2 6 rfl (by kernel_rfl)
      have hb5 : Blk zw g25 32 #[.int .i64 (pget N (κ i)).fn, .slice x.2.1 x.1 x.2.2.1] := by
       match vals, hle, hgv with
       | [], _, hg => exact hg.2.2
       | [z0], _, hg => exact hg.2.2.2
       | [_, z1], _, hg => exact hg.2.2.2
      exact ld_30 rfl ((evt za 31).trans (optSVal (zc.dep 0 31 (by kernel_rfl) (by decide)) rfl rfl)) ((hb5.cell 1).trans rfl) ⟨_, rfl, Below.refl _ _, optDef zβ rfl⟩
     refine ⟨.inl ⟨rfl, true, .none rfl, (fun gg b h => by cases h), fun h w => optUndef h, fun zβ za zw zc => ?_⟩, ?_⟩
     ·exact wp_move rfl (zc.kn.ev rfl) ⟨_, rfl, Below.refl _ _, optDef zβ rfl⟩
     refine ⟨.inl ⟨rfl, true, .none rfl, (fun gg b h => by cases h), fun h w => optUndef h, fun zβ za zw zc => ?_⟩, ?_⟩
     ·exact wp_move rfl (zc.kn.ev rfl) ⟨_, rfl, Below.refl _ _, optDef zβ rfl⟩
     refine ⟨.inr ⟨0, rfl, by kernel_rfl, true, .none rfl, (fun gg b h => by cases h), (fun h => (nomatch h)), fun zβ za zw zvals zc => ?_⟩, ?_⟩
     ·obtain rfl := vlen0 zc.len
      have zn := zc.now
      obtain ⟨⟨U2, k1, k2⟩, k3, k4⟩ := zn
      exact wp_call (by kernel_rfl) rfl (hv2 ((evt za 33).trans (optSVal (zc.dep 2 33 (by kernel_rfl) (by decide)) rfl rfl)) ((evt za 34).trans (optSVal (zc.dep 3 34 (by kernel_rfl) (by decide)) rfl rfl))) (ih U2 (aget (pget N (κ i)).args x.1) _ hdl k2 k1 hal) (fun v w' h => by obtain ⟨m1, ⟨U3, m2, m3⟩, m4⟩ := h; exact ⟨v, rfl, m4.mono (fun b q => .inl q), ⟨m1.mono (fun b q _ => Nat.le_trans zc.chg.size q), ⟨U3, m2, m3⟩, k3.chg m4 (fun b q e => by have z := (hownx b q).1; (try dsimp only at e); omega) (fun b q e => by have z := q.1; (try dsimp only at e); omega), chg_blk k4 m4 (fun e => by (try dsimp only at e); omega)⟩, cvNo⟩)
     refine ⟨.inr ⟨1, rfl, by kernel_rfl, true, .none rfl, (fun gg b h => by cases h), (fun h => (nomatch h)), fun zβ za zw zvals zc => ?_⟩, ?_⟩
     ·obtain ⟨z0, rfl⟩ := vlen1 zc.len
      have zn := zc.now
      obtain ⟨k3, k4, k5, k6⟩ := zn
      have e0 : z0 = za.tmps.getD 35 undef := Option.some.inj (zc.val 0 4 35 rfl (by kernel_rfl))
      obtain ⟨_, fa, fc, ef, _⟩ := k3.form
      have k3b := k3
      rw [ef] at k3b
      exact row_30_1 rfl ((evt za 35).trans (e0.symm.trans ef)) ⟨_, rfl, .ofBelow (balloc _ _), ⟨⟨_, _, rfl, Blk.new' rfl, ⟨_, _, rfl, k3b.below (balloc _ _)⟩⟩, hng _ _ (balloc _ _) k4, k5.below (balloc _ _), k6.below (balloc _ _)⟩, cvNo⟩
     refine ⟨.inr ⟨2, rfl, by kernel_rfl, true, .none rfl, (fun gg b h => by cases h), (fun h => (nomatch h)), fun zβ za zw zvals zc => ?_⟩, ?_⟩
     ·obtain ⟨z0, z1, rfl⟩ := vlen2 zc.len
      have zn := zc.now
      obtain ⟨⟨g1, cs, e, k1, k2⟩, ⟨U2, k3, k4⟩, k5, k6⟩ := zn
      have e1 : z1 = za.tmps.getD 36 undef := Option.some.inj (zc.val 1 5 36 rfl (by kernel_rfl))
      have hsz := zc.chg.size
      exact wp_appD (E := eltT) (S2 := (fun b => w46.heap.size ≤ b)) (size := 2) (bytes := 32) (z := .agg #[.int .i64 0, .slice none 0 0]) rfl Try.underlying30 (by kernel_rfl) rfl (by decide) rfl ((evt za 32).trans (optSVal (zc.dep 1 32 (by kernel_rfl) (by decide)) rfl rfl)) ((evt za 36).trans (e1.symm.trans e)) k5 k1 k2 (fun b q q2 => by have z := hkw b q2; (try dsimp only at q); omega) (by omega) (by omega) (fun ra rc w' h1 h2 h3 => ⟨_, rfl, h2.mono (fun b q => .inr (.inl q)), ⟨ra, rc, rfl, h1.mono (fun b q _ => by
        obtain ⟨q1, q2⟩ := q
        rcases q1 with q1 | q1
        ·exact ⟨q1.1, q1.2.1, q1.2.2.1, q1.2.2.2.1, fun e9 => by rcases h3 b e9 with z | z; exact q1.2.2.2.2 z; omega⟩
        ·(try dsimp only at q1)
         exact ⟨by omega, by omega, by omega, by omega, fun e9 => by rcases h3 b e9 with z | z; (have z2 := hkw b z; omega); omega⟩) (fun b q => q.2.2.2.2), fun q e9 => by rcases h3 q e9 with z | z; exact hownx q z; (exact ⟨by omega, by omega, by omega, by omega⟩), ⟨U2, k3, k4.chg h2 (fun b q e9 => by have z := hlt0 b q; have z2 := (hownx b e9).1; omega)⟩, chg_blk k6 h2 (fun e9 => (hownx _ e9).2.2.2 rfl)⟩, cvNo⟩)
     refine ⟨.inl ⟨rfl, true, .none rfl, (fun gg b h => by cases h), fun h w => optUndef h, fun zβ za zw zc => ?_⟩, ?_⟩
     ·exact fld_32_1 rfl (zc.kn.ev rfl) ⟨_, rfl, Below.refl _ _, optDef zβ rfl⟩
     refine ⟨.inr ⟨3, rfl, by kernel_rfl, true, .none rfl, (fun gg b h => by cases h), (fun h => (nomatch h)), fun zβ za zw zvals zc => ?_⟩, ?_⟩
     ·obtain ⟨z0, z1, z2, rfl⟩ := vlen3 zc.len
      have zn := zc.now
      obtain ⟨ra2, rc2, e, k1, k2, ⟨U2, k3, k4⟩, k5⟩ := zn
      have e2 : z2 = za.tmps.getD 37 undef := Option.some.inj (zc.val 2 6 37 rfl (by kernel_rfl))
      exact st_30 rfl ((evt za 38).trans (optSVal (zc.dep 7 38 (by kernel_rfl) (by decide)) rfl rfl)) ((evt za 37).trans (e2.symm.trans e)) k5 (by first | decide | simp) (fun v => ⟨v, rfl, .ofUpd (Upd.at_ _ _ _ _) (.inr (.inr rfl)), ⟨ra2, rc2, e, k1.chg (.ofUpd (S := fun b => b = g25) (Upd.at_ _ _ _ _) rfl) (fun b q e9 => (k2 b q).2.2.2 e9) (fun b q e9 => q.2.2.2.1 e9), k2, ⟨U2, k3, k4.upd (Upd.at_ _ _ _ _) (fun q => by have z := hlt0 _ q; omega)⟩, k5.set_ 1 _⟩, cvNo⟩)
     exact trivial
    ·intro za w65 zvals zh zl hG66 hc67 zu zw zk
     obtain ⟨z0, z1, z2, z3, rfl⟩ := vlen4 zl
     obtain ⟨ra9, rc9, e9, k91, hown9, ⟨U9, hR9, hP9⟩, k94⟩ := hG66
     have hC68 : Chg (fun b => b = ub) w w65 := chg_fresh hCx hc67 (fun b q => by rcases q with q | q | q; exact .inl q; exact .inr (hownx b q).1; (right; omega))
     have ha69 := ho53.chgS hc67 (fun b q e => by rcases e with e | e | e; exact hSub b q e; (have z := hSlt b q; have z2 := (hownx b e).1; omega); (have z := hSlt b q; omega))
     have hB70 := chg_blk hB49 hc67 (fun e => by rcases e with e | e | e; omega; exact (hownx _ e).2.1 rfl; omega)
     have hB71 := chg_blk hB50 hc67 (fun e => by rcases e with e | e | e; omega; exact (hownx _ e).2.2.1 rfl; omega)
     clear zu zw zk
     refine WE.go zh ?_
     refine WE.blockNormal (WE.next (WC.region ?_))
     refine WL.val (.int .i64 ((((x.1 + 1) : Nat) : Int))) rfl rfl rfl (fun za zC zh zk => addb_3 rfl (zh.ev rfl) (zh.ev rfl) (wrap_eq (by omega) (by omega) (by omega)) zk) ?_
     refine WL.mv rfl rfl rfl rfl rfl (WL.nil ?_)
     refine WE.round ((x.1 + 1, ra9, rc9, U9)) ⟨rfl, rfl, rfl, rfl, rfl, rfl, rfl, rfl, trivial⟩ ?_ ?_
     ·exact ⟨(by (try dsimp only); omega), hR9, hown9, hC68, hB70, hB71, k94, hP9, ha69, (by rw [show (((pget N (κ i)).args.map (tmF N κ m)).take (x.1 + 1)) = (((pget N (κ i)).args.map (tmF N κ m)).take x.1) ++ [tmF N κ m (aget (pget N (κ i)).args x.1)] from hLs]; exact k91)⟩
     ·(try dsimp only); omega
   ·have h55 : ¬ ((((x.1 : Nat) : Int) : Int) < ((((pget N ((κ i))).args.length : Nat) : Int) : Int)) := by simpa using h55
    refine WC.exit (WE.thenExit (WE.thenExit (WE.blockIs rfl (WE.next (WC.seq (WC.region ?_))))))
    refine WL.val _ rfl rfl rfl (fun za zC zh zk => ld_32 rfl (zh.ev rfl) ((hB51.cell 0).trans rfl) ((hB51.cell 1).trans rfl) zk) ?_
    refine WL.step (post := fun _ w' => Upd g2 w46 w' ∧ Blk w' g2 32 #[.int .i64 ((pget N (κ i)).fn), .slice x.2.1 x.1 x.2.2.1]) rfl rfl rfl (fun za zC zh zk => st_32 rfl (zh.ev rfl) (zh.ev rfl) rfl rfl hB49 (by first | decide | simp) (fun v => zk v _ ⟨(Upd.at_ _ _ _ _).trans (Upd.at_ _ _ _ _), (hB49.set_ 0 _).set_ 1 _⟩)) ?_
    rintro v75 w72 ⟨hu73, hB74⟩
    have hB76 := upd_blk hB50 hu73 (by omega)
    have hB77 := upd_blk hB51 hu73 (by omega)
    refine WL.nil (WE.next (WC.ret ?_))
    refine WE.retAny (v := .agg #[.int .i64 ((pget N (κ i)).fn), .slice x.2.1 x.1 x.2.2.1]) (fun za zh => ?_) ?_
    ·have z0 : za.tmps[4]?.getD undef = .pointer (some ⟨g2, 0, none⟩) := by rw [← Array.getD_eq_getD_getElem?]; exact zh.knows 4 _ rfl
     have y0_0 : w72.cell? ⟨g2, 0, none⟩ = some (.int .i64 ((pget N (κ i)).fn)) := ((hB74.cell 0).trans rfl)
     have y0_1 : w72.cell? ⟨g2, 1, none⟩ = some (.slice x.2.1 x.1 x.2.2.1) := ((hB74.cell 1).trans rfl)
     simp [results, Try.results26, z0, y0_0, y0_1, go_sem]
    ·have hs78 : Chg ((fun b => b = g2)) w46 w72 := (Chg.trans2 (Chg.refl ((fun b => b = g2)) _) (Chg.ofUpd (S := fun k => k = g2) hu73 rfl) (fun i h1 h2 => by first | exact h2 | exact .inl ⟨h2, h1⟩ | exact .inl h2 | exact .inr h2 | exact .inr (.inl h2) | exact .inr (.inr h2) | ((try dsimp only at *); omega)))
     have hxk : x.1 = (pget N (κ i)).args.length := by omega
     have hr9 := ho54.chg hs78 (fun b q e => (hownx b q).2.1 e) (fun b q e => q.2.1 e)
     rw [List.take_of_length_le (by rw [List.length_map]; omega)] at hr9
     exact ⟨_, rfl, inT_rowT hf hr9 (fun b q => q.1) (fun b q => (hownx b q).1), ⟨x.2.2.2, hRx, ho52.chg hs78 (fun b q e => by have z := hlt0 b q; (try dsimp only at e); omega)⟩, chg_fresh hCx hs78 (fun b e => by right; (try dsimp only at e); omega)⟩
end Go.Proofs.Ythhgidliopohcaa

/- What a part becomes: the document's program. -/
namespace Go.Proofs.Ythhgidliopohcaa
open Go.RowKit Go
set_option linter.unusedVariables false
set_option linter.unusedSimpArgs false
end Go.Proofs.Ythhgidliopohcaa

namespace Go.Proofs.Ythhgidliopohcaa
open Go.RowKit Go
set_option linter.unusedVariables false
set_option linter.unusedSimpArgs false
set_option maxRecDepth 100000 in
theorem rsize_any : ∀ (t : T) (w : World) (v : Value), t.size ≤ 4294967296 → IsT w t v → Calls Try.prog 16 #[v] w (Ret fun v' w' => v' = .int .i64 (t.size : Nat) ∧ Below w.heap.size w w') := by
  refine T.ind (fun f l ih => ?_)
  intro w v hz hv
  have hv0 := hv
  have hlen := len_le_sizeL l
  have hz' := hz
  simp only [T.size] at hz'
  obtain ⟨hf, a, c, rfl, hc, hm, hl⟩ := hv
  have hf' := hf
  unfold I64 at hf'
  refine Calls.walk (l := [.agg #[.int .i64 f, .slice a l.length c]]) Try.func16 rfl (by kernel_rfl) ?_
  refine WC.sub (K' := [(0, .agg #[.int .i64 f, .slice a l.length c])]) ⟨rfl, trivial⟩ ?_
  refine WC.seq ?_
  refine WC.region ?_
  refine WL.step (post := NewBlk w 32 #[.int .i64 f, .slice a l.length c]) rfl rfl rfl (fun za zC zh zk => box_32 rfl (zh.ev rfl) (zk _ _ (newBlk _ _ _))) ?_
  rintro _ w1 ⟨g2, rfl, hg3, hB4, hb5, hz6⟩
  have hl7 : w.heap.size ≤ g2 := by omega
  refine WL.asg rfl rfl rfl rfl rfl ?_
  refine WL.nil ?_
  refine WE.next ?_
  refine WC.seq ?_
  refine WC.region ?_
  refine WL.asg rfl rfl rfl rfl rfl ?_
  refine WL.nil ?_
  refine WE.next ?_
  refine WC.seq ?_
  refine WC.seq ?_
  refine WC.region ?_
  refine WL.asg rfl rfl rfl rfl rfl ?_
  refine WL.nil ?_
  refine WE.next ?_
  refine WC.block ?_
  refine WC.loop (X := Nat) (fun k => l.length - k) (fun k => [(0, .agg #[.int .i64 f, .slice a l.length c]), (1, .pointer (some ⟨g2, 0, none⟩)), (2, .int .i64 0), (3, .int .i64 ((((1 + T.sizeL (l.take k)) : Nat) : Int))), (4, .int .i64 (((k : Nat) : Int)))]) (fun k w8 => k ≤ l.length ∧ Below w.heap.size w w8 ∧ Blk w8 g2 32 #[.int .i64 f, .slice a l.length c]) 0 ⟨rfl, rfl, rfl, rfl, rfl, trivial⟩ ?_ ?_
  · exact ⟨Nat.zero_le _, hb5, hB4⟩
  · rintro k w8 ⟨hk, hb9, hB10⟩
    refine WC.seq ?_
    refine WC.seq ?_
    refine WC.region ?_
    refine WL.mv rfl rfl rfl rfl rfl ?_
    refine WL.val _ rfl rfl rfl (fun za zC zh zk => fld_32_1 rfl (zh.ev rfl) zk) ?_
    refine WL.val _ rfl rfl rfl (fun za zC zh zk => ld_30 rfl (zh.ev rfl) ((hB10.cell 1).trans rfl) zk) ?_
    refine WL.val (.int .i64 (((l.length : Nat) : Int))) rfl rfl rfl (fun za zC zh zk => len_30 rfl (zh.ev rfl) zk) ?_
    refine WL.val (.bool ((decide ((((k : Nat) : Int) : Int) < (((l.length : Nat) : Int) : Int))))) rfl rfl rfl (fun za zC zh zk => lss_3 rfl (zh.ev rfl) (zh.ev rfl) zk) ?_
    refine WL.nil ?_
    refine WE.next ?_
    refine WC.cond rfl (fun h11 => ?_) (fun h11 => ?_)
    · have h11 : (((k : Nat) : Int) : Int) < (((l.length : Nat) : Int) : Int) := by simpa using h11
      refine WC.skip ?_
      refine WE.next ?_
      refine WC.seq ?_
      refine WC.block ?_
      refine WC.region ?_
      refine WL.mv rfl rfl rfl rfl rfl ?_
      refine WL.val _ rfl rfl rfl (fun za zC zh zk => fld_32_1 rfl (zh.ev rfl) zk) ?_
      refine WL.val _ rfl rfl rfl (fun za zC zh zk => ld_30 rfl (zh.ev rfl) ((hB10.cell 1).trans rfl) zk) ?_
      refine WL.mv rfl rfl rfl rfl rfl ?_
      obtain ⟨b12, o13, A14, C15, ha16, hc17⟩ := IsTs.open hl
      refine WL.val _ rfl rfl rfl (fun za zC zh zk => ix_30 (k := k) rfl (zh.ev rfl) (ha16 k (by first | omega | (simp; omega))) (zh.ev rfl) (by first | omega | (simp; omega)) zk) ?_
      refine WL.val _ rfl rfl rfl (fun za zC zh zk => ld_32 rfl (zh.ev rfl) (bkeeps hb9 _ _ (hc17 k (by first | omega | (simp; omega))).1) (bkeeps hb9 _ _ (hc17 k (by first | omega | (simp; omega))).2.1) zk) ?_
      refine WL.call rfl rfl rfl (fun za zh zC => wp_call (by kernel_rfl) rfl (hv1 (zh.ev rfl))) (ih _ (tget_mem (by omega)) _ _ (size_at (by omega) hz) (IsT.below hb9 (hc17 k (by first | omega | (simp; omega))).2.2)) ?_
      rintro _ w19 ⟨rfl, hq18⟩
      refine WL.val (.int .i64 ((((1 + T.sizeL (l.take (k + 1))) : Nat) : Int))) rfl rfl rfl (fun za zC zh zk => addb_3 rfl (zh.ev rfl) (zh.ev rfl) (wrap_eq (by rw [sizeL_take1 (by omega)]; omega) (by omega) (by have z := sizeL_take1 (l := l) (k := k) (by omega); have z2 := T.sizeL_take_le l (k + 1); omega)) zk) ?_
      refine WL.asg rfl rfl rfl rfl rfl ?_
      refine WL.nil ?_
      refine WE.blockNormal ?_
      refine WE.next ?_
      refine WC.region ?_
      refine WL.mv rfl rfl rfl rfl rfl ?_
      refine WL.val (.int .i64 ((((k + 1) : Nat) : Int))) rfl rfl rfl (fun za zC zh zk => addb_3 rfl (zh.ev rfl) (zh.ev rfl) (wrap_eq (by omega) (by omega) (by omega)) zk) ?_
      refine WL.asg rfl rfl rfl rfl rfl ?_
      refine WL.nil ?_
      refine WE.round (k + 1) ⟨rfl, rfl, rfl, rfl, rfl, trivial⟩ ?_ ?_
      · have hb20 : Below w.heap.size w w19 := (bstep hb9 hq18)
        have hB21 := hB10.below hq18
        exact ⟨by omega, hb20, hB21⟩
      · omega
    · have h11 : ¬ ((((k : Nat) : Int) : Int) < (((l.length : Nat) : Int) : Int)) := by simpa using h11
      refine WC.exit ?_
      refine WE.thenExit ?_
      refine WE.thenExit ?_
      refine WE.blockIs rfl ?_
      refine WE.next ?_
      refine WC.seq ?_
      refine WC.region ?_
      refine WL.mv rfl rfl rfl rfl rfl ?_
      refine WL.asg rfl rfl rfl rfl rfl ?_
      refine WL.nil ?_
      refine WE.next ?_
      refine WC.ret ?_
      refine WE.ret1 rfl rfl ?_
      refine ⟨_, rfl, ?_, hb9⟩
      rw [List.take_of_length_le (show l.length ≤ k by omega), T.size]
theorem wp_max2 {P : Program} {w : World} {a : Act} {K : Act → World → Prop} {Q : Exit → Act → World → Prop} {o : Oper} {x y : Operand} {m n r : Int} (ho : o.op = .call { callee := .builtin .max, args := #[x, y], argTypes := #[3, 3] }) (hx : a.eval x = .int .i64 m) (hy : a.eval y = .int .i64 n) (hr : r = max m n) (hK : K (a.put o.dst (.int .i64 r)) w) : o.wp P a w K Q := by
  subst hr
  unfold Oper.wp execOp
  simp only [ho, resolve, invoke, builtin, Sem.run_bind, Sem.run_pure, Result.andThen_ok, List.map_toArray, List.map_cons, List.map_nil, hx, hy]
  go_simp
  first
  | exact hK
  | (have e : max m n = (if m < n then n else m) := by omega
     rw [e] at hK; exact hK)
set_option maxRecDepth 100000 in
theorem rdepth_any : ∀ (t : T) (w : World) (v : Value), t.size ≤ 4294967296 → IsT w t v → Calls Try.prog 31 #[v] w (Ret fun v' w' => v' = .int .i64 (t.dep : Nat) ∧ Below w.heap.size w w') := by
  refine T.ind (fun f l ih => ?_)
  intro w v hz hv
  have hv0 := hv
  have hlen := len_le_sizeL l
  have hz' := hz
  simp only [T.size] at hz'
  obtain ⟨hf, a, c, rfl, hc, hm, hl⟩ := hv
  have hf' := hf
  unfold I64 at hf'
  refine Calls.walk (l := [.agg #[.int .i64 f, .slice a l.length c]]) Try.func31 rfl (by kernel_rfl) ?_
  refine WC.sub (K' := [(0, .agg #[.int .i64 f, .slice a l.length c])]) ⟨rfl, trivial⟩ ?_
  refine WC.seq ?_
  refine WC.region ?_
  refine WL.step (post := NewBlk w 32 #[.int .i64 f, .slice a l.length c]) rfl rfl rfl (fun za zC zh zk => box_32 rfl (zh.ev rfl) (zk _ _ (newBlk _ _ _))) ?_
  rintro _ w1 ⟨g2, rfl, hg3, hB4, hb5, hz6⟩
  have hl7 : w.heap.size ≤ g2 := by omega
  refine WL.asg rfl rfl rfl rfl rfl ?_
  refine WL.nil ?_
  refine WE.next ?_
  refine WC.seq ?_
  refine WC.region ?_
  refine WL.asg rfl rfl rfl rfl rfl ?_
  refine WL.nil ?_
  refine WE.next ?_
  refine WC.seq ?_
  refine WC.seq ?_
  refine WC.region ?_
  refine WL.asg rfl rfl rfl rfl rfl ?_
  refine WL.nil ?_
  refine WE.next ?_
  refine WC.block ?_
  refine WC.loop (X := Nat) (fun k => l.length - k) (fun k => [(0, .agg #[.int .i64 f, .slice a l.length c]), (1, .pointer (some ⟨g2, 0, none⟩)), (2, .int .i64 0), (3, .int .i64 ((((T.depL (l.take k)) : Nat) : Int))), (4, .int .i64 (((k : Nat) : Int)))]) (fun k w8 => k ≤ l.length ∧ Below w.heap.size w w8 ∧ Blk w8 g2 32 #[.int .i64 f, .slice a l.length c]) 0 ⟨rfl, rfl, rfl, rfl, rfl, trivial⟩ ?_ ?_
  · exact ⟨Nat.zero_le _, hb5, hB4⟩
  · rintro k w8 ⟨hk, hb9, hB10⟩
    refine WC.seq ?_
    refine WC.seq ?_
    refine WC.region ?_
    refine WL.mv rfl rfl rfl rfl rfl ?_
    refine WL.val _ rfl rfl rfl (fun za zC zh zk => fld_32_1 rfl (zh.ev rfl) zk) ?_
    refine WL.val _ rfl rfl rfl (fun za zC zh zk => ld_30 rfl (zh.ev rfl) ((hB10.cell 1).trans rfl) zk) ?_
    refine WL.val (.int .i64 (((l.length : Nat) : Int))) rfl rfl rfl (fun za zC zh zk => len_30 rfl (zh.ev rfl) zk) ?_
    refine WL.val (.bool ((decide ((((k : Nat) : Int) : Int) < (((l.length : Nat) : Int) : Int))))) rfl rfl rfl (fun za zC zh zk => lss_3 rfl (zh.ev rfl) (zh.ev rfl) zk) ?_
    refine WL.nil ?_
    refine WE.next ?_
    refine WC.cond rfl (fun h11 => ?_) (fun h11 => ?_)
    · have h11 : (((k : Nat) : Int) : Int) < (((l.length : Nat) : Int) : Int) := by simpa using h11
      refine WC.skip ?_
      refine WE.next ?_
      refine WC.seq ?_
      refine WC.block ?_
      refine WC.region ?_
      refine WL.mv rfl rfl rfl rfl rfl ?_
      refine WL.val _ rfl rfl rfl (fun za zC zh zk => fld_32_1 rfl (zh.ev rfl) zk) ?_
      refine WL.val _ rfl rfl rfl (fun za zC zh zk => ld_30 rfl (zh.ev rfl) ((hB10.cell 1).trans rfl) zk) ?_
      refine WL.mv rfl rfl rfl rfl rfl ?_
      obtain ⟨b12, o13, A14, C15, ha16, hc17⟩ := IsTs.open hl
      refine WL.val _ rfl rfl rfl (fun za zC zh zk => ix_30 (k := k) rfl (zh.ev rfl) (ha16 k (by first | omega | (simp; omega))) (zh.ev rfl) (by first | omega | (simp; omega)) zk) ?_
      refine WL.val _ rfl rfl rfl (fun za zC zh zk => ld_32 rfl (zh.ev rfl) (bkeeps hb9 _ _ (hc17 k (by first | omega | (simp; omega))).1) (bkeeps hb9 _ _ (hc17 k (by first | omega | (simp; omega))).2.1) zk) ?_
      refine WL.call rfl rfl rfl (fun za zh zC => wp_call (by kernel_rfl) rfl (hv1 (zh.ev rfl))) (ih _ (tget_mem (by omega)) _ _ (size_at (by omega) hz) (IsT.below hb9 (hc17 k (by first | omega | (simp; omega))).2.2)) ?_
      rintro _ w19 ⟨rfl, hq18⟩
      refine WL.val (.int .i64 ((T.depL (l.take (k + 1)) : Nat) : Int)) rfl rfl rfl (fun za zC zh zk => wp_max2 rfl (zh.ev rfl) (zh.ev rfl) (by rw [depL_take (by omega)]; (try omega)) zk) ?_
      refine WL.asg rfl rfl rfl rfl rfl ?_
      refine WL.nil ?_
      refine WE.blockNormal ?_
      refine WE.next ?_
      refine WC.region ?_
      refine WL.mv rfl rfl rfl rfl rfl ?_
      refine WL.val (.int .i64 ((((k + 1) : Nat) : Int))) rfl rfl rfl (fun za zC zh zk => addb_3 rfl (zh.ev rfl) (zh.ev rfl) (wrap_eq (by omega) (by omega) (by omega)) zk) ?_
      refine WL.asg rfl rfl rfl rfl rfl ?_
      refine WL.nil ?_
      refine WE.round (k + 1) ⟨rfl, rfl, rfl, rfl, rfl, trivial⟩ ?_ ?_
      · have hb20 : Below w.heap.size w w19 := (bstep hb9 hq18)
        have hB21 := hB10.below hq18
        exact ⟨by omega, hb20, hB21⟩
      · omega
    · have h11 : ¬ ((((k : Nat) : Int) : Int) < (((l.length : Nat) : Int) : Int)) := by simpa using h11
      refine WC.exit ?_
      refine WE.thenExit ?_
      refine WE.thenExit ?_
      refine WE.blockIs rfl ?_
      refine WE.next ?_
      refine WC.seq ?_
      refine WC.region ?_
      refine WL.mv rfl rfl rfl rfl rfl ?_
      refine WL.val (.int .i64 ((((T.depL (l.take k) + 1) : Nat) : Int))) rfl rfl rfl (fun za zC zh zk => addb_3 rfl (zh.ev rfl) (zh.ev rfl) (wrap_eq (by omega) (by omega) (by have z2 := depL_take_le (l := l) (k := k); omega)) zk) ?_
      refine WL.asg rfl rfl rfl rfl rfl ?_
      refine WL.nil ?_
      refine WE.next ?_
      refine WC.ret ?_
      refine WE.ret1 rfl rfl ?_
      refine ⟨_, rfl, ?_, hb9⟩
      rw [List.take_of_length_le (show l.length ≤ k by omega), T.dep]
theorem neg_int {P : Program} {w : World} {a : Act} {K : Act → World → Prop} {Q : Exit → Act → World → Prop} {o : Oper} {x : Operand} {m r : Int} (ho : o.op = .unOp .neg 3 x) (hx : a.eval x = .int .i64 m) (hr : IntKind.i64.wrap (-m) = r) (hK : K (a.put o.dst (.int .i64 r)) w) : o.wp P a w K Q := by
  subst hr
  unfold Oper.wp execOp
  simp only [ho, hx]
  go_simp
  exact hK
set_option maxRecDepth 100000 in
theorem rlow_any (m : Int) (hm0 : 0 ≤ m ∧ m ≤ 1099511627776) : ∀ (t : T) (w : World) (v : Value), t.size ≤ 4294967296 → IsT w t v → Calls Try.prog 32 #[v, .int .i64 m] w (Ret fun v' w' => v' = .bool (t.low m) ∧ Below w.heap.size w w') := by
  refine T.ind (fun f l ih => ?_)
  intro w v hz hv
  have hv0 := hv
  have hlen := len_le_sizeL l
  have hz' := hz
  simp only [T.size] at hz'
  obtain ⟨hf, a, c, rfl, hc, hm, hl⟩ := hv
  have hf' := hf
  unfold I64 at hf'
  refine Calls.walk (l := [.agg #[.int .i64 f, .slice a l.length c], .int .i64 m]) Try.func32 rfl (by kernel_rfl) ?_
  refine WC.sub (K' := [(0, .agg #[.int .i64 f, .slice a l.length c]), (1, .int .i64 m)]) ⟨rfl, rfl, trivial⟩ ?_
  refine WC.seq ?_
  refine WC.region ?_
  refine WL.step (post := NewBlk w 32 #[.int .i64 f, .slice a l.length c]) rfl rfl rfl (fun za zC zh zk => box_32 rfl (zh.ev rfl) (zk _ _ (newBlk _ _ _))) ?_
  rintro _ w1 ⟨g2, rfl, hg3, hB4, hb5, hz6⟩
  have hl7 : w.heap.size ≤ g2 := by omega
  refine WL.asg rfl rfl rfl rfl rfl ?_
  refine WL.nil ?_
  refine WE.next ?_
  refine WC.seq ?_
  refine WC.seq ?_
  refine WC.region ?_
  refine WL.val _ rfl rfl rfl (fun za zC zh zk => fld_32_0 rfl (zh.ev rfl) zk) ?_
  refine WL.val _ rfl rfl rfl (fun za zC zh zk => ld_3 rfl (zh.ev rfl) ((hB4.cell 0).trans rfl) zk) ?_
  refine WL.val (.bool ((decide ((f : Int) < (0 : Int))))) rfl rfl rfl (fun za zC zh zk => lss_3 rfl (zh.ev rfl) (zh.ev rfl) zk) ?_
  refine WL.nil ?_
  refine WE.next ?_
  refine WC.cond rfl (fun h8 => ?_) (fun h8 => ?_)
  · have h8 : (f : Int) < (0 : Int) := by simpa using h8
    refine WC.seq ?_
    refine WC.opt [(true, .val (.pointer (some ⟨g2, 0, none⟩))), (true, .val (.int .i64 f)), (true, .val (.int .i64 m)), (true, .val (.int .i64 ((-m)))), (true, .val (.bool ((decide (((-m) : Int) ≤ (f : Int)))))), (true, .val (.bool ((decide (((-m) : Int) ≤ (f : Int)))))), ((true && (decide (((-m) : Int) ≤ (f : Int)))), .val (.pointer (some ⟨g2, 1, none⟩))), ((true && (decide (((-m) : Int) ≤ (f : Int)))), .val (.slice a l.length c)), ((true && (decide (((-m) : Int) ≤ (f : Int)))), .val (.int .i64 (((l.length : Nat) : Int)))), ((true && (decide (((-m) : Int) ≤ (f : Int)))), .val (.bool (((((l.length : Nat) : Int) : Int) == (0 : Int))))), (true, .val (.bool (((decide (((-m) : Int) ≤ (f : Int))) && ((((l.length : Nat) : Int) : Int) == (0 : Int)))))), (true, .val (.bool (((decide (((-m) : Int) ≤ (f : Int))) && ((((l.length : Nat) : Int) : Int) == (0 : Int))))))] [(0, .agg #[.int .i64 f, .slice a l.length c]), (1, .int .i64 m), (2, .pointer (some ⟨g2, 0, none⟩)), (8, .bool ((decide ((f : Int) < (0 : Int)))))] ⟨rfl, rfl, rfl, rfl, trivial⟩ (by kernel_rfl) (by kernel_rfl) (by kernel_rfl) ?_ ?_
    · refine ⟨⟨true, .none rfl, fun h w => optUndef h, fun zβ za zw zc => ?_⟩, ?_⟩
      · exact fld_32_0 rfl (zc.kn.ev rfl) ⟨_, rfl, Below.refl _ _, optDef zβ rfl⟩
      refine ⟨⟨true, .none rfl, fun h w => optUndef h, fun zβ za zw zc => ?_⟩, ?_⟩
      · exact ld_3 rfl ((evt za 9).trans (optVal (zc.dep 0 9 (by kernel_rfl)) rfl rfl)) (bkeeps zc.below _ _ ((hB4.cell 0).trans rfl)) ⟨_, rfl, Below.refl _ _, optDef zβ rfl⟩
      refine ⟨⟨true, .none rfl, fun h w => optUndef h, fun zβ za zw zc => ?_⟩, ?_⟩
      · exact wp_move rfl (zc.kn.ev rfl) ⟨_, rfl, Below.refl _ _, optDef zβ rfl⟩
      refine ⟨⟨true, .none rfl, fun h w => optUndef h, fun zβ za zw zc => ?_⟩, ?_⟩
      · exact neg_int rfl ((evt za 11).trans (optVal (zc.dep 2 11 (by kernel_rfl)) rfl rfl)) (wrap_eq rfl (by omega) (by omega)) ⟨_, rfl, Below.refl _ _, optDef zβ rfl⟩
      refine ⟨⟨true, .none rfl, fun h w => optUndef h, fun zβ za zw zc => ?_⟩, ?_⟩
      · exact geq_3 rfl ((evt za 10).trans (optVal (zc.dep 1 10 (by kernel_rfl)) rfl rfl)) ((evt za 12).trans (optVal (zc.dep 3 12 (by kernel_rfl)) rfl rfl)) ⟨_, rfl, Below.refl _ _, optDef zβ rfl⟩
      refine ⟨⟨true, .none rfl, fun h w => optUndef h, fun zβ za zw zc => ?_⟩, ?_⟩
      · exact wp_move rfl ((evt za 13).trans (optVal (zc.dep 4 13 (by kernel_rfl)) rfl rfl)) ⟨_, rfl, Below.refl _ _, optDef zβ rfl⟩
      refine ⟨⟨_, .yes (c := (decide (((-m) : Int) ≤ (f : Int)))) (d := true) rfl (fun v w h => h), fun h w => optUndef h, fun zβ za zw zc => ?_⟩, ?_⟩
      · exact fld_32_1 rfl (zc.kn.ev rfl) ⟨_, rfl, Below.refl _ _, optDef zβ rfl⟩
      refine ⟨⟨_, .yes (c := (decide (((-m) : Int) ≤ (f : Int)))) (d := true) rfl (fun v w h => h), fun h w => optUndef h, fun zβ za zw zc => ?_⟩, ?_⟩
      · exact ld_30 rfl ((evt za 15).trans (optVal (zc.dep 6 15 (by kernel_rfl)) rfl zβ)) (bkeeps zc.below _ _ ((hB4.cell 1).trans rfl)) ⟨_, rfl, Below.refl _ _, optDef zβ rfl⟩
      refine ⟨⟨_, .yes (c := (decide (((-m) : Int) ≤ (f : Int)))) (d := true) rfl (fun v w h => h), fun h w => optUndef h, fun zβ za zw zc => ?_⟩, ?_⟩
      · exact len_30 rfl ((evt za 16).trans (optVal (zc.dep 7 16 (by kernel_rfl)) rfl zβ)) ⟨_, rfl, Below.refl _ _, optDef zβ rfl⟩
      refine ⟨⟨_, .yes (c := (decide (((-m) : Int) ≤ (f : Int)))) (d := true) rfl (fun v w h => h), fun h w => optUndef h, fun zβ za zw zc => ?_⟩, ?_⟩
      · exact eql_3 rfl ((evt za 17).trans (optVal (zc.dep 8 17 (by kernel_rfl)) rfl zβ)) (zc.kn.ev rfl) ⟨_, rfl, Below.refl _ _, optDef zβ rfl⟩
      refine ⟨⟨true, .none rfl, fun h w => optUndef h, fun zβ za zw zc => ?_⟩, ?_⟩
      · exact wp_and rfl ((evt za 14).trans (optVal (zc.dep 5 14 (by kernel_rfl)) rfl rfl)) (fun hp => ((evt za 18).trans (optVal (zc.dep 9 18 (by kernel_rfl)) rfl (bMk zβ hp)))) ⟨_, rfl, Below.refl _ _, optDef zβ rfl⟩
      refine ⟨⟨true, .none rfl, fun h w => optUndef h, fun zβ za zw zc => ?_⟩, ?_⟩
      · exact wp_assign rfl ((evt za 19).trans (optVal (zc.dep 10 19 (by kernel_rfl)) rfl rfl)) ⟨_, rfl, Below.refl _ _, optDef zβ rfl⟩
      exact trivial
    · intro za w9 zh hb10 zu
      have zh := zh.cons (d := 4) (v := .bool (((decide (((-m) : Int) ≤ (f : Int))) && ((((l.length : Nat) : Int) : Int) == (0 : Int))))) (optVal (zu 11 4 (by kernel_rfl)) rfl rfl)
      clear zu
      refine WE.go zh ?_
      refine WE.next ?_
      refine WC.ret ?_
      refine WE.thenRet ?_
      refine WE.ret1 rfl rfl ?_
      have hb11 : Below w.heap.size w w9 := (bstep hb5 hb10)
      refine ⟨_, rfl, congrArg Value.bool ?_, hb11⟩
      rw [T.low, if_pos (by simpa using h8)]
      rw [Bool.eq_iff_iff]; (try simp); (try omega)
  · have h8 : ¬ ((f : Int) < (0 : Int)) := by simpa using h8
    refine WC.skip ?_
    refine WE.next ?_
    refine WC.seq ?_
    refine WC.seq ?_
    refine WC.region ?_
    refine WL.asg rfl rfl rfl rfl rfl ?_
    refine WL.nil ?_
    refine WE.next ?_
    refine WC.block ?_
    refine WC.loop (X := Nat) (fun k => l.length - k) (fun k => [(0, .agg #[.int .i64 f, .slice a l.length c]), (1, .int .i64 m), (2, .pointer (some ⟨g2, 0, none⟩)), (5, .int .i64 (((k : Nat) : Int))), (8, .bool ((decide ((f : Int) < (0 : Int)))))]) (fun k w12 => k ≤ l.length ∧ (∀ i, i < k → (tget l i).low m = true) ∧ Below w.heap.size w w12 ∧ Blk w12 g2 32 #[.int .i64 f, .slice a l.length c]) 0 ⟨rfl, rfl, rfl, rfl, rfl, trivial⟩ ?_ ?_
    · exact ⟨Nat.zero_le _, fun i h => absurd h (Nat.not_lt_zero i), hb5, hB4⟩
    · rintro k w12 ⟨hk, hE, hb13, hB14⟩
      refine WC.seq ?_
      refine WC.seq ?_
      refine WC.region ?_
      refine WL.mv rfl rfl rfl rfl rfl ?_
      refine WL.val _ rfl rfl rfl (fun za zC zh zk => fld_32_1 rfl (zh.ev rfl) zk) ?_
      refine WL.val _ rfl rfl rfl (fun za zC zh zk => ld_30 rfl (zh.ev rfl) ((hB14.cell 1).trans rfl) zk) ?_
      refine WL.val (.int .i64 (((l.length : Nat) : Int))) rfl rfl rfl (fun za zC zh zk => len_30 rfl (zh.ev rfl) zk) ?_
      refine WL.val (.bool ((decide ((((k : Nat) : Int) : Int) < (((l.length : Nat) : Int) : Int))))) rfl rfl rfl (fun za zC zh zk => lss_3 rfl (zh.ev rfl) (zh.ev rfl) zk) ?_
      refine WL.nil ?_
      refine WE.next ?_
      refine WC.cond rfl (fun h15 => ?_) (fun h15 => ?_)
      · have h15 : (((k : Nat) : Int) : Int) < (((l.length : Nat) : Int) : Int) := by simpa using h15
        refine WC.skip ?_
        refine WE.next ?_
        refine WC.seq ?_
        refine WC.block ?_
        refine WC.seq ?_
        refine WC.region ?_
        refine WL.val _ rfl rfl rfl (fun za zC zh zk => fld_32_1 rfl (zh.ev rfl) zk) ?_
        refine WL.val _ rfl rfl rfl (fun za zC zh zk => ld_30 rfl (zh.ev rfl) ((hB14.cell 1).trans rfl) zk) ?_
        refine WL.mv rfl rfl rfl rfl rfl ?_
        obtain ⟨b16, o17, A18, C19, ha20, hc21⟩ := IsTs.open hl
        refine WL.val _ rfl rfl rfl (fun za zC zh zk => ix_30 (k := k) rfl (zh.ev rfl) (ha20 k (by first | omega | (simp; omega))) (zh.ev rfl) (by first | omega | (simp; omega)) zk) ?_
        refine WL.val _ rfl rfl rfl (fun za zC zh zk => ld_32 rfl (zh.ev rfl) (bkeeps hb13 _ _ (hc21 k (by first | omega | (simp; omega))).1) (bkeeps hb13 _ _ (hc21 k (by first | omega | (simp; omega))).2.1) zk) ?_
        refine WL.mv rfl rfl rfl rfl rfl ?_
        refine WL.call rfl rfl rfl (fun za zh zC => wp_call (by kernel_rfl) rfl (hv2 (zh.ev rfl) (zh.ev rfl))) (ih _ (tget_mem (by omega)) _ _ (size_at (by omega) hz) (IsT.below hb13 (hc21 k (by first | omega | (simp; omega))).2.2)) ?_
        rintro _ w23 ⟨rfl, hq22⟩
        refine WL.val (.bool ((!((tget l k).low m)))) rfl rfl rfl (fun za zC zh zk => wp_not rfl (zh.ev rfl) zk) ?_
        refine WL.nil ?_
        refine WE.next ?_
        refine WC.cond rfl (fun h24 => ?_) (fun h24 => ?_)
        · have h24 : ¬ (((tget l k).low m) = true) := by simpa using h24
          refine WC.seq ?_
          refine WC.region ?_
          refine WL.asg rfl rfl rfl rfl rfl ?_
          refine WL.nil ?_
          refine WE.next ?_
          refine WC.ret ?_
          refine WE.blockRet ?_
          refine WE.thenRet ?_
          refine WE.thenRet ?_
          refine WE.blockRet ?_
          refine WE.thenRet ?_
          refine WE.ret1 rfl rfl ?_
          have hb25 : Below w.heap.size w w23 := (bstep hb13 hq22)
          exact ⟨_, rfl, congrArg Value.bool (low_no (k := k) (by simpa using h8) (by omega) (by simpa using h24)).symm, hb25⟩
        · have h24 : ¬ (¬ (((tget l k).low m) = true)) := by simpa using h24
          refine WC.skip ?_
          refine WE.blockNormal ?_
          refine WE.next ?_
          refine WC.region ?_
          refine WL.mv rfl rfl rfl rfl rfl ?_
          refine WL.val (.int .i64 ((((k + 1) : Nat) : Int))) rfl rfl rfl (fun za zC zh zk => addb_3 rfl (zh.ev rfl) (zh.ev rfl) (wrap_eq (by omega) (by omega) (by omega)) zk) ?_
          refine WL.asg rfl rfl rfl rfl rfl ?_
          refine WL.nil ?_
          refine WE.round (k + 1) ⟨rfl, rfl, rfl, rfl, rfl, trivial⟩ ?_ ?_
          · have hb26 : Below w.heap.size w w23 := (bstep hb13 hq22)
            have hB27 := hB14.below hq22
            exact ⟨by omega, fun i hi => by rcases Nat.lt_or_ge i k with q | q; exact hE i q; (obtain rfl : i = k := by omega); simpa using h24, hb26, hB27⟩
          · omega
      · have h15 : ¬ ((((k : Nat) : Int) : Int) < (((l.length : Nat) : Int) : Int)) := by simpa using h15
        refine WC.exit ?_
        refine WE.thenExit ?_
        refine WE.thenExit ?_
        refine WE.blockIs rfl ?_
        refine WE.next ?_
        refine WC.seq ?_
        refine WC.region ?_
        refine WL.asg rfl rfl rfl rfl rfl ?_
        refine WL.nil ?_
        refine WE.next ?_
        refine WC.ret ?_
        refine WE.ret1 rfl rfl ?_
        exact ⟨_, rfl, congrArg Value.bool (low_yes (by simpa using h8) (fun i hi => hE i (by omega))).symm, hb13⟩
set_option maxRecDepth 100000 in
theorem rsmall_any (t : T) (m : Int) (w : World) (v : Value) (hm0 : 0 ≤ m ∧ m ≤ 1099511627776) (hz : t.size ≤ 4294967296) (hv : IsT w t v) : Calls Try.prog 17 #[v, .int .i64 m] w (Ret fun v' w' => v' = .bool (t.small m) ∧ Below w.heap.size w w') := by
  have hv0 := hv
  obtain ⟨hf, a, c, rfl, _, _, _⟩ := hv.form
  refine Calls.walk (l := [.agg #[.int .i64 t.f, .slice a t.args.length c], .int .i64 m]) Try.func17 rfl (by kernel_rfl) ?_
  refine WC.sub (K' := [(0, .agg #[.int .i64 t.f, .slice a t.args.length c]), (1, .int .i64 m)]) ⟨rfl, rfl, trivial⟩ ?_
  refine WC.seq ?_
  refine WC.region ?_
  refine WL.step (post := NewBlk w 32 #[.int .i64 t.f, .slice a t.args.length c]) rfl rfl rfl (fun za zC zh zk => box_32 rfl (zh.ev rfl) (zk _ _ (newBlk _ _ _))) ?_
  rintro _ w1 ⟨g2, rfl, hg3, hB4, hb5, hz6⟩
  have hl7 : w.heap.size ≤ g2 := by omega
  refine WL.asg rfl rfl rfl rfl rfl ?_
  refine WL.nil ?_
  refine WE.next ?_
  refine WC.seq ?_
  refine WC.opt [(true, .val (.agg #[.int .i64 t.f, .slice a t.args.length c])), (true, .val (.int .i64 (((t.size : Nat) : Int)))), (true, .val (.bool ((decide ((((t.size : Nat) : Int) : Int) ≤ (300 : Int)))))), (true, .val (.bool ((decide ((((t.size : Nat) : Int) : Int) ≤ (300 : Int)))))), ((true && (decide ((((t.size : Nat) : Int) : Int) ≤ (300 : Int)))), .val (.agg #[.int .i64 t.f, .slice a t.args.length c])), ((true && (decide ((((t.size : Nat) : Int) : Int) ≤ (300 : Int)))), .val (.int .i64 (((t.dep : Nat) : Int)))), ((true && (decide ((((t.size : Nat) : Int) : Int) ≤ (300 : Int)))), .val (.bool ((decide ((((t.dep : Nat) : Int) : Int) ≤ (30 : Int)))))), (true, .val (.bool (((decide ((((t.size : Nat) : Int) : Int) ≤ (300 : Int))) && (decide ((((t.dep : Nat) : Int) : Int) ≤ (30 : Int))))))), (true, .val (.bool (((decide ((((t.size : Nat) : Int) : Int) ≤ (300 : Int))) && (decide ((((t.dep : Nat) : Int) : Int) ≤ (30 : Int))))))), ((true && ((decide ((((t.size : Nat) : Int) : Int) ≤ (300 : Int))) && (decide ((((t.dep : Nat) : Int) : Int) ≤ (30 : Int))))), .val (.agg #[.int .i64 t.f, .slice a t.args.length c])), ((true && ((decide ((((t.size : Nat) : Int) : Int) ≤ (300 : Int))) && (decide ((((t.dep : Nat) : Int) : Int) ≤ (30 : Int))))), .val (.int .i64 m)), ((true && ((decide ((((t.size : Nat) : Int) : Int) ≤ (300 : Int))) && (decide ((((t.dep : Nat) : Int) : Int) ≤ (30 : Int))))), .val (.bool ((t.low m)))), (true, .val (.bool ((((decide ((((t.size : Nat) : Int) : Int) ≤ (300 : Int))) && (decide ((((t.dep : Nat) : Int) : Int) ≤ (30 : Int)))) && (t.low m))))), (true, .val (.bool ((((decide ((((t.size : Nat) : Int) : Int) ≤ (300 : Int))) && (decide ((((t.dep : Nat) : Int) : Int) ≤ (30 : Int)))) && (t.low m)))))] [(0, .agg #[.int .i64 t.f, .slice a t.args.length c]), (1, .int .i64 m), (2, .pointer (some ⟨g2, 0, none⟩))] ⟨rfl, rfl, rfl, trivial⟩ (by kernel_rfl) (by kernel_rfl) (by kernel_rfl) ?_ ?_
  · refine ⟨⟨true, .none rfl, fun h w => optUndef h, fun zβ za zw zc => ?_⟩, ?_⟩
    · exact ld_32 rfl (zc.kn.ev rfl) (bkeeps zc.below _ _ ((hB4.cell 0).trans rfl)) (bkeeps zc.below _ _ ((hB4.cell 1).trans rfl)) ⟨_, rfl, Below.refl _ _, optDef zβ rfl⟩
    refine ⟨⟨true, .none rfl, fun h w => optUndef h, fun zβ za zw zc => ?_⟩, ?_⟩
    · exact wp_call (by kernel_rfl) rfl (hv1 ((evt za 5).trans (optVal (zc.dep 0 5 (by kernel_rfl)) rfl rfl))) (rsize_any t _ _ hz (IsT.below (bstep hb5 zc.below) hv0)) (fun v w' h => ⟨v, rfl, h.2, optDef zβ h.1⟩)
    refine ⟨⟨true, .none rfl, fun h w => optUndef h, fun zβ za zw zc => ?_⟩, ?_⟩
    · exact leq_3 rfl ((evt za 6).trans (optVal (zc.dep 1 6 (by kernel_rfl)) rfl rfl)) (zc.kn.ev rfl) ⟨_, rfl, Below.refl _ _, optDef zβ rfl⟩
    refine ⟨⟨true, .none rfl, fun h w => optUndef h, fun zβ za zw zc => ?_⟩, ?_⟩
    · exact wp_move rfl ((evt za 7).trans (optVal (zc.dep 2 7 (by kernel_rfl)) rfl rfl)) ⟨_, rfl, Below.refl _ _, optDef zβ rfl⟩
    refine ⟨⟨_, .yes (c := (decide ((((t.size : Nat) : Int) : Int) ≤ (300 : Int)))) (d := true) rfl (fun v w h => h), fun h w => optUndef h, fun zβ za zw zc => ?_⟩, ?_⟩
    · exact ld_32 rfl (zc.kn.ev rfl) (bkeeps zc.below _ _ ((hB4.cell 0).trans rfl)) (bkeeps zc.below _ _ ((hB4.cell 1).trans rfl)) ⟨_, rfl, Below.refl _ _, optDef zβ rfl⟩
    refine ⟨⟨_, .yes (c := (decide ((((t.size : Nat) : Int) : Int) ≤ (300 : Int)))) (d := true) rfl (fun v w h => h), fun h w => optUndef h, fun zβ za zw zc => ?_⟩, ?_⟩
    · exact wp_call (by kernel_rfl) rfl (hv1 ((evt za 9).trans (optVal (zc.dep 4 9 (by kernel_rfl)) rfl zβ))) (rdepth_any t _ _ hz (IsT.below (bstep hb5 zc.below) hv0)) (fun v w' h => ⟨v, rfl, h.2, optDef zβ h.1⟩)
    refine ⟨⟨_, .yes (c := (decide ((((t.size : Nat) : Int) : Int) ≤ (300 : Int)))) (d := true) rfl (fun v w h => h), fun h w => optUndef h, fun zβ za zw zc => ?_⟩, ?_⟩
    · exact leq_3 rfl ((evt za 10).trans (optVal (zc.dep 5 10 (by kernel_rfl)) rfl zβ)) (zc.kn.ev rfl) ⟨_, rfl, Below.refl _ _, optDef zβ rfl⟩
    refine ⟨⟨true, .none rfl, fun h w => optUndef h, fun zβ za zw zc => ?_⟩, ?_⟩
    · exact wp_and rfl ((evt za 8).trans (optVal (zc.dep 3 8 (by kernel_rfl)) rfl rfl)) (fun hp => ((evt za 11).trans (optVal (zc.dep 6 11 (by kernel_rfl)) rfl (bMk zβ hp)))) ⟨_, rfl, Below.refl _ _, optDef zβ rfl⟩
    refine ⟨⟨true, .none rfl, fun h w => optUndef h, fun zβ za zw zc => ?_⟩, ?_⟩
    · exact wp_move rfl ((evt za 12).trans (optVal (zc.dep 7 12 (by kernel_rfl)) rfl rfl)) ⟨_, rfl, Below.refl _ _, optDef zβ rfl⟩
    refine ⟨⟨_, .yes (c := ((decide ((((t.size : Nat) : Int) : Int) ≤ (300 : Int))) && (decide ((((t.dep : Nat) : Int) : Int) ≤ (30 : Int))))) (d := true) rfl (fun v w h => h), fun h w => optUndef h, fun zβ za zw zc => ?_⟩, ?_⟩
    · exact ld_32 rfl (zc.kn.ev rfl) (bkeeps zc.below _ _ ((hB4.cell 0).trans rfl)) (bkeeps zc.below _ _ ((hB4.cell 1).trans rfl)) ⟨_, rfl, Below.refl _ _, optDef zβ rfl⟩
    refine ⟨⟨_, .yes (c := ((decide ((((t.size : Nat) : Int) : Int) ≤ (300 : Int))) && (decide ((((t.dep : Nat) : Int) : Int) ≤ (30 : Int))))) (d := true) rfl (fun v w h => h), fun h w => optUndef h, fun zβ za zw zc => ?_⟩, ?_⟩
    · exact wp_move rfl (zc.kn.ev rfl) ⟨_, rfl, Below.refl _ _, optDef zβ rfl⟩
    refine ⟨⟨_, .yes (c := ((decide ((((t.size : Nat) : Int) : Int) ≤ (300 : Int))) && (decide ((((t.dep : Nat) : Int) : Int) ≤ (30 : Int))))) (d := true) rfl (fun v w h => h), fun h w => optUndef h, fun zβ za zw zc => ?_⟩, ?_⟩
    · exact wp_call (by kernel_rfl) rfl (hv2 ((evt za 14).trans (optVal (zc.dep 9 14 (by kernel_rfl)) rfl zβ)) ((evt za 15).trans (optVal (zc.dep 10 15 (by kernel_rfl)) rfl zβ))) (rlow_any m hm0 t _ _ hz (IsT.below (bstep hb5 zc.below) hv0)) (fun v w' h => ⟨v, rfl, h.2, optDef zβ h.1⟩)
    refine ⟨⟨true, .none rfl, fun h w => optUndef h, fun zβ za zw zc => ?_⟩, ?_⟩
    · exact wp_and rfl ((evt za 13).trans (optVal (zc.dep 8 13 (by kernel_rfl)) rfl rfl)) (fun hp => ((evt za 16).trans (optVal (zc.dep 11 16 (by kernel_rfl)) rfl (bMk zβ hp)))) ⟨_, rfl, Below.refl _ _, optDef zβ rfl⟩
    refine ⟨⟨true, .none rfl, fun h w => optUndef h, fun zβ za zw zc => ?_⟩, ?_⟩
    · exact wp_assign rfl ((evt za 17).trans (optVal (zc.dep 12 17 (by kernel_rfl)) rfl rfl)) ⟨_, rfl, Below.refl _ _, optDef zβ rfl⟩
    exact trivial
  · intro za w11 zh hb12 zu
    have zh := zh.cons (d := 4) (v := .bool ((((decide ((((t.size : Nat) : Int) : Int) ≤ (300 : Int))) && (decide ((((t.dep : Nat) : Int) : Int) ≤ (30 : Int)))) && (t.low m)))) (optVal (zu 13 4 (by kernel_rfl)) rfl rfl)
    clear zu
    refine WE.go zh ?_
    refine WE.next ?_
    refine WC.ret ?_
    refine WE.ret1 rfl rfl ?_
    have hb13 : Below w.heap.size w w11 := (bstep hb5 hb12)
    refine ⟨_, rfl, congrArg Value.bool ?_, hb13⟩
    unfold T.small
    rw [Bool.eq_iff_iff]; simp; omega
end Go.Proofs.Ythhgidliopohcaa
