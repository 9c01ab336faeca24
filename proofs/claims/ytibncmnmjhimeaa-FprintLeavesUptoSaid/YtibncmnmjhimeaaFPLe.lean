/- What a part becomes: the document's program. -/
import Derived.Test.YtibncmnmjhimeaaFPLd
import Derived.Test.YtibncmnmjhimeaaFPLc
import Derived.Test.YtibncmnmjhimeaaFPLb

/- A term is put into the net: the document's program. -/
namespace Go.Proofs.Ytibncmnmjhimeaa
open Go.RowKit Go
set_option linter.unusedVariables false
set_option linter.unusedSimpArgs false
set_option maxRecDepth 100000 in
theorem radd_any (w0 : World) (κ d : Nat → Nat) (g : Nat) : ∀ (t : T) (st : NS) (U : List Nat) (Z : Nat → Prop) (w : World) (v : Value), NetOk st → RX w g Z U st.N st.V → Reps U κ d → (∀ i, st.N.length ≤ i → κ i = i) → st.N.length + t.size ≤ 1048576 → t.low 96 = true → Below w0.heap.size w0 w → (∀ b, Z b → w0.heap.size ≤ b) → IsT w0 t v →
  Calls Try.prog 43 #[.pointer (some ⟨g, 0, none⟩), v] w (Ret fun v' w' => v' = .int .i64 (((t.put st).2 : Nat) : Int) ∧ RJ w' w.heap.size Z κ d g (t.put st).1.N (t.put st).1.V (fun _ => False) ∧ Chg Z w w') := by
 refine T.ind (fun f l ih => ?_)
 intro st U Z w v hst hN hR hκ hsz hlow hb0 hZ0 hv
 have hlen := len_le_sizeL l
 have hz' := hsz
 simp only [T.size] at hz'
 obtain ⟨hfI, a, c, rfl, hlc, hcm, hl⟩ := hv
 unfold I64 at hfI
 have hgZ : Z g := hN.hg
 have hZl := hN.lt
 have hUl := hN.len
 have hlow' := hlow
 rw [T.low] at hlow'
 have hf96 : f < 0 → -96 ≤ f ∧ l = [] := fun q => by rw [if_pos q] at hlow'; simp at hlow'; exact ⟨by omega, hlow'.2⟩
 have hv9 : f < 0 → vnum f < 96 ∧ ((vnum f : Nat) : Int) = -1 - f := fun q => vnum_lt q (hf96 q).1
 have hvV := hst.vars (vnum f)
 have hC0 := Chg.refl Z w
 have hN0 := hN
 obtain ⟨S9, la9, lc9, ua9, uc9, vb9, vc9, hP9, _, hRZ9, _⟩ := hN0
 refine Calls.walk (l := [.pointer (some ⟨g, 0, none⟩), .agg #[.int .i64 f, .slice a l.length c]]) Try.func43 rfl (by kernel_rfl) ?_
 refine WC.sub (K' := [(0, .pointer (some ⟨g, 0, none⟩)), (1, .agg #[.int .i64 f, .slice a l.length c])]) ⟨rfl, rfl, trivial⟩ ?_
 refine WC.seq (WC.region ?_)
 refine WL.step (post := NewBlk w 24 #[.int .i64 f, .slice a l.length c]) rfl rfl rfl (fun za zC zh zk => box_24 rfl (zh.ev rfl) (zk _ _ (newBlk _ _ _))) ?_
 rintro _ w1 ⟨g2, rfl, hg3, hB4, hb5, hz6⟩
 have hl7 : w0.heap.size ≤ g2 := by have z2 := (hb0).size; omega
 have hl8 : w.heap.size ≤ g2 := by omega
 refine WL.asg rfl rfl rfl rfl rfl (WL.nil (WE.next (WC.seq (WC.seq ?_))))
 have ho9 := hP9.below hb5
 refine WC.opt [(true, .val (.pointer (some ⟨g2, 0, none⟩))), (true, .val (.int .i64 f)), (true, .val (.bool ((decide ((f : Int) < (0 : Int)))))), (true, .val (.bool ((decide ((f : Int) < (0 : Int)))))), ((true && (decide ((f : Int) < (0 : Int)))), .val (.pointer (some ⟨g, 0, none⟩))), ((true && (decide ((f : Int) < (0 : Int)))), .val (.pointer (some ⟨g, 0, none⟩))), ((true && (decide ((f : Int) < (0 : Int)))), .val (.pointer (some ⟨g, 2, none⟩))), ((true && (decide ((f : Int) < (0 : Int)))), .val (.slice ((some ⟨vb9, 0, none⟩)) 96 vc9)), ((true && (decide ((f : Int) < (0 : Int)))), .val (.pointer (some ⟨g2, 0, none⟩))), ((true && (decide ((f : Int) < (0 : Int)))), .val (.int .i64 f)), ((true && (decide ((f : Int) < (0 : Int)))), .val (.int .i64 ((((vnum f) : Nat) : Int)))), ((true && (decide ((f : Int) < (0 : Int)))), .val (.pointer (some ⟨vb9, 0 + (vnum f), none⟩))), ((true && (decide ((f : Int) < (0 : Int)))), .val (.int .i64 (((st.V (vnum f) : Int) - 1)))), ((true && (decide ((f : Int) < (0 : Int)))), .val (.bool ((decide ((0 : Int) ≤ (((st.V (vnum f) : Int) - 1) : Int)))))), (true, .val (.bool (((decide ((f : Int) < (0 : Int))) && (decide ((0 : Int) ≤ (((st.V (vnum f) : Int) - 1) : Int)))))))] [(0, .pointer (some ⟨g, 0, none⟩)), (1, .agg #[.int .i64 f, .slice a l.length c]), (3, .pointer (some ⟨g2, 0, none⟩)), (4, .int .i64 0)] ⟨rfl, rfl, rfl, rfl, trivial⟩ (by kernel_rfl) (by kernel_rfl) (by kernel_rfl) ?_ ?_
 ·refine ⟨⟨true, .none rfl, fun h w => optUndef h, fun zβ za zw zc => ?_⟩, ?_⟩
  ·exact fld_24_0 rfl (zc.kn.ev rfl) ⟨_, rfl, Below.refl _ _, optDef zβ rfl⟩
  refine ⟨⟨true, .none rfl, fun h w => optUndef h, fun zβ za zw zc => ?_⟩, ?_⟩
  ·exact ld_3 rfl ((evt za 7).trans (optVal (zc.dep 0 7 (by kernel_rfl)) rfl rfl)) (bkeeps zc.below _ _ ((hB4.cell 0).trans rfl)) ⟨_, rfl, Below.refl _ _, optDef zβ rfl⟩
  refine ⟨⟨true, .none rfl, fun h w => optUndef h, fun zβ za zw zc => ?_⟩, ?_⟩
  ·exact lss_3 rfl ((evt za 8).trans (optVal (zc.dep 1 8 (by kernel_rfl)) rfl rfl)) (zc.kn.ev rfl) ⟨_, rfl, Below.refl _ _, optDef zβ rfl⟩
  refine ⟨⟨true, .none rfl, fun h w => optUndef h, fun zβ za zw zc => ?_⟩, ?_⟩
  ·exact wp_move rfl ((evt za 9).trans (optVal (zc.dep 2 9 (by kernel_rfl)) rfl rfl)) ⟨_, rfl, Below.refl _ _, optDef zβ rfl⟩
  refine ⟨⟨_, .yes (d := true) rfl (fun v w h => h), fun h w => optUndef h, fun zβ za zw zc => ?_⟩, ?_⟩
  ·exact wp_move rfl (zc.kn.ev rfl) ⟨_, rfl, Below.refl _ _, optDef zβ rfl⟩
  refine ⟨⟨_, .yes (d := true) rfl (fun v w h => h), fun h w => optUndef h, fun zβ za zw zc => ?_⟩, ?_⟩
  ·exact nilCheck_ rfl ((evt za 11).trans (optVal (zc.dep 4 11 (by kernel_rfl)) rfl zβ)) ⟨_, rfl, Below.refl _ _, optDef zβ rfl⟩
  refine ⟨⟨_, .yes (d := true) rfl (fun v w h => h), fun h w => optUndef h, fun zβ za zw zc => ?_⟩, ?_⟩
  ·exact fld_79_2 rfl ((evt za 12).trans (optVal (zc.dep 5 12 (by kernel_rfl)) rfl zβ)) ⟨_, rfl, Below.refl _ _, optDef zβ rfl⟩
  refine ⟨⟨_, .yes (d := true) rfl (fun v w h => h), fun h w => optUndef h, fun zβ za zw zc => ?_⟩, ?_⟩
  ·exact ld_31 rfl ((evt za 13).trans (optVal (zc.dep 6 13 (by kernel_rfl)) rfl zβ)) (bkeeps zc.below _ _ ho9.c2) ⟨_, rfl, Below.refl _ _, optDef zβ rfl⟩
  refine ⟨⟨_, .yes (d := true) rfl (fun v w h => h), fun h w => optUndef h, fun zβ za zw zc => ?_⟩, ?_⟩
  ·exact fld_24_0 rfl (zc.kn.ev rfl) ⟨_, rfl, Below.refl _ _, optDef zβ rfl⟩
  refine ⟨⟨_, .yes (d := true) rfl (fun v w h => h), fun h w => optUndef h, fun zβ za zw zc => ?_⟩, ?_⟩
  ·exact ld_3 rfl ((evt za 15).trans (optVal (zc.dep 8 15 (by kernel_rfl)) rfl zβ)) (bkeeps zc.below _ _ ((hB4.cell 0).trans rfl)) ⟨_, rfl, Below.refl _ _, optDef zβ rfl⟩
  refine ⟨⟨_, .yes (d := true) rfl (fun v w h => h), fun h w => optUndef h, fun zβ za zw zc => ?_⟩, ?_⟩
  ·exact subb_3 rfl (zc.kn.ev rfl) ((evt za 16).trans (optVal (zc.dep 9 16 (by kernel_rfl)) rfl zβ)) (wrap_eq (by have zz := zβ; simp only [Bool.true_and, Bool.and_eq_true, decide_eq_true_eq] at zz; have z := hv9 zz; omega) (by have zz := zβ; simp only [Bool.true_and, Bool.and_eq_true, decide_eq_true_eq] at zz; have z := hv9 zz; omega) (by have zz := zβ; simp only [Bool.true_and, Bool.and_eq_true, decide_eq_true_eq] at zz; have z := hv9 zz; omega)) ⟨_, rfl, Below.refl _ _, optDef zβ rfl⟩
  refine ⟨⟨_, .yes (d := true) rfl (fun v w h => h), fun h w => optUndef h, fun zβ za zw zc => ?_⟩, ?_⟩
  ·exact ix_31 (k := vnum f) rfl ((evt za 14).trans (optVal (zc.dep 7 14 (by kernel_rfl)) rfl zβ)) rfl ((evt za 17).trans (optVal (zc.dep 10 17 (by kernel_rfl)) rfl zβ)) (by have zz := zβ; simp only [Bool.true_and, Bool.and_eq_true, decide_eq_true_eq] at zz; have z := hv9 zz; exact z.1) ⟨_, rfl, Below.refl _ _, optDef zβ rfl⟩
  refine ⟨⟨_, .yes (d := true) rfl (fun v w h => h), fun h w => optUndef h, fun zβ za zw zc => ?_⟩, ?_⟩
  ·exact ld_3 rfl ((evt za 18).trans (optVal (zc.dep 11 18 (by kernel_rfl)) rfl zβ)) (bkeeps zc.below _ _ (PR.of ho9 |>.cell (by have zz := zβ; simp only [Bool.true_and, Bool.and_eq_true, decide_eq_true_eq] at zz; have z := hv9 zz; exact z.1))) ⟨_, rfl, Below.refl _ _, optDef zβ rfl⟩
  refine ⟨⟨_, .yes (d := true) rfl (fun v w h => h), fun h w => optUndef h, fun zβ za zw zc => ?_⟩, ?_⟩
  ·exact geq_3 rfl ((evt za 19).trans (optVal (zc.dep 12 19 (by kernel_rfl)) rfl zβ)) (zc.kn.ev rfl) ⟨_, rfl, Below.refl _ _, optDef zβ rfl⟩
  refine ⟨⟨true, .none rfl, fun h w => optUndef h, fun zβ za zw zc => ?_⟩, ?_⟩
  ·exact wp_and rfl ((evt za 10).trans (optVal (zc.dep 3 10 (by kernel_rfl)) rfl rfl)) (fun hp => ((evt za 20).trans (optVal (zc.dep 13 20 (by kernel_rfl)) rfl (bMk zβ hp)))) ⟨_, rfl, Below.refl _ _, optDef zβ rfl⟩
  exact trivial
 ·intro za w10 zh hb11 zu
  have zh := zh.cons (d := 21) (v := .bool (((decide ((f : Int) < (0 : Int))) && (decide ((0 : Int) ≤ (((st.V (vnum f) : Int) - 1) : Int)))))) (optVal (zu 14 21 (by kernel_rfl)) rfl rfl)
  clear zu
  refine WE.go zh ?_
  refine WE.next ?_
  refine WC.cond rfl (fun h12 => ?_) (fun h12 => ?_)
  ·have h12 : ((f : Int) < (0 : Int)) ∧ ((0 : Int) ≤ (((st.V (vnum f) : Int) - 1) : Int)) := by simpa using h12
   refine WC.seq ?_
   have ho13 := ho9.below hb11
   have hB14 := hB4.below hb11
   refine WC.opt [(true, .val (.pointer (some ⟨g, 0, none⟩))), (true, .val (.pointer (some ⟨g, 0, none⟩))), (true, .val (.pointer (some ⟨g, 2, none⟩))), (true, .val (.slice ((some ⟨vb9, 0, none⟩)) 96 vc9)), (true, .val (.pointer (some ⟨g2, 0, none⟩))), (true, .val (.int .i64 f)), (true, .val (.int .i64 ((((vnum f) : Nat) : Int)))), (true, .val (.pointer (some ⟨vb9, 0 + (vnum f), none⟩))), (true, .val (.int .i64 (((st.V (vnum f) : Int) - 1)))), (true, .val (.int .i64 (((st.V (vnum f) : Int) - 1))))] [(0, .pointer (some ⟨g, 0, none⟩)), (1, .agg #[.int .i64 f, .slice a l.length c]), (3, .pointer (some ⟨g2, 0, none⟩)), (21, .bool (((decide ((f : Int) < (0 : Int))) && (decide ((0 : Int) ≤ (((st.V (vnum f) : Int) - 1) : Int))))))] ⟨rfl, rfl, rfl, rfl, trivial⟩ (by kernel_rfl) (by kernel_rfl) (by kernel_rfl) ?_ ?_
   ·refine ⟨⟨true, .none rfl, fun h w => optUndef h, fun zβ za zw zc => ?_⟩, ?_⟩
    ·exact wp_move rfl (zc.kn.ev rfl) ⟨_, rfl, Below.refl _ _, optDef zβ rfl⟩
    refine ⟨⟨true, .none rfl, fun h w => optUndef h, fun zβ za zw zc => ?_⟩, ?_⟩
    ·exact nilCheck_ rfl ((evt za 22).trans (optVal (zc.dep 0 22 (by kernel_rfl)) rfl rfl)) ⟨_, rfl, Below.refl _ _, optDef zβ rfl⟩
    refine ⟨⟨true, .none rfl, fun h w => optUndef h, fun zβ za zw zc => ?_⟩, ?_⟩
    ·exact fld_79_2 rfl ((evt za 23).trans (optVal (zc.dep 1 23 (by kernel_rfl)) rfl rfl)) ⟨_, rfl, Below.refl _ _, optDef zβ rfl⟩
    refine ⟨⟨true, .none rfl, fun h w => optUndef h, fun zβ za zw zc => ?_⟩, ?_⟩
    ·exact ld_31 rfl ((evt za 24).trans (optVal (zc.dep 2 24 (by kernel_rfl)) rfl rfl)) (bkeeps zc.below _ _ ho13.c2) ⟨_, rfl, Below.refl _ _, optDef zβ rfl⟩
    refine ⟨⟨true, .none rfl, fun h w => optUndef h, fun zβ za zw zc => ?_⟩, ?_⟩
    ·exact fld_24_0 rfl (zc.kn.ev rfl) ⟨_, rfl, Below.refl _ _, optDef zβ rfl⟩
    refine ⟨⟨true, .none rfl, fun h w => optUndef h, fun zβ za zw zc => ?_⟩, ?_⟩
    ·exact ld_3 rfl ((evt za 26).trans (optVal (zc.dep 4 26 (by kernel_rfl)) rfl rfl)) (bkeeps zc.below _ _ ((hB14.cell 0).trans rfl)) ⟨_, rfl, Below.refl _ _, optDef zβ rfl⟩
    refine ⟨⟨true, .none rfl, fun h w => optUndef h, fun zβ za zw zc => ?_⟩, ?_⟩
    ·exact subb_3 rfl (zc.kn.ev rfl) ((evt za 27).trans (optVal (zc.dep 5 27 (by kernel_rfl)) rfl rfl)) (wrap_eq (by have z := hv9 (by omega); omega) (by have z := hv9 (by omega); omega) (by have z := hv9 (by omega); omega)) ⟨_, rfl, Below.refl _ _, optDef zβ rfl⟩
    refine ⟨⟨true, .none rfl, fun h w => optUndef h, fun zβ za zw zc => ?_⟩, ?_⟩
    ·exact ix_31 (k := vnum f) rfl ((evt za 25).trans (optVal (zc.dep 3 25 (by kernel_rfl)) rfl rfl)) rfl ((evt za 28).trans (optVal (zc.dep 6 28 (by kernel_rfl)) rfl rfl)) (by have z := hv9 (by omega); exact z.1) ⟨_, rfl, Below.refl _ _, optDef zβ rfl⟩
    refine ⟨⟨true, .none rfl, fun h w => optUndef h, fun zβ za zw zc => ?_⟩, ?_⟩
    ·exact ld_3 rfl ((evt za 29).trans (optVal (zc.dep 7 29 (by kernel_rfl)) rfl rfl)) (bkeeps zc.below _ _ (PR.of ho13 |>.cell (by have z := hv9 (by omega); exact z.1))) ⟨_, rfl, Below.refl _ _, optDef zβ rfl⟩
    refine ⟨⟨true, .none rfl, fun h w => optUndef h, fun zβ za zw zc => ?_⟩, ?_⟩
    ·exact wp_assign rfl ((evt za 30).trans (optVal (zc.dep 8 30 (by kernel_rfl)) rfl rfl)) ⟨_, rfl, Below.refl _ _, optDef zβ rfl⟩
    exact trivial
   ·intro za w15 zh hb16 zu
    have zh := zh.cons (d := 4) (v := .int .i64 (((st.V (vnum f) : Int) - 1))) (optVal (zu 9 4 (by kernel_rfl)) rfl rfl)
    clear zu
    refine WE.go zh ?_
    refine WE.next (WC.ret (WE.thenRet (WE.ret1 rfl rfl ?_)))
    have ho17 := ho13.below hb16
    have hb18 : Below w.heap.size w w15 := (bstep (bstep hb5 hb11) hb16)
    have hC19 := Chg.trans hC0 (.ofBelow hb18)
    have hVn : st.V (vnum f) ≠ 0 := by omega
    have e : (T.mk f l).put st = (st, st.V (vnum f) - 1) := by
     rw [T.put, if_pos (by omega)]; unfold NS.var; rw [if_pos hVn]
    rw [e]
    exact ⟨_, rfl, congrArg (Value.int .i64) (by omega), ⟨U, Z, hR, hN.below hb18, fun b q => .inl q, fun b q => q.elim⟩, hC19⟩
  ·have h12 : ¬ (((f : Int) < (0 : Int)) ∧ ((0 : Int) ≤ (((st.V (vnum f) : Int) - 1) : Int))) := by simpa using h12
   refine WC.skip (WE.next (WC.seq (WC.region ?_)))
   refine WL.val _ rfl rfl rfl (fun za zC zh zk => fld_24_0 rfl (zh.ev rfl) zk) ?_
   have hB20 := hB4.below hb11
   refine WL.val _ rfl rfl rfl (fun za zC zh zk => ld_3 rfl (zh.ev rfl) ((hB20.cell 0).trans rfl) zk) ?_
   refine WL.val (.agg #[.int .i64 f, .slice none 0 0]) rfl rfl rfl (fun za zC zh zk => build_89_0 rfl (zh.ev rfl) zk) ?_
   refine WL.step (post := NewBlk w10 89 #[.int .i64 0, .slice none 0 0]) rfl rfl rfl (fun za zC zh zk => alloc_89 rfl (zk _ _ (newBlk _ _ _))) ?_
   rintro _ w21 ⟨g22, rfl, hg23, hB24, hb25, hz26⟩
   have hl27 : g2 < g22 := by have z1 := hB20.lt; omega
   have hb28 : Below w0.heap.size w0 w10 := (bstep (bstep hb0 hb5) hb11)
   have hl29 : w0.heap.size ≤ g22 := by have z2 := (hb28).size; omega
   have hl30 : w1.heap.size ≤ g22 := by have z2 := (hb11).size; omega
   refine WL.step (post := fun _ w' => Upd g22 w21 w' ∧ Blk w' g22 89 #[.int .i64 f, .slice none 0 0]) rfl rfl rfl (fun za zC zh zk => st_89 rfl (zh.ev rfl) (zh.ev rfl) rfl rfl hB24 (by first | decide | simp) (fun v => zk v _ ⟨(Upd.at_ _ _ _ _).trans (Upd.at_ _ _ _ _), (hB24.set_ 0 _).set_ 1 _⟩)) ?_
   rintro v34 w31 ⟨hu32, hB33⟩
   have hb35 : Below w0.heap.size w0 w21 := (bstep hb28 hb25)
   have hb36 : Below w1.heap.size w1 w21 := (bstep hb11 hb25)
   have hb37 := upd_below hb35 hu32 (by omega)
   have hb38 := upd_below hb36 hu32 (by omega)
   have hB39 := hB20.below hb25
   have hB40 := upd_blk hB39 hu32 (by omega)
   refine WL.nil (WE.next (WC.seq (WC.seq (WC.region (WL.asg rfl rfl rfl rfl rfl (WL.nil (WE.next (WC.block ?_))))))))
   have hgZ41 : ¬ Z g2 ∧ w.heap.size ≤ g2 := by have z : w.heap.size ≤ g2 := (by omega); exact ⟨fun q => by have z := hZl _ q; omega, z⟩
   have hgZ42 : ¬ Z g22 ∧ w.heap.size ≤ g22 := by have z : w.heap.size ≤ g22 := (by omega); exact ⟨fun q => by have z := hZl _ q; omega, z⟩
   have hg5w : w.heap.size ≤ g22 := by omega
   have hg3w : w.heap.size ≤ g2 := by omega
   have hb43 : Below w.heap.size w w31 := (bstep hb5 hb38)
   have hJ1 : RJ w31 w.heap.size Z κ d g ((T.putL (l.take 0) st).1.N) ((T.putL (l.take 0) st).1.V) (fun q => q = g22 ∨ q = g2 ∨ obk none 0 0 = some q) := by
    have e : T.putL (l.take 0) st = (st, []) := rfl
    rw [e]
    exact ⟨U, Z, hR, hN.below hb43, fun b q => .inl q, fun b q h9 => by have z := hZl b h9; rcases q with q | q | q; omega; omega; cases q⟩
   have hr0 : RowD eltN (fun _ => False) w31 3 none 0 0 ((T.putL (l.take 0) st).2) := RowD.nil
   have hC44 := Chg.trans hC0 (.ofBelow hb43)
   refine WC.loop (X := Nat × Option Addr × Nat) (fun x => l.length - x.1) (fun x => [(0, .pointer (some ⟨g, 0, none⟩)), (1, .agg #[.int .i64 f, .slice a l.length c]), (3, .pointer (some ⟨g2, 0, none⟩)), (4, .int .i64 0), (5, .pointer (some ⟨g22, 0, none⟩)), (6, .int .i64 (((x.1 : Nat) : Int))), (21, .bool (((decide ((f : Int) < (0 : Int))) && (decide ((0 : Int) ≤ (((st.V (vnum f) : Int) - 1) : Int))))))]) (fun x w45 => x.1 ≤ l.length ∧ Chg Z w w45 ∧ (∀ q, obk x.2.1 x.1 x.2.2 = some q → w.heap.size ≤ q ∧ q ≠ g2 ∧ q ≠ g22) ∧ Below w0.heap.size w0 w45 ∧ Blk w45 g2 24 #[.int .i64 f, .slice a l.length c] ∧ Blk w45 g22 89 #[.int .i64 f, .slice x.2.1 x.1 x.2.2] ∧ RJ (w45) w.heap.size Z κ d g ((T.putL (l.take x.1) st).1.N) ((T.putL (l.take x.1) st).1.V) (fun q => q = g22 ∨ q = g2 ∨ obk x.2.1 x.1 x.2.2 = some q) ∧ RowD eltN (fun _ => False) (w45) 3 x.2.1 x.2.2 x.1 ((T.putL (l.take x.1) st).2)) ((0, none, 0)) ⟨rfl, rfl, rfl, rfl, rfl, rfl, rfl, trivial⟩ ?_ ?_
   ·exact ⟨Nat.zero_le _, hC44, (fun q h9 => nomatch h9), hb37, hB40, hB33, hJ1, hr0⟩
   ·rintro x w45 ⟨hk, hCx, hownw, hb46, hB47, hB48, ho49, ho50⟩
    have hlk : (T.putL (l.take x.1) st).2.length = x.1 := putL_take_len hst hk
    have hpo := (putL_ok (l.take x.1) st hst).1
    have hpl := hpo.len
    have hle9 := hpo.le
    have htk := T.sizeL_take_le l x.1
    refine WC.seq (WC.seq (WC.region (WL.mv rfl rfl rfl rfl rfl ?_)))
    refine WL.val _ rfl rfl rfl (fun za zC zh zk => fld_24_1 rfl (zh.ev rfl) zk) ?_
    refine WL.val _ rfl rfl rfl (fun za zC zh zk => ld_22 rfl (zh.ev rfl) ((hB47.cell 1).trans rfl) zk) ?_
    refine WL.val (.int .i64 (((l.length : Nat) : Int))) rfl rfl rfl (fun za zC zh zk => len_22 rfl (zh.ev rfl) zk) ?_
    refine WL.val (.bool ((decide ((((x.1 : Nat) : Int) : Int) < (((l.length : Nat) : Int) : Int))))) rfl rfl rfl (fun za zC zh zk => lss_3 rfl (zh.ev rfl) (zh.ev rfl) zk) ?_
    refine WL.nil (WE.next ?_)
    refine WC.cond rfl (fun h51 => ?_) (fun h51 => ?_)
    ·have h51 : (((x.1 : Nat) : Int) : Int) < (((l.length : Nat) : Int) : Int) := by simpa using h51
     refine WC.skip (WE.next (WC.seq (WC.block ?_)))
     obtain ⟨U9, Z9, hR9, hN9, hZ9, hX9⟩ := ho49
     have hwW : w.heap.size ≤ w45.heap.size := (hCx).size
     have hrlt := ho50.lt
     have hg5lt : g22 < w45.heap.size := hB48.lt
     have hg3lt : g2 < w45.heap.size := hB47.lt
     have hmem9 : tget l x.1 ∈ l := tget_mem (by omega)
     have hsz9 := T.sizeL_take_succ l x.1 (by omega)
     have htg9 := tget_lt (show x.1 < l.length by omega)
     rw [← htg9] at hsz9
     have hst9 := T.sizeL_take_le l (x.1 + 1)
     have hown9 : ∀ q, obk x.2.1 x.1 x.2.2 = some q → ¬ q < w0.heap.size := fun q h9 => by have z := (hownw q h9).1; have z2 := hb0.size; omega
     have hZ90 : ∀ q, Z9 q → w0.heap.size ≤ q := fun q h9 => by rcases hZ9 q h9 with z | z; exact hZ0 q z; (have z2 := hb0.size; omega)
     have hf0 : ¬ f < 0 := fun q => by have z : l.length = 0 := (by rw [(hf96 q).2]; rfl); omega
     have hlowL : ∀ q ∈ l, T.low 96 q = true := by rw [if_neg hf0] at hlow'; exact lowL_mem.1 hlow'
     have hG10 : ∀ (vals : List Value) (wa wb : World), Below wa.heap.size wa wb → (fun vals wz => match vals with | [] => (RX wz g Z9 U9 ((T.putL (l.take x.1) st).1.N) ((T.putL (l.take x.1) st).1.V)) ∧ (Blk wz g22 89 #[.int .i64 f, .slice x.2.1 x.1 x.2.2]) ∧ RowD eltN (fun _ => False) wz 3 x.2.1 x.2.2 x.1 ((T.putL (l.take x.1) st).2) | [_] => (RJ wz w.heap.size Z κ d g (((tget l x.1).put (T.putL (l.take x.1) st).1).1.N) (((tget l x.1).put (T.putL (l.take x.1) st).1).1.V) (fun q => q = g22 ∨ q = g2 ∨ obk x.2.1 x.1 x.2.2 = some q)) ∧ (Blk wz g22 89 #[.int .i64 f, .slice x.2.1 x.1 x.2.2]) ∧ RowD eltN (fun _ => False) wz 3 x.2.1 x.2.2 x.1 ((T.putL (l.take x.1) st).2) | [_, z1] => ((RJ wz w.heap.size Z κ d g (((tget l x.1).put (T.putL (l.take x.1) st).1).1.N) (((tget l x.1).put (T.putL (l.take x.1) st).1).1.V) (fun q => q = g22 ∨ q = g2 ∨ obk x.2.1 x.1 x.2.2 = some q)) ∧ (Blk wz g22 89 #[.int .i64 f, .slice x.2.1 x.1 x.2.2]) ∧ RowD eltN (fun _ => False) wz 3 x.2.1 x.2.2 x.1 ((T.putL (l.take x.1) st).2)) ∧ ∃ g1, z1 = .slice (some ⟨g1, 0, none⟩) 1 1 ∧ Blk wz g1 3 #[.int .i64 ((((tget l x.1).put (T.putL (l.take x.1) st).1).2 : Nat) : Int)] | [_, _, z2] => ∃ ra rc, z2 = .slice ra (x.1 + 1) rc ∧ (RJ wz w.heap.size Z κ d g (((tget l x.1).put (T.putL (l.take x.1) st).1).1.N) (((tget l x.1).put (T.putL (l.take x.1) st).1).1.V) (fun q => q = g22 ∨ q = g2 ∨ obk ra ((x.1 + 1)) rc = some q)) ∧ (Blk wz g22 89 #[.int .i64 f, .slice x.2.1 x.1 x.2.2]) ∧ (RowD eltN (fun _ => False) wz 3 ra rc ((x.1 + 1)) (((T.putL (l.take x.1) st).2 ++ [((tget l x.1).put (T.putL (l.take x.1) st).1).2]))) ∧ (∀ q, obk ra (x.1 + 1) rc = some q → w.heap.size ≤ q ∧ q ≠ g2 ∧ q ≠ g22) | [_, _, _, _] => ∃ ra rc, (RJ wz w.heap.size Z κ d g (((tget l x.1).put (T.putL (l.take x.1) st).1).1.N) (((tget l x.1).put (T.putL (l.take x.1) st).1).1.V) (fun q => q = g22 ∨ q = g2 ∨ obk ra ((x.1 + 1)) rc = some q)) ∧ (Blk wz g22 89 #[.int .i64 f, .slice ra (x.1 + 1) rc]) ∧ (RowD eltN (fun _ => False) wz 3 ra rc ((x.1 + 1)) (((T.putL (l.take x.1) st).2 ++ [((tget l x.1).put (T.putL (l.take x.1) st).1).2]))) ∧ (∀ q, obk ra (x.1 + 1) rc = some q → w.heap.size ≤ q ∧ q ≠ g2 ∧ q ≠ g22) | _ => False) vals wa → (fun vals wz => match vals with | [] => (RX wz g Z9 U9 ((T.putL (l.take x.1) st).1.N) ((T.putL (l.take x.1) st).1.V)) ∧ (Blk wz g22 89 #[.int .i64 f, .slice x.2.1 x.1 x.2.2]) ∧ RowD eltN (fun _ => False) wz 3 x.2.1 x.2.2 x.1 ((T.putL (l.take x.1) st).2) | [_] => (RJ wz w.heap.size Z κ d g (((tget l x.1).put (T.putL (l.take x.1) st).1).1.N) (((tget l x.1).put (T.putL (l.take x.1) st).1).1.V) (fun q => q = g22 ∨ q = g2 ∨ obk x.2.1 x.1 x.2.2 = some q)) ∧ (Blk wz g22 89 #[.int .i64 f, .slice x.2.1 x.1 x.2.2]) ∧ RowD eltN (fun _ => False) wz 3 x.2.1 x.2.2 x.1 ((T.putL (l.take x.1) st).2) | [_, z1] => ((RJ wz w.heap.size Z κ d g (((tget l x.1).put (T.putL (l.take x.1) st).1).1.N) (((tget l x.1).put (T.putL (l.take x.1) st).1).1.V) (fun q => q = g22 ∨ q = g2 ∨ obk x.2.1 x.1 x.2.2 = some q)) ∧ (Blk wz g22 89 #[.int .i64 f, .slice x.2.1 x.1 x.2.2]) ∧ RowD eltN (fun _ => False) wz 3 x.2.1 x.2.2 x.1 ((T.putL (l.take x.1) st).2)) ∧ ∃ g1, z1 = .slice (some ⟨g1, 0, none⟩) 1 1 ∧ Blk wz g1 3 #[.int .i64 ((((tget l x.1).put (T.putL (l.take x.1) st).1).2 : Nat) : Int)] | [_, _, z2] => ∃ ra rc, z2 = .slice ra (x.1 + 1) rc ∧ (RJ wz w.heap.size Z κ d g (((tget l x.1).put (T.putL (l.take x.1) st).1).1.N) (((tget l x.1).put (T.putL (l.take x.1) st).1).1.V) (fun q => q = g22 ∨ q = g2 ∨ obk ra ((x.1 + 1)) rc = some q)) ∧ (Blk wz g22 89 #[.int .i64 f, .slice x.2.1 x.1 x.2.2]) ∧ (RowD eltN (fun _ => False) wz 3 ra rc ((x.1 + 1)) (((T.putL (l.take x.1) st).2 ++ [((tget l x.1).put (T.putL (l.take x.1) st).1).2]))) ∧ (∀ q, obk ra (x.1 + 1) rc = some q → w.heap.size ≤ q ∧ q ≠ g2 ∧ q ≠ g22) | [_, _, _, _] => ∃ ra rc, (RJ wz w.heap.size Z κ d g (((tget l x.1).put (T.putL (l.take x.1) st).1).1.N) (((tget l x.1).put (T.putL (l.take x.1) st).1).1.V) (fun q => q = g22 ∨ q = g2 ∨ obk ra ((x.1 + 1)) rc = some q)) ∧ (Blk wz g22 89 #[.int .i64 f, .slice ra (x.1 + 1) rc]) ∧ (RowD eltN (fun _ => False) wz 3 ra rc ((x.1 + 1)) (((T.putL (l.take x.1) st).2 ++ [((tget l x.1).put (T.putL (l.take x.1) st).1).2]))) ∧ (∀ q, obk ra (x.1 + 1) rc = some q → w.heap.size ≤ q ∧ q ≠ g2 ∧ q ≠ g22) | _ => False) vals wb := by
      intro vals wa wb hb h
      match vals, h with
      | [], h => exact ⟨h.1.below hb, h.2.1.below hb, h.2.2.below hb⟩
      | [_], h => exact ⟨h.1.below hb, h.2.1.below hb, h.2.2.below hb⟩
      | [_, z1], h =>
       obtain ⟨⟨k1, k2, k3⟩, g1, e, k4⟩ := h
       exact ⟨⟨k1.below hb, k2.below hb, k3.below hb⟩, g1, e, k4.below hb⟩
      | [_, _, z2], h =>
       obtain ⟨ra, rc, e, k1, k2, k3, k4⟩ := h
       exact ⟨ra, rc, e, k1.below hb, k2.below hb, k3.below hb, k4⟩
      | [_, _, _, _], h =>
       obtain ⟨ra, rc, k1, k2, k3, k4⟩ := h
       exact ⟨ra, rc, k1.below hb, k2.below hb, k3.below hb, k4⟩
     have hb9 : Below w0.heap.size w0 w45 := hb46
     obtain ⟨b52, o53, A54, C55, ha56, hc57⟩ := IsTs.open hl
     refine WC.seqV (S := ((fun q => Z9 q ∨ q = g22 ∨ obk x.2.1 x.1 x.2.2 = some q))) [(true, .val (.pointer (some ⟨g22, 1, none⟩))), (true, .val (.slice x.2.1 x.1 x.2.2)), (true, .val (.pointer (some ⟨g, 0, none⟩))), (true, .val (.pointer (some ⟨g2, 1, none⟩))), (true, .val (.slice a l.length c)), (true, .val (.int .i64 (((x.1 : Nat) : Int)))), (true, .val (.pointer (some ⟨b52, o53 + x.1 * 2, none⟩))), (true, .val (.agg #[.int .i64 ((tget l x.1).f), .slice ((A54 x.1)) ((tget l x.1).args.length) ((C55 x.1))])), (true, .val undef), (true, .val undef), (true, .val undef), (true, .val (.pointer (some ⟨g22, 1, none⟩))), (true, .val undef)] [(0, .pointer (some ⟨g, 0, none⟩)), (1, .agg #[.int .i64 f, .slice a l.length c]), (3, .pointer (some ⟨g2, 0, none⟩)), (4, .int .i64 0), (5, .pointer (some ⟨g22, 0, none⟩)), (6, .int .i64 (((x.1 : Nat) : Int))), (21, .bool (((decide ((f : Int) < (0 : Int))) && (decide ((0 : Int) ≤ (((st.V (vnum f) : Int) - 1) : Int)))))), (38, .bool ((decide ((((x.1 : Nat) : Int) : Int) < (((l.length : Nat) : Int) : Int)))))] [8, 9, 10, 12] [some (true, .int .i64 (((((tget l x.1).put (T.putL (l.take x.1) st).1).2 : Nat) : Int))), none, none, none] (fun vals wz => match vals with | [] => (RX wz g Z9 U9 ((T.putL (l.take x.1) st).1.N) ((T.putL (l.take x.1) st).1.V)) ∧ (Blk wz g22 89 #[.int .i64 f, .slice x.2.1 x.1 x.2.2]) ∧ RowD eltN (fun _ => False) wz 3 x.2.1 x.2.2 x.1 ((T.putL (l.take x.1) st).2) | [_] => (RJ wz w.heap.size Z κ d g (((tget l x.1).put (T.putL (l.take x.1) st).1).1.N) (((tget l x.1).put (T.putL (l.take x.1) st).1).1.V) (fun q => q = g22 ∨ q = g2 ∨ obk x.2.1 x.1 x.2.2 = some q)) ∧ (Blk wz g22 89 #[.int .i64 f, .slice x.2.1 x.1 x.2.2]) ∧ RowD eltN (fun _ => False) wz 3 x.2.1 x.2.2 x.1 ((T.putL (l.take x.1) st).2) | [_, z1] => ((RJ wz w.heap.size Z κ d g (((tget l x.1).put (T.putL (l.take x.1) st).1).1.N) (((tget l x.1).put (T.putL (l.take x.1) st).1).1.V) (fun q => q = g22 ∨ q = g2 ∨ obk x.2.1 x.1 x.2.2 = some q)) ∧ (Blk wz g22 89 #[.int .i64 f, .slice x.2.1 x.1 x.2.2]) ∧ RowD eltN (fun _ => False) wz 3 x.2.1 x.2.2 x.1 ((T.putL (l.take x.1) st).2)) ∧ ∃ g1, z1 = .slice (some ⟨g1, 0, none⟩) 1 1 ∧ Blk wz g1 3 #[.int .i64 ((((tget l x.1).put (T.putL (l.take x.1) st).1).2 : Nat) : Int)] | [_, _, z2] => ∃ ra rc, z2 = .slice ra (x.1 + 1) rc ∧ (RJ wz w.heap.size Z κ d g (((tget l x.1).put (T.putL (l.take x.1) st).1).1.N) (((tget l x.1).put (T.putL (l.take x.1) st).1).1.V) (fun q => q = g22 ∨ q = g2 ∨ obk ra ((x.1 + 1)) rc = some q)) ∧ (Blk wz g22 89 #[.int .i64 f, .slice x.2.1 x.1 x.2.2]) ∧ (RowD eltN (fun _ => False) wz 3 ra rc ((x.1 + 1)) (((T.putL (l.take x.1) st).2 ++ [((tget l x.1).put (T.putL (l.take x.1) st).1).2]))) ∧ (∀ q, obk ra (x.1 + 1) rc = some q → w.heap.size ≤ q ∧ q ≠ g2 ∧ q ≠ g22) | [_, _, _, _] => ∃ ra rc, (RJ wz w.heap.size Z κ d g (((tget l x.1).put (T.putL (l.take x.1) st).1).1.N) (((tget l x.1).put (T.putL (l.take x.1) st).1).1.V) (fun q => q = g22 ∨ q = g2 ∨ obk ra ((x.1 + 1)) rc = some q)) ∧ (Blk wz g22 89 #[.int .i64 f, .slice ra (x.1 + 1) rc]) ∧ (RowD eltN (fun _ => False) wz 3 ra rc ((x.1 + 1)) (((T.putL (l.take x.1) st).2 ++ [((tget l x.1).put (T.putL (l.take x.1) st).1).2]))) ∧ (∀ q, obk ra (x.1 + 1) rc = some q → w.heap.size ≤ q ∧ q ≠ g2 ∧ q ≠ g22) | _ => False) hG10 (by decide) ⟨rfl, rfl, rfl, rfl, rfl, rfl, rfl, rfl, trivial⟩ (by kernel_rfl) (by kernel_rfl) (by kernel_rfl) (by kernel_rfl) (⟨hN9, hB48, ho50⟩) ?_ ?_
     ·refine ⟨.inl ⟨rfl, true, .none rfl, (fun gg b h => by cases h), fun h w => optUndef h, fun zβ za zw zc => ?_⟩, ?_⟩
      ·exact fld_89_1 rfl (zc.kn.ev rfl) ⟨_, rfl, Below.refl _ _, optDef zβ rfl⟩
      refine ⟨.inl ⟨rfl, true, .none rfl, (fun gg b h => by cases h), fun h w => optUndef h, fun zβ za zw zc => ?_⟩, ?_⟩
      ·obtain ⟨vals, hle, hgv, _⟩ := zc.early 2 10 rfl (by kernel_rfl)
       have hb5 : Blk zw g22 89 #[.int .i64 f, .slice x.2.1 x.1 x.2.2] := by
        match vals, hle, hgv with
        | [], _, hg => exact hg.2.1
        | [_], _, hg => exact hg.2.1
        | [_, _], _, hg => exact hg.1.2.1
       exact ld_31 rfl ((evt za 41).trans (optSVal (zc.dep 0 41 (by kernel_rfl) (by decide)) rfl rfl)) ((hb5.cell 1).trans rfl) ⟨_, rfl, Below.refl _ _, optDef zβ rfl⟩
      refine ⟨.inl ⟨rfl, true, .none rfl, (fun gg b h => by cases h), fun h w => optUndef h, fun zβ za zw zc => ?_⟩, ?_⟩
      ·exact wp_move rfl (zc.kn.ev rfl) ⟨_, rfl, Below.refl _ _, optDef zβ rfl⟩
      refine ⟨.inl ⟨rfl, true, .none rfl, (fun gg b h => by cases h), fun h w => optUndef h, fun zβ za zw zc => ?_⟩, ?_⟩
      ·exact fld_24_1 rfl (zc.kn.ev rfl) ⟨_, rfl, Below.refl _ _, optDef zβ rfl⟩
      refine ⟨.inl ⟨rfl, true, .none rfl, (fun gg b h => by cases h), fun h w => optUndef h, fun zβ za zw zc => ?_⟩, ?_⟩
      ·exact ld_22 rfl ((evt za 44).trans (optSVal (zc.dep 3 44 (by kernel_rfl) (by decide)) rfl rfl)) (chg_cell zc.chg (by first | (intro h9; rcases h9 with h9 | h9 | h9; exact hX9 _ (.inr (.inl rfl)) h9; omega; exact (hownw _ h9).2.1 rfl)) ((hB47.cell 1).trans rfl)) ⟨_, rfl, Below.refl _ _, optDef zβ rfl⟩
      refine ⟨.inl ⟨rfl, true, .none rfl, (fun gg b h => by cases h), fun h w => optUndef h, fun zβ za zw zc => ?_⟩, ?_⟩
      ·exact wp_move rfl (zc.kn.ev rfl) ⟨_, rfl, Below.refl _ _, optDef zβ rfl⟩
      refine ⟨.inl ⟨rfl, true, .none rfl, (fun gg b h => by cases h), fun h w => optUndef h, fun zβ za zw zc => ?_⟩, ?_⟩
      ·exact ix_22 (k := x.1) rfl ((evt za 45).trans (optSVal (zc.dep 4 45 (by kernel_rfl) (by decide)) rfl rfl)) (ha56 x.1 (by first | omega | (simp; omega))) ((evt za 46).trans (optSVal (zc.dep 5 46 (by kernel_rfl) (by decide)) rfl rfl)) (by first | omega | (simp; omega)) ⟨_, rfl, Below.refl _ _, optDef zβ rfl⟩
      refine ⟨.inl ⟨rfl, true, .none rfl, (fun gg b h => by cases h), fun h w => optUndef h, fun zβ za zw zc => ?_⟩, ?_⟩
      ·exact ld_24 rfl ((evt za 47).trans (optSVal (zc.dep 6 47 (by kernel_rfl) (by decide)) rfl rfl)) (chg_old hb46 zc.chg (fun b hb => by intro h9; rcases h9 with h9 | h9 | h9; (have z := hZ90 _ h9; omega); (have z := hb0.size; omega); exact hown9 _ h9 hb) (hc57 x.1 (by first | omega | (simp; omega))).1) (chg_old hb46 zc.chg (fun b hb => by intro h9; rcases h9 with h9 | h9 | h9; (have z := hZ90 _ h9; omega); (have z := hb0.size; omega); exact hown9 _ h9 hb) (hc57 x.1 (by first | omega | (simp; omega))).2.1) ⟨_, rfl, Below.refl _ _, optDef zβ rfl⟩
      refine ⟨.inr ⟨0, rfl, by kernel_rfl, true, .none rfl, (fun gg b h => by cases h), (fun h => (nomatch h)), fun zβ za zw zvals zc => ?_⟩, ?_⟩
      ·obtain rfl := vlen0 zc.len
       have zn := zc.now
       obtain ⟨k1, k2, k3⟩ := zn
       have hbz := chg_below hb9 zc.chg (fun q hq h9 => by rcases h9 with h9 | h9 | h9; (have z := hZ90 q h9; omega); (have z := hb0.size; omega); exact hown9 q h9 hq)
       exact wp_call (by kernel_rfl) rfl (hv2 ((evt za 43).trans (optSVal (zc.dep 2 43 (by kernel_rfl) (by decide)) rfl rfl)) ((evt za 48).trans (optSVal (zc.dep 7 48 (by kernel_rfl) (by decide)) rfl rfl))) (ih _ hmem9 (T.putL (l.take x.1) st).1 U9 Z9 _ _ hpo.ok k1 hR9 (fun i hi => hκ i (by omega)) (by omega) (hlowL _ hmem9) hbz hZ90 (hc57 x.1 (by first | omega | (simp; omega))).2.2) (fun v w' h => by obtain ⟨m1, ⟨U8, Z8, m2, m3, m4, m5⟩, m6⟩ := h; exact ⟨v, rfl, m6.mono (fun q h9 => .inl h9), ⟨⟨U8, Z8, m2, m3, fun q h9 => by rcases m4 q h9 with z | z; exact hZ9 q z; exact .inr (by have z2 := zc.chg.size; omega), fun q h9 h8 => by rcases m4 q h8 with z | z; exact hX9 q h9 z; (have z2 := zc.chg.size; rcases h9 with h9 | h9 | h9; omega; omega; (have z3 := hrlt q h9; omega))⟩, chg_blk k2 m6 (fun q => hX9 _ (.inl rfl) q), k3.chg m6 (fun q h9 h8 => hX9 q (.inr (.inr h9)) h8) (fun q h9 => h9.elim)⟩, cvIs m1⟩)
      refine ⟨.inr ⟨1, rfl, by kernel_rfl, true, .none rfl, (fun gg b h => by cases h), (fun h => (nomatch h)), fun zβ za zw zvals zc => ?_⟩, ?_⟩
      ·obtain ⟨z0, rfl⟩ := vlen1 zc.len
       have zn := zc.now
       exact row_31_1 rfl ((evt za 49).trans (zc.link 0 8 49 _ _ rfl (by kernel_rfl) rfl rfl)) ⟨_, rfl, .ofBelow (balloc _ _), ⟨⟨zn.1.below (balloc _ _), zn.2.1.below (balloc _ _), zn.2.2.below (balloc _ _)⟩, _, rfl, Blk.new' rfl⟩, cvNo⟩
      refine ⟨.inr ⟨2, rfl, by kernel_rfl, true, .none rfl, (fun gg b h => by cases h), (fun h => (nomatch h)), fun zβ za zw zvals zc => ?_⟩, ?_⟩
      ·obtain ⟨z0, z1, rfl⟩ := vlen2 zc.len
       have zn := zc.now
       obtain ⟨⟨k1, k2, k3⟩, g1, e, k4⟩ := zn
       have e1 : z1 = za.tmps.getD 50 undef := Option.some.inj (zc.val 1 9 50 rfl (by kernel_rfl))
       exact wp_appD (E := eltN) (y := ((tget l x.1).put (T.putL (l.take x.1) st).1).2) (S2 := fun _ => False) (size := 1) (bytes := 8) (z := .int .i64 0) rfl Try.underlying31 (by kernel_rfl) rfl (by decide) rfl ((evt za 42).trans (optSVal (zc.dep 1 42 (by kernel_rfl) (by decide)) rfl rfl)) ((evt za 50).trans (e1.symm.trans e)) k3 k4 rfl (fun b q => q.elim) (by omega) (by omega) (fun ra rc w' h1 h2 h3 => ⟨_, rfl, h2.mono (fun b q => .inr (.inr q)), ⟨ra, rc, rfl, ((k1.avoid (X2 := fun q => (q = g22 ∨ q = g2 ∨ obk x.2.1 x.1 x.2.2 = some q) ∨ zw.heap.size ≤ q) (fun q h9 => h9)).chg h2 (fun q h9 => .inl (.inr (.inr h9)))).avoid (fun q h9 => .inl (by rcases h9 with h9 | h9 | h9; exact .inl (.inl h9); exact .inl (.inr (.inl h9)); exact (h3 q h9).imp (fun z => .inr (.inr z)) id)), chg_blk k2 h2 (fun h9 => (hownw _ h9).2.2 rfl), h1.mono (fun b q _ => by rcases q.1 with q | q <;> exact q) (fun b q => q.elim), fun q h9 => by rcases h3 q h9 with z | z; exact hownw q z; (have z2 := zc.chg.size; exact ⟨by omega, by omega, by omega⟩)⟩, cvNo⟩)
      refine ⟨.inl ⟨rfl, true, .none rfl, (fun gg b h => by cases h), fun h w => optUndef h, fun zβ za zw zc => ?_⟩, ?_⟩
      ·exact fld_89_1 rfl (zc.kn.ev rfl) ⟨_, rfl, Below.refl _ _, optDef zβ rfl⟩
      refine ⟨.inr ⟨3, rfl, by kernel_rfl, true, .none rfl, (fun gg b h => by cases h), (fun h => (nomatch h)), fun zβ za zw zvals zc => ?_⟩, ?_⟩
      ·obtain ⟨z0, z1, z2, rfl⟩ := vlen3 zc.len
       have zn := zc.now
       obtain ⟨ra, rc, e, k1, k2, k3, k9⟩ := zn
       have e2 : z2 = za.tmps.getD 51 undef := Option.some.inj (zc.val 2 10 51 rfl (by kernel_rfl))
       exact st_31 rfl ((evt za 52).trans (optSVal (zc.dep 11 52 (by kernel_rfl) (by decide)) rfl rfl)) ((evt za 51).trans (e2.symm.trans e)) k2 (by first | decide | simp) (fun v => ⟨v, rfl, .ofUpd (Upd.at_ _ _ _ _) (.inr (.inl rfl)), ⟨ra, rc, k1.upd (Upd.at_ _ _ _ _) (.inl rfl), k2.set_ 1 _, k3.chg (Z := fun q => q = g22) (.ofUpd (Upd.at_ _ _ _ _) rfl) (fun q h9 e9 => (k9 q h9).2.2 e9) (fun q h9 => h9.elim), k9⟩, cvNo⟩)
      exact trivial
     ·intro za w58 zvals zh zl hG59 hc60 zu zw zk
      obtain ⟨z0, z1, z2, z3, rfl⟩ := vlen4 zl
      obtain ⟨ra9, rc9, kn9, kb9, kr9, hown99⟩ := hG59
      have hC61 : Chg Z w w58 := chg_fresh hCx hc60 (fun q h9 => by rcases h9 with h9 | h9 | h9; exact hZ9 q h9; (right; omega); exact .inr (hownw q h9).1)
      have hb62 := chg_below hb9 hc60 (fun q hq h9 => by rcases h9 with h9 | h9 | h9; (have z := hZ90 q h9; omega); (have z := hb0.size; omega); exact hown9 q h9 hq)
      have hB63 := chg_blk hB47 hc60 (fun h9 => by rcases h9 with h9 | h9 | h9; exact hX9 _ (.inr (.inl rfl)) h9; omega; exact (hownw _ h9).2.1 rfl)
      clear zu zw zk
      refine WE.go zh ?_
      refine WE.blockNormal (WE.next (WC.region (WL.mv rfl rfl rfl rfl rfl ?_)))
      refine WL.val (.int .i64 ((((x.1 + 1) : Nat) : Int))) rfl rfl rfl (fun za zC zh zk => addb_3 rfl (zh.ev rfl) (zh.ev rfl) (wrap_eq (by omega) (by omega) (by omega)) zk) ?_
      refine WL.asg rfl rfl rfl rfl rfl (WL.nil ?_)
      refine WE.round ((x.1 + 1, ra9, rc9)) ⟨rfl, rfl, rfl, rfl, rfl, rfl, rfl, trivial⟩ ?_ ?_
      ·exact ⟨by (try dsimp only); omega, hC61, hown99, hb62, hB63, kb9, (by dsimp only; rw [putL_take (by omega)]; exact kn9), (by dsimp only; rw [putL_take (by omega)]; exact kr9)⟩
      ·(try dsimp only); omega
    ·have h51 : ¬ ((((x.1 : Nat) : Int) : Int) < (((l.length : Nat) : Int) : Int)) := by simpa using h51
     refine WC.exit (WE.thenExit (WE.thenExit (WE.blockIs rfl (WE.next (WC.seq ?_)))))
     have hx1 : x.1 = l.length := by omega
     have hput : l.take x.1 = l := by rw [hx1, List.take_length]
     obtain ⟨U7, Z7, hR7, ⟨S7, la7, lc7, ua7, uc7, vb7, vc7, hP7, hU7, hRZ7, hZl7⟩, hZ7, hX7⟩ := id ho49
     have hrlt := ho50.lt
     have hwW : w.heap.size ≤ w45.heap.size := (hCx).size
     have hZ70 : ∀ q, Z7 q → w0.heap.size ≤ q := fun q h9 => by rcases hZ7 q h9 with z | z; exact hZ0 q z; (have z2 := hb0.size; omega)
     have hb9 : Below w0.heap.size w0 w45 := hb46
     have hGW9 : ∀ (vals : List Value) (wa wb : World), Below wa.heap.size wa wb → (fun vals wz => match vals with | [] => PR wz g S7 (la7, ((T.putL (l.take x.1) st).1.N).length, lc7) (ua7, U7.length, uc7) la7 lc7 ((T.putL (l.take x.1) st).1.N) ua7 uc7 U7 vb7 vc7 ((T.putL (l.take x.1) st).1.V) ∧ (∀ b, (fun b => obk x.2.1 x.1 x.2.2 = some b) b → b < wz.heap.size) ∧ InRow eltN (fun b => obk x.2.1 x.1 x.2.2 = some b) wz ((T.putL (l.take x.1) st).2) x.2.1 | [z0] => (PR wz g S7 (la7, ((T.putL (l.take x.1) st).1.N).length, lc7) (ua7, U7.length, uc7) la7 lc7 ((T.putL (l.take x.1) st).1.N) ua7 uc7 U7 vb7 vc7 ((T.putL (l.take x.1) st).1.V) ∧ (∀ b, (fun b => obk x.2.1 x.1 x.2.2 = some b) b → b < wz.heap.size) ∧ InRow eltN (fun b => obk x.2.1 x.1 x.2.2 = some b) wz ((T.putL (l.take x.1) st).2) x.2.1) ∧ ∃ g1, z0 = .slice (some ⟨g1, 0, none⟩) 1 1 ∧ Blk wz g1 89 (List.toArray [.int .i64 f, .slice x.2.1 x.1 x.2.2]) | [_, z1] => ∃ pa3 pc3, z1 = .slice pa3 ((T.putL (l.take x.1) st).1.N ++ [(Pt.mk f (T.putL (l.take x.1) st).2)]).length pc3 ∧ (∃ S3 : Nat → Prop, PR wz g S3 (la7, ((T.putL (l.take x.1) st).1.N).length, lc7) (ua7, U7.length, uc7) pa3 pc3 ((T.putL (l.take x.1) st).1.N ++ [(Pt.mk f (T.putL (l.take x.1) st).2)]) ua7 uc7 U7 vb7 vc7 ((T.putL (l.take x.1) st).1.V) ∧ ∀ b, S3 b → S7 b ∨ (fun b => obk x.2.1 x.1 x.2.2 = some b) b) ∧ ∀ b, obk pa3 ((T.putL (l.take x.1) st).1.N ++ [(Pt.mk f (T.putL (l.take x.1) st).2)]).length pc3 = some b → Z7 b ∨ w45.heap.size ≤ b | [_, _, _] => ∃ pa3 pc3, (∃ S3 : Nat → Prop, PR wz g S3 (pa3, ((T.putL (l.take x.1) st).1.N ++ [(Pt.mk f (T.putL (l.take x.1) st).2)]).length, pc3) (ua7, U7.length, uc7) pa3 pc3 ((T.putL (l.take x.1) st).1.N ++ [(Pt.mk f (T.putL (l.take x.1) st).2)]) ua7 uc7 U7 vb7 vc7 ((T.putL (l.take x.1) st).1.V) ∧ ∀ b, S3 b → S7 b ∨ (fun b => obk x.2.1 x.1 x.2.2 = some b) b) ∧ ∀ b, obk pa3 ((T.putL (l.take x.1) st).1.N ++ [(Pt.mk f (T.putL (l.take x.1) st).2)]).length pc3 = some b → Z7 b ∨ w45.heap.size ≤ b | _ => False) vals wa → (fun vals wz => match vals with | [] => PR wz g S7 (la7, ((T.putL (l.take x.1) st).1.N).length, lc7) (ua7, U7.length, uc7) la7 lc7 ((T.putL (l.take x.1) st).1.N) ua7 uc7 U7 vb7 vc7 ((T.putL (l.take x.1) st).1.V) ∧ (∀ b, (fun b => obk x.2.1 x.1 x.2.2 = some b) b → b < wz.heap.size) ∧ InRow eltN (fun b => obk x.2.1 x.1 x.2.2 = some b) wz ((T.putL (l.take x.1) st).2) x.2.1 | [z0] => (PR wz g S7 (la7, ((T.putL (l.take x.1) st).1.N).length, lc7) (ua7, U7.length, uc7) la7 lc7 ((T.putL (l.take x.1) st).1.N) ua7 uc7 U7 vb7 vc7 ((T.putL (l.take x.1) st).1.V) ∧ (∀ b, (fun b => obk x.2.1 x.1 x.2.2 = some b) b → b < wz.heap.size) ∧ InRow eltN (fun b => obk x.2.1 x.1 x.2.2 = some b) wz ((T.putL (l.take x.1) st).2) x.2.1) ∧ ∃ g1, z0 = .slice (some ⟨g1, 0, none⟩) 1 1 ∧ Blk wz g1 89 (List.toArray [.int .i64 f, .slice x.2.1 x.1 x.2.2]) | [_, z1] => ∃ pa3 pc3, z1 = .slice pa3 ((T.putL (l.take x.1) st).1.N ++ [(Pt.mk f (T.putL (l.take x.1) st).2)]).length pc3 ∧ (∃ S3 : Nat → Prop, PR wz g S3 (la7, ((T.putL (l.take x.1) st).1.N).length, lc7) (ua7, U7.length, uc7) pa3 pc3 ((T.putL (l.take x.1) st).1.N ++ [(Pt.mk f (T.putL (l.take x.1) st).2)]) ua7 uc7 U7 vb7 vc7 ((T.putL (l.take x.1) st).1.V) ∧ ∀ b, S3 b → S7 b ∨ (fun b => obk x.2.1 x.1 x.2.2 = some b) b) ∧ ∀ b, obk pa3 ((T.putL (l.take x.1) st).1.N ++ [(Pt.mk f (T.putL (l.take x.1) st).2)]).length pc3 = some b → Z7 b ∨ w45.heap.size ≤ b | [_, _, _] => ∃ pa3 pc3, (∃ S3 : Nat → Prop, PR wz g S3 (pa3, ((T.putL (l.take x.1) st).1.N ++ [(Pt.mk f (T.putL (l.take x.1) st).2)]).length, pc3) (ua7, U7.length, uc7) pa3 pc3 ((T.putL (l.take x.1) st).1.N ++ [(Pt.mk f (T.putL (l.take x.1) st).2)]) ua7 uc7 U7 vb7 vc7 ((T.putL (l.take x.1) st).1.V) ∧ ∀ b, S3 b → S7 b ∨ (fun b => obk x.2.1 x.1 x.2.2 = some b) b) ∧ ∀ b, obk pa3 ((T.putL (l.take x.1) st).1.N ++ [(Pt.mk f (T.putL (l.take x.1) st).2)]).length pc3 = some b → Z7 b ∨ w45.heap.size ≤ b | _ => False) vals wb := by
      intro vals wa wb hb h
      match vals, h with
      | [], h => exact ⟨h.1.below hb, fun b q => Nat.lt_of_lt_of_le (h.2.1 b q) hb.size, h.2.2.below hb⟩
      | [z0], h =>
       obtain ⟨⟨k1, k0, k9⟩, g1, e, k2⟩ := h
       exact ⟨⟨k1.below hb, fun b q => Nat.lt_of_lt_of_le (k0 b q) hb.size, k9.below hb⟩, g1, e, k2.below hb⟩
      | [_, z1], h =>
       obtain ⟨ra, rc, e, ⟨S3, k1, k3⟩, k2⟩ := h
       exact ⟨ra, rc, e, ⟨S3, k1.below hb, k3⟩, k2⟩
      | [_, _, _], h =>
       obtain ⟨ra, rc, ⟨S3, k1, k3⟩, k2⟩ := h
       exact ⟨ra, rc, ⟨S3, k1.below hb, k3⟩, k2⟩
     have hS2g : ∀ b, (fun b => obk x.2.1 x.1 x.2.2 = some b) b → b ≠ g ∧ b ≠ vb7 ∧ obk ua7 U7.length uc7 ≠ some b := fun b q => ⟨fun e => hX7 b (.inr (.inr q)) (e ▸ hRZ7 g (.inl rfl)), fun e => hX7 b (.inr (.inr q)) (e ▸ hRZ7 vb7 (.inr (.inl rfl))), fun e => hX7 b (.inr (.inr q)) (hRZ7 b (.inr (.inr (.inr (.inl e)))))⟩
     have hll : ∀ b, obk la7 ((T.putL (l.take x.1) st).1.N).length lc7 = some b → Z7 b := fun b q => hRZ7 b (.inr (.inr (.inl q)))
     have hg7 : Z7 g := hRZ7 g (.inl rfl)
     refine WC.seqV (S := ((fun b => b = g ∨ obk la7 ((T.putL (l.take x.1) st).1.N).length lc7 = some b))) [(true, .val (.pointer (some ⟨g, 0, none⟩))), (true, .val (.pointer (some ⟨g, 0, none⟩))), (true, .val (.pointer (some ⟨g, 0, none⟩))), (true, .val (.pointer (some ⟨g, 0, none⟩))), (true, .val (.slice la7 (((T.putL (l.take x.1) st).1.N).length) lc7)), (true, .val (.agg #[.int .i64 f, .slice x.2.1 x.1 x.2.2])), (true, .val undef), (true, .val undef), (true, .val (.pointer (some ⟨g, 0, none⟩))), (true, .val (.pointer (some ⟨g, 0, none⟩))), (true, .val undef)] [(0, .pointer (some ⟨g, 0, none⟩)), (1, .agg #[.int .i64 f, .slice a l.length c]), (3, .pointer (some ⟨g2, 0, none⟩)), (4, .int .i64 0), (5, .pointer (some ⟨g22, 0, none⟩)), (6, .int .i64 (((x.1 : Nat) : Int))), (21, .bool (((decide ((f : Int) < (0 : Int))) && (decide ((0 : Int) ≤ (((st.V (vnum f) : Int) - 1) : Int)))))), (38, .bool ((decide ((((x.1 : Nat) : Int) : Int) < (((l.length : Nat) : Int) : Int)))))] [6, 7, 10] [none, none, none] (fun vals wz => match vals with | [] => PR wz g S7 (la7, ((T.putL (l.take x.1) st).1.N).length, lc7) (ua7, U7.length, uc7) la7 lc7 ((T.putL (l.take x.1) st).1.N) ua7 uc7 U7 vb7 vc7 ((T.putL (l.take x.1) st).1.V) ∧ (∀ b, (fun b => obk x.2.1 x.1 x.2.2 = some b) b → b < wz.heap.size) ∧ InRow eltN (fun b => obk x.2.1 x.1 x.2.2 = some b) wz ((T.putL (l.take x.1) st).2) x.2.1 | [z0] => (PR wz g S7 (la7, ((T.putL (l.take x.1) st).1.N).length, lc7) (ua7, U7.length, uc7) la7 lc7 ((T.putL (l.take x.1) st).1.N) ua7 uc7 U7 vb7 vc7 ((T.putL (l.take x.1) st).1.V) ∧ (∀ b, (fun b => obk x.2.1 x.1 x.2.2 = some b) b → b < wz.heap.size) ∧ InRow eltN (fun b => obk x.2.1 x.1 x.2.2 = some b) wz ((T.putL (l.take x.1) st).2) x.2.1) ∧ ∃ g1, z0 = .slice (some ⟨g1, 0, none⟩) 1 1 ∧ Blk wz g1 89 (List.toArray [.int .i64 f, .slice x.2.1 x.1 x.2.2]) | [_, z1] => ∃ pa3 pc3, z1 = .slice pa3 ((T.putL (l.take x.1) st).1.N ++ [(Pt.mk f (T.putL (l.take x.1) st).2)]).length pc3 ∧ (∃ S3 : Nat → Prop, PR wz g S3 (la7, ((T.putL (l.take x.1) st).1.N).length, lc7) (ua7, U7.length, uc7) pa3 pc3 ((T.putL (l.take x.1) st).1.N ++ [(Pt.mk f (T.putL (l.take x.1) st).2)]) ua7 uc7 U7 vb7 vc7 ((T.putL (l.take x.1) st).1.V) ∧ ∀ b, S3 b → S7 b ∨ (fun b => obk x.2.1 x.1 x.2.2 = some b) b) ∧ ∀ b, obk pa3 ((T.putL (l.take x.1) st).1.N ++ [(Pt.mk f (T.putL (l.take x.1) st).2)]).length pc3 = some b → Z7 b ∨ w45.heap.size ≤ b | [_, _, _] => ∃ pa3 pc3, (∃ S3 : Nat → Prop, PR wz g S3 (pa3, ((T.putL (l.take x.1) st).1.N ++ [(Pt.mk f (T.putL (l.take x.1) st).2)]).length, pc3) (ua7, U7.length, uc7) pa3 pc3 ((T.putL (l.take x.1) st).1.N ++ [(Pt.mk f (T.putL (l.take x.1) st).2)]) ua7 uc7 U7 vb7 vc7 ((T.putL (l.take x.1) st).1.V) ∧ ∀ b, S3 b → S7 b ∨ (fun b => obk x.2.1 x.1 x.2.2 = some b) b) ∧ ∀ b, obk pa3 ((T.putL (l.take x.1) st).1.N ++ [(Pt.mk f (T.putL (l.take x.1) st).2)]).length pc3 = some b → Z7 b ∨ w45.heap.size ≤ b | _ => False) hGW9 (by decide) ⟨rfl, rfl, rfl, rfl, rfl, rfl, rfl, rfl, trivial⟩ (by kernel_rfl) (by kernel_rfl) (by kernel_rfl) (by kernel_rfl) (⟨hP7, hrlt, ho50.inRowOwn⟩) ?_ ?_
     ·refine ⟨.inl ⟨rfl, true, .none rfl, (fun gg b h => by cases h), fun h w => optUndef h, fun zβ za zw zc => ?_⟩, ?_⟩
      ·exact wp_move rfl (zc.kn.ev rfl) ⟨_, rfl, Below.refl _ _, optDef zβ rfl⟩
      refine ⟨.inl ⟨rfl, true, .none rfl, (fun gg b h => by cases h), fun h w => optUndef h, fun zβ za zw zc => ?_⟩, ?_⟩
      ·exact wp_move rfl (zc.kn.ev rfl) ⟨_, rfl, Below.refl _ _, optDef zβ rfl⟩
      refine ⟨.inl ⟨rfl, true, .none rfl, (fun gg b h => by cases h), fun h w => optUndef h, fun zβ za zw zc => ?_⟩, ?_⟩
      ·exact nilCheck_ rfl ((evt za 54).trans (optSVal (zc.dep 1 54 (by kernel_rfl) (by decide)) rfl rfl)) ⟨_, rfl, Below.refl _ _, optDef zβ rfl⟩
      refine ⟨.inl ⟨rfl, true, .none rfl, (fun gg b h => by cases h), fun h w => optUndef h, fun zβ za zw zc => ?_⟩, ?_⟩
      ·exact fld_79_0 rfl ((evt za 55).trans (optSVal (zc.dep 2 55 (by kernel_rfl) (by decide)) rfl rfl)) ⟨_, rfl, Below.refl _ _, optDef zβ rfl⟩
      refine ⟨.inl ⟨rfl, true, .none rfl, (fun gg b h => by cases h), fun h w => optUndef h, fun zβ za zw zc => ?_⟩, ?_⟩
      ·obtain ⟨vals, hle, hgv, _⟩ := zc.early 2 10 rfl (by kernel_rfl)
       have hb5 : zw.cell? ⟨g, 0, none⟩ = some (.slice la7 ((T.putL (l.take x.1) st).1.N).length lc7) := by
        match vals, hle, hgv with
        | [], _, hg => exact hg.1.c0
        | [_], _, hg => exact hg.1.1.c0
        | [_, _], _, hg => obtain ⟨_, _, _, ⟨_, k, _⟩, _⟩ := hg; exact k.c0
       exact ld_77 rfl ((evt za 56).trans (optSVal (zc.dep 3 56 (by kernel_rfl) (by decide)) rfl rfl)) hb5 ⟨_, rfl, Below.refl _ _, optDef zβ rfl⟩
      refine ⟨.inl ⟨rfl, true, .none rfl, (fun gg b h => by cases h), fun h w => optUndef h, fun zβ za zw zc => ?_⟩, ?_⟩
      ·exact ld_89 rfl (zc.kn.ev rfl) (chg_cell zc.chg (by first | (intro h9; rcases h9 with h9 | h9; exact hX7 _ (.inl rfl) (h9 ▸ hg7); exact hX7 _ (.inl rfl) (hll _ h9)) | (intro h9; rcases h9 with h9 | h9; exact hX7 _ (.inr (.inl rfl)) (h9 ▸ hg7); exact hX7 _ (.inr (.inl rfl)) (hll _ h9))) ((hB48.cell 0).trans rfl)) (chg_cell zc.chg (by first | (intro h9; rcases h9 with h9 | h9; exact hX7 _ (.inl rfl) (h9 ▸ hg7); exact hX7 _ (.inl rfl) (hll _ h9)) | (intro h9; rcases h9 with h9 | h9; exact hX7 _ (.inr (.inl rfl)) (h9 ▸ hg7); exact hX7 _ (.inr (.inl rfl)) (hll _ h9))) ((hB48.cell 1).trans rfl)) ⟨_, rfl, Below.refl _ _, optDef zβ rfl⟩
      refine ⟨.inr ⟨0, rfl, by kernel_rfl, true, .none rfl, (fun gg b h => by cases h), (fun h => (nomatch h)), fun zβ za zw zvals zc => ?_⟩, ?_⟩
      ·obtain rfl := vlen0 zc.len
       have zn := zc.now
       exact row_77_1 rfl ((evt za 58).trans (optSVal (zc.dep 5 58 (by kernel_rfl) (by decide)) rfl rfl)) ⟨_, rfl, .ofBelow (balloc _ _), ⟨⟨zn.1.below (balloc _ _), fun b q => Nat.lt_of_lt_of_le (zn.2.1 b q) (balloc _ _).size, zn.2.2.below (balloc _ _)⟩, _, rfl, Blk.new' rfl⟩, cvNo⟩
      refine ⟨.inr ⟨1, rfl, by kernel_rfl, true, .none rfl, (fun gg b h => by cases h), (fun h => (nomatch h)), fun zβ za zw zvals zc => ?_⟩, ?_⟩
      ·obtain ⟨z0, rfl⟩ := vlen1 zc.len
       have zn := zc.now
       obtain ⟨⟨k1, k0, k9⟩, g1, e, k2⟩ := zn
       have e0 : z0 = za.tmps.getD 59 undef := Option.some.inj (zc.val 0 6 59 rfl (by kernel_rfl))
       exact wp_appD (E := eltP) (y := (Pt.mk f (T.putL (l.take x.1) st).2)) (S2 := (fun b => obk x.2.1 x.1 x.2.2 = some b)) (size := 2) (bytes := 32) (z := .agg #[.int .i64 0, .slice none 0 0]) rfl Try.underlying77 (by kernel_rfl) rfl (by decide) rfl ((evt za 57).trans (optSVal (zc.dep 4 57 (by kernel_rfl) (by decide)) rfl rfl)) ((evt za 59).trans (e0.symm.trans e)) k1.l k2 ⟨x.2.1, x.2.2, by rw [hlk], k9⟩ (fun b q q2 => hX7 b (.inr (.inr q)) (hll b q2)) (by omega) (by omega) (fun ra3 rc3 w' h1 h2 h3 => ⟨_, rfl, h2.mono (fun b q => .inr q), ⟨ra3, rc3, by rw [List.length_append]; rfl, ⟨_, k1.growL (fun b q => ⟨(hS2g b q).1, (hS2g b q).2.1, k0 b q, (hS2g b q).2.2⟩) h1 h2 h3, fun b q => q.1⟩, fun b q => by rw [List.length_append] at q; exact (h3 b q).imp (hll b) (fun z => Nat.le_trans zc.chg.size z)⟩, cvNo⟩)
      refine ⟨.inl ⟨rfl, true, .none rfl, (fun gg b h => by cases h), fun h w => optUndef h, fun zβ za zw zc => ?_⟩, ?_⟩
      ·exact nilCheck_ rfl ((evt za 53).trans (optSVal (zc.dep 0 53 (by kernel_rfl) (by decide)) rfl rfl)) ⟨_, rfl, Below.refl _ _, optDef zβ rfl⟩
      refine ⟨.inl ⟨rfl, true, .none rfl, (fun gg b h => by cases h), fun h w => optUndef h, fun zβ za zw zc => ?_⟩, ?_⟩
      ·exact fld_79_0 rfl ((evt za 61).trans (optSVal (zc.dep 8 61 (by kernel_rfl) (by decide)) rfl rfl)) ⟨_, rfl, Below.refl _ _, optDef zβ rfl⟩
      refine ⟨.inr ⟨2, rfl, by kernel_rfl, true, .none rfl, (fun gg b h => by cases h), (fun h => (nomatch h)), fun zβ za zw zvals zc => ?_⟩, ?_⟩
      ·obtain ⟨z0, z1, rfl⟩ := vlen2 zc.len
       have zn := zc.now
       obtain ⟨ra3, rc3, e, ⟨S3, k1, k3⟩, k2⟩ := zn
       have e1 : z1 = za.tmps.getD 60 undef := Option.some.inj (zc.val 1 7 60 rfl (by kernel_rfl))
       exact st_77 rfl ((evt za 62).trans (optSVal (zc.dep 9 62 (by kernel_rfl) (by decide)) rfl rfl)) ((evt za 60).trans (e1.symm.trans e)) k1.blk (by first | decide | simp) (fun v => ⟨v, rfl, .ofUpd (Upd.at_ _ _ _ _) (.inl rfl), ⟨ra3, rc3, ⟨S3, k1.storeL, k3⟩, k2⟩, cvNo⟩)
      exact trivial
     ·intro za w64 zvals zh zl hG65 hc66 zu zw zk
      obtain ⟨z0, z1, z2, rfl⟩ := vlen3 zl
      obtain ⟨pa3, pc3, ⟨S3, k29, hS3⟩, hpaZ⟩ := hG65
      have hcz : Chg Z7 w45 w64 := hc66.mono (fun b q => by rcases q with q | q; (rw [q]; exact hg7); exact hll b q)
      have hC67 : Chg Z w w64 := chg_fresh hCx hcz hZ7
      have hb68 := chg_below hb9 hcz (fun q hq h9 => by have z := hZ70 q h9; omega)
      have hB69 := chg_blk hB47 hcz (fun h9 => hX7 _ (.inr (.inl rfl)) h9)
      have hB70 := chg_blk hB48 hcz (fun h9 => hX7 _ (.inl rfl) h9)
      clear zu zw zk
      refine WE.go zh ?_
      refine WE.next (WC.seq ?_)
      have hGY9 : ∀ (vals : List Value) (wa wb : World), Below wa.heap.size wa wb → (fun vals wz => match vals with | [] => PR wz g S3 (pa3, ((T.putL (l.take x.1) st).1.N ++ [(Pt.mk f (T.putL (l.take x.1) st).2)]).length, pc3) (ua7, U7.length, uc7) pa3 pc3 ((T.putL (l.take x.1) st).1.N ++ [(Pt.mk f (T.putL (l.take x.1) st).2)]) ua7 uc7 U7 vb7 vc7 ((T.putL (l.take x.1) st).1.V) | [z0] => (PR wz g S3 (pa3, ((T.putL (l.take x.1) st).1.N ++ [(Pt.mk f (T.putL (l.take x.1) st).2)]).length, pc3) (ua7, U7.length, uc7) pa3 pc3 ((T.putL (l.take x.1) st).1.N ++ [(Pt.mk f (T.putL (l.take x.1) st).2)]) ua7 uc7 U7 vb7 vc7 ((T.putL (l.take x.1) st).1.V)) ∧ ∃ g1, z0 = .slice (some ⟨g1, 0, none⟩) 1 1 ∧ Blk wz g1 3 #[.int .i64 ((((T.putL (l.take x.1) st).1.N).length : Nat) : Int)] | [_, z1] => ∃ ra3 rc3, z1 = .slice ra3 (U7 ++ [((T.putL (l.take x.1) st).1.N).length]).length rc3 ∧ PR wz g S3 (pa3, ((T.putL (l.take x.1) st).1.N ++ [(Pt.mk f (T.putL (l.take x.1) st).2)]).length, pc3) (ua7, U7.length, uc7) pa3 pc3 ((T.putL (l.take x.1) st).1.N ++ [(Pt.mk f (T.putL (l.take x.1) st).2)]) ra3 rc3 ((U7 ++ [((T.putL (l.take x.1) st).1.N).length])) vb7 vc7 ((T.putL (l.take x.1) st).1.V) ∧ (∀ b, obk ra3 (U7 ++ [((T.putL (l.take x.1) st).1.N).length]).length rc3 = some b → Z7 b ∨ w64.heap.size ≤ b) | [_, _, _] => ∃ ra3 rc3, PR wz g S3 (pa3, ((T.putL (l.take x.1) st).1.N ++ [(Pt.mk f (T.putL (l.take x.1) st).2)]).length, pc3) (ra3, (U7 ++ [((T.putL (l.take x.1) st).1.N).length]).length, rc3) pa3 pc3 ((T.putL (l.take x.1) st).1.N ++ [(Pt.mk f (T.putL (l.take x.1) st).2)]) ra3 rc3 ((U7 ++ [((T.putL (l.take x.1) st).1.N).length])) vb7 vc7 ((T.putL (l.take x.1) st).1.V) ∧ (∀ b, obk ra3 (U7 ++ [((T.putL (l.take x.1) st).1.N).length]).length rc3 = some b → Z7 b ∨ w64.heap.size ≤ b) | _ => False) vals wa → (fun vals wz => match vals with | [] => PR wz g S3 (pa3, ((T.putL (l.take x.1) st).1.N ++ [(Pt.mk f (T.putL (l.take x.1) st).2)]).length, pc3) (ua7, U7.length, uc7) pa3 pc3 ((T.putL (l.take x.1) st).1.N ++ [(Pt.mk f (T.putL (l.take x.1) st).2)]) ua7 uc7 U7 vb7 vc7 ((T.putL (l.take x.1) st).1.V) | [z0] => (PR wz g S3 (pa3, ((T.putL (l.take x.1) st).1.N ++ [(Pt.mk f (T.putL (l.take x.1) st).2)]).length, pc3) (ua7, U7.length, uc7) pa3 pc3 ((T.putL (l.take x.1) st).1.N ++ [(Pt.mk f (T.putL (l.take x.1) st).2)]) ua7 uc7 U7 vb7 vc7 ((T.putL (l.take x.1) st).1.V)) ∧ ∃ g1, z0 = .slice (some ⟨g1, 0, none⟩) 1 1 ∧ Blk wz g1 3 #[.int .i64 ((((T.putL (l.take x.1) st).1.N).length : Nat) : Int)] | [_, z1] => ∃ ra3 rc3, z1 = .slice ra3 (U7 ++ [((T.putL (l.take x.1) st).1.N).length]).length rc3 ∧ PR wz g S3 (pa3, ((T.putL (l.take x.1) st).1.N ++ [(Pt.mk f (T.putL (l.take x.1) st).2)]).length, pc3) (ua7, U7.length, uc7) pa3 pc3 ((T.putL (l.take x.1) st).1.N ++ [(Pt.mk f (T.putL (l.take x.1) st).2)]) ra3 rc3 ((U7 ++ [((T.putL (l.take x.1) st).1.N).length])) vb7 vc7 ((T.putL (l.take x.1) st).1.V) ∧ (∀ b, obk ra3 (U7 ++ [((T.putL (l.take x.1) st).1.N).length]).length rc3 = some b → Z7 b ∨ w64.heap.size ≤ b) | [_, _, _] => ∃ ra3 rc3, PR wz g S3 (pa3, ((T.putL (l.take x.1) st).1.N ++ [(Pt.mk f (T.putL (l.take x.1) st).2)]).length, pc3) (ra3, (U7 ++ [((T.putL (l.take x.1) st).1.N).length]).length, rc3) pa3 pc3 ((T.putL (l.take x.1) st).1.N ++ [(Pt.mk f (T.putL (l.take x.1) st).2)]) ra3 rc3 ((U7 ++ [((T.putL (l.take x.1) st).1.N).length])) vb7 vc7 ((T.putL (l.take x.1) st).1.V) ∧ (∀ b, obk ra3 (U7 ++ [((T.putL (l.take x.1) st).1.N).length]).length rc3 = some b → Z7 b ∨ w64.heap.size ≤ b) | _ => False) vals wb := by
       intro vals wa wb hb h
       match vals, h with
       | [], h => exact PR.below h hb
       | [z0], h =>
        obtain ⟨k1, g1, e, k2⟩ := h
        exact ⟨k1.below hb, g1, e, k2.below hb⟩
       | [_, z1], h =>
        obtain ⟨ra, rc, e, k1, k2⟩ := h
        exact ⟨ra, rc, e, k1.below hb, k2⟩
       | [_, _, _], h =>
        obtain ⟨ra, rc, k1, k2⟩ := h
        exact ⟨ra, rc, k1.below hb, k2⟩
      have huu : ∀ b, obk ua7 U7.length uc7 = some b → Z7 b := fun b q => hRZ7 b (.inr (.inr (.inr (.inl q))))
      have hb9b : Below w0.heap.size w0 w64 := hb68
      have hw89 : w45.heap.size ≤ w64.heap.size := hc66.size
      refine WC.seqV (S := ((fun b => b = g ∨ obk ua7 U7.length uc7 = some b))) [(true, .val (.pointer (some ⟨g, 0, none⟩))), (true, .val (.pointer (some ⟨g, 0, none⟩))), (true, .val (.pointer (some ⟨g, 0, none⟩))), (true, .val (.pointer (some ⟨g, 1, none⟩))), (true, .val (.slice ua7 U7.length uc7)), (true, .val (.pointer (some ⟨g, 0, none⟩))), (true, .val (.pointer (some ⟨g, 0, none⟩))), (true, .val (.pointer (some ⟨g, 0, none⟩))), (true, .val (.slice pa3 (((T.putL (l.take x.1) st).1.N ++ [(Pt.mk f (T.putL (l.take x.1) st).2)]).length) pc3)), (true, .val (.int .i64 (((((T.putL (l.take x.1) st).1.N ++ [(Pt.mk f (T.putL (l.take x.1) st).2)]).length : Nat) : Int)))), (true, .val (.int .i64 (((((T.putL (l.take x.1) st).1.N).length : Nat) : Int)))), (true, .val undef), (true, .val undef), (true, .val (.pointer (some ⟨g, 0, none⟩))), (true, .val (.pointer (some ⟨g, 1, none⟩))), (true, .val undef)] [(0, .pointer (some ⟨g, 0, none⟩)), (1, .agg #[.int .i64 f, .slice a l.length c]), (3, .pointer (some ⟨g2, 0, none⟩)), (4, .int .i64 0), (5, .pointer (some ⟨g22, 0, none⟩)), (6, .int .i64 (((x.1 : Nat) : Int))), (21, .bool (((decide ((f : Int) < (0 : Int))) && (decide ((0 : Int) ≤ (((st.V (vnum f) : Int) - 1) : Int)))))), (38, .bool ((decide ((((x.1 : Nat) : Int) : Int) < (((l.length : Nat) : Int) : Int)))))] [11, 12, 15] [none, none, none] (fun vals wz => match vals with | [] => PR wz g S3 (pa3, ((T.putL (l.take x.1) st).1.N ++ [(Pt.mk f (T.putL (l.take x.1) st).2)]).length, pc3) (ua7, U7.length, uc7) pa3 pc3 ((T.putL (l.take x.1) st).1.N ++ [(Pt.mk f (T.putL (l.take x.1) st).2)]) ua7 uc7 U7 vb7 vc7 ((T.putL (l.take x.1) st).1.V) | [z0] => (PR wz g S3 (pa3, ((T.putL (l.take x.1) st).1.N ++ [(Pt.mk f (T.putL (l.take x.1) st).2)]).length, pc3) (ua7, U7.length, uc7) pa3 pc3 ((T.putL (l.take x.1) st).1.N ++ [(Pt.mk f (T.putL (l.take x.1) st).2)]) ua7 uc7 U7 vb7 vc7 ((T.putL (l.take x.1) st).1.V)) ∧ ∃ g1, z0 = .slice (some ⟨g1, 0, none⟩) 1 1 ∧ Blk wz g1 3 #[.int .i64 ((((T.putL (l.take x.1) st).1.N).length : Nat) : Int)] | [_, z1] => ∃ ra3 rc3, z1 = .slice ra3 (U7 ++ [((T.putL (l.take x.1) st).1.N).length]).length rc3 ∧ PR wz g S3 (pa3, ((T.putL (l.take x.1) st).1.N ++ [(Pt.mk f (T.putL (l.take x.1) st).2)]).length, pc3) (ua7, U7.length, uc7) pa3 pc3 ((T.putL (l.take x.1) st).1.N ++ [(Pt.mk f (T.putL (l.take x.1) st).2)]) ra3 rc3 ((U7 ++ [((T.putL (l.take x.1) st).1.N).length])) vb7 vc7 ((T.putL (l.take x.1) st).1.V) ∧ (∀ b, obk ra3 (U7 ++ [((T.putL (l.take x.1) st).1.N).length]).length rc3 = some b → Z7 b ∨ w64.heap.size ≤ b) | [_, _, _] => ∃ ra3 rc3, PR wz g S3 (pa3, ((T.putL (l.take x.1) st).1.N ++ [(Pt.mk f (T.putL (l.take x.1) st).2)]).length, pc3) (ra3, (U7 ++ [((T.putL (l.take x.1) st).1.N).length]).length, rc3) pa3 pc3 ((T.putL (l.take x.1) st).1.N ++ [(Pt.mk f (T.putL (l.take x.1) st).2)]) ra3 rc3 ((U7 ++ [((T.putL (l.take x.1) st).1.N).length])) vb7 vc7 ((T.putL (l.take x.1) st).1.V) ∧ (∀ b, obk ra3 (U7 ++ [((T.putL (l.take x.1) st).1.N).length]).length rc3 = some b → Z7 b ∨ w64.heap.size ≤ b) | _ => False) hGY9 (by decide) ⟨rfl, rfl, rfl, rfl, rfl, rfl, rfl, rfl, trivial⟩ (by kernel_rfl) (by kernel_rfl) (by kernel_rfl) (by kernel_rfl) k29 ?_ ?_
      ·refine ⟨.inl ⟨rfl, true, .none rfl, (fun gg b h => by cases h), fun h w => optUndef h, fun zβ za zw zc => ?_⟩, ?_⟩
       ·exact wp_move rfl (zc.kn.ev rfl) ⟨_, rfl, Below.refl _ _, optDef zβ rfl⟩
       refine ⟨.inl ⟨rfl, true, .none rfl, (fun gg b h => by cases h), fun h w => optUndef h, fun zβ za zw zc => ?_⟩, ?_⟩
       ·exact wp_move rfl (zc.kn.ev rfl) ⟨_, rfl, Below.refl _ _, optDef zβ rfl⟩
       refine ⟨.inl ⟨rfl, true, .none rfl, (fun gg b h => by cases h), fun h w => optUndef h, fun zβ za zw zc => ?_⟩, ?_⟩
       ·exact nilCheck_ rfl ((evt za 64).trans (optSVal (zc.dep 1 64 (by kernel_rfl) (by decide)) rfl rfl)) ⟨_, rfl, Below.refl _ _, optDef zβ rfl⟩
       refine ⟨.inl ⟨rfl, true, .none rfl, (fun gg b h => by cases h), fun h w => optUndef h, fun zβ za zw zc => ?_⟩, ?_⟩
       ·exact fld_79_1 rfl ((evt za 65).trans (optSVal (zc.dep 2 65 (by kernel_rfl) (by decide)) rfl rfl)) ⟨_, rfl, Below.refl _ _, optDef zβ rfl⟩
       refine ⟨.inl ⟨rfl, true, .none rfl, (fun gg b h => by cases h), fun h w => optUndef h, fun zβ za zw zc => ?_⟩, ?_⟩
       ·obtain ⟨vals, hle, hgv, _⟩ := zc.early 2 15 rfl (by kernel_rfl)
        have hb5 : zw.cell? ⟨g, 1, none⟩ = some (.slice ua7 U7.length uc7) := by
         match vals, hle, hgv with
         | [], _, hg => exact PR.c1 hg
         | [_], _, hg => exact hg.1.c1
         | [_, _], _, hg => obtain ⟨_, _, _, k, _⟩ := hg; exact k.c1
        exact ld_31 rfl ((evt za 66).trans (optSVal (zc.dep 3 66 (by kernel_rfl) (by decide)) rfl rfl)) hb5 ⟨_, rfl, Below.refl _ _, optDef zβ rfl⟩
       refine ⟨.inl ⟨rfl, true, .none rfl, (fun gg b h => by cases h), fun h w => optUndef h, fun zβ za zw zc => ?_⟩, ?_⟩
       ·exact wp_move rfl (zc.kn.ev rfl) ⟨_, rfl, Below.refl _ _, optDef zβ rfl⟩
       refine ⟨.inl ⟨rfl, true, .none rfl, (fun gg b h => by cases h), fun h w => optUndef h, fun zβ za zw zc => ?_⟩, ?_⟩
       ·exact nilCheck_ rfl ((evt za 68).trans (optSVal (zc.dep 5 68 (by kernel_rfl) (by decide)) rfl rfl)) ⟨_, rfl, Below.refl _ _, optDef zβ rfl⟩
       refine ⟨.inl ⟨rfl, true, .none rfl, (fun gg b h => by cases h), fun h w => optUndef h, fun zβ za zw zc => ?_⟩, ?_⟩
       ·exact fld_79_0 rfl ((evt za 69).trans (optSVal (zc.dep 6 69 (by kernel_rfl) (by decide)) rfl rfl)) ⟨_, rfl, Below.refl _ _, optDef zβ rfl⟩
       refine ⟨.inl ⟨rfl, true, .none rfl, (fun gg b h => by cases h), fun h w => optUndef h, fun zβ za zw zc => ?_⟩, ?_⟩
       ·obtain ⟨vals, hle, hgv, _⟩ := zc.early 2 15 rfl (by kernel_rfl)
        have hb5 : zw.cell? ⟨g, 0, none⟩ = some (.slice pa3 (((T.putL (l.take x.1) st).1.N ++ [(Pt.mk f (T.putL (l.take x.1) st).2)]).length) pc3) := by
         match vals, hle, hgv with
         | [], _, hg => exact PR.c0 hg
         | [_], _, hg => exact hg.1.c0
         | [_, _], _, hg => obtain ⟨_, _, _, k, _⟩ := hg; exact k.c0
        exact ld_77 rfl ((evt za 70).trans (optSVal (zc.dep 7 70 (by kernel_rfl) (by decide)) rfl rfl)) hb5 ⟨_, rfl, Below.refl _ _, optDef zβ rfl⟩
       refine ⟨.inl ⟨rfl, true, .none rfl, (fun gg b h => by cases h), fun h w => optUndef h, fun zβ za zw zc => ?_⟩, ?_⟩
       ·exact len_77 rfl ((evt za 71).trans (optSVal (zc.dep 8 71 (by kernel_rfl) (by decide)) rfl rfl)) ⟨_, rfl, Below.refl _ _, optDef zβ rfl⟩
       refine ⟨.inl ⟨rfl, true, .none rfl, (fun gg b h => by cases h), fun h w => optUndef h, fun zβ za zw zc => ?_⟩, ?_⟩
       ·exact subb_3 rfl ((evt za 72).trans (optSVal (zc.dep 9 72 (by kernel_rfl) (by decide)) rfl rfl)) (zc.kn.ev rfl) (wrap_eq (by rw [List.length_append]; show ((((T.putL (l.take x.1) st).1.N).length + 1 : Nat) : Int) - 1 = _; omega) (by omega) (by omega)) ⟨_, rfl, Below.refl _ _, optDef zβ rfl⟩
       refine ⟨.inr ⟨0, rfl, by kernel_rfl, true, .none rfl, (fun gg b h => by cases h), (fun h => (nomatch h)), fun zβ za zw zvals zc => ?_⟩, ?_⟩
       ·obtain rfl := vlen0 zc.len
        have zn := zc.now
        exact row_31_1 rfl ((evt za 73).trans (optSVal (zc.dep 10 73 (by kernel_rfl) (by decide)) rfl rfl)) ⟨_, rfl, .ofBelow (balloc _ _), ⟨PR.below zn (balloc _ _), _, rfl, Blk.new' rfl⟩, cvNo⟩
       refine ⟨.inr ⟨1, rfl, by kernel_rfl, true, .none rfl, (fun gg b h => by cases h), (fun h => (nomatch h)), fun zβ za zw zvals zc => ?_⟩, ?_⟩
       ·obtain ⟨z0, rfl⟩ := vlen1 zc.len
        have zn := zc.now
        obtain ⟨k1, g1, e, k2⟩ := zn
        have e0 : z0 = za.tmps.getD 74 undef := Option.some.inj (zc.val 0 11 74 rfl (by kernel_rfl))
        exact wp_appD (E := eltN) (y := ((T.putL (l.take x.1) st).1.N).length) (S2 := fun _ => False) (size := 1) (bytes := 8) (z := .int .i64 0) rfl Try.underlying31 (by kernel_rfl) rfl (by decide) rfl ((evt za 67).trans (optSVal (zc.dep 4 67 (by kernel_rfl) (by decide)) rfl rfl)) ((evt za 74).trans (e0.symm.trans e)) k1.up k2 rfl (fun b q => q.elim) (by omega) (by omega) (fun ra rc w' h1 h2 h3 => ⟨_, rfl, h2.mono (fun b q => .inr q), ⟨ra, rc, by rw [List.length_append]; rfl, k1.growU h1 h2 h3, fun b q => by rw [List.length_append] at q; exact (h3 b q).imp (huu b) (fun z => Nat.le_trans zc.chg.size z)⟩, cvNo⟩)
       refine ⟨.inl ⟨rfl, true, .none rfl, (fun gg b h => by cases h), fun h w => optUndef h, fun zβ za zw zc => ?_⟩, ?_⟩
       ·exact nilCheck_ rfl ((evt za 63).trans (optSVal (zc.dep 0 63 (by kernel_rfl) (by decide)) rfl rfl)) ⟨_, rfl, Below.refl _ _, optDef zβ rfl⟩
       refine ⟨.inl ⟨rfl, true, .none rfl, (fun gg b h => by cases h), fun h w => optUndef h, fun zβ za zw zc => ?_⟩, ?_⟩
       ·exact fld_79_1 rfl ((evt za 76).trans (optSVal (zc.dep 13 76 (by kernel_rfl) (by decide)) rfl rfl)) ⟨_, rfl, Below.refl _ _, optDef zβ rfl⟩
       refine ⟨.inr ⟨2, rfl, by kernel_rfl, true, .none rfl, (fun gg b h => by cases h), (fun h => (nomatch h)), fun zβ za zw zvals zc => ?_⟩, ?_⟩
       ·obtain ⟨z0, z1, rfl⟩ := vlen2 zc.len
        have zn := zc.now
        obtain ⟨ra, rc, e, k1, k2⟩ := zn
        have e1 : z1 = za.tmps.getD 75 undef := Option.some.inj (zc.val 1 12 75 rfl (by kernel_rfl))
        exact st_31 rfl ((evt za 77).trans (optSVal (zc.dep 14 77 (by kernel_rfl) (by decide)) rfl rfl)) ((evt za 75).trans (e1.symm.trans e)) k1.blk (by first | decide | simp) (fun v => ⟨v, rfl, .ofUpd (Upd.at_ _ _ _ _) (.inl rfl), ⟨ra, rc, k1.storeU, k2⟩, cvNo⟩)
       exact trivial
      ·intro za w71 zvals zh zl hG72 hc73 zu zw zk
       obtain ⟨z0, z1, z2, rfl⟩ := vlen3 zl
       obtain ⟨ra3, rc3, k39, hraZ⟩ := hG72
       have hcy : Chg Z7 w64 w71 := hc73.mono (fun b q => by rcases q with q | q; (rw [q]; exact hg7); exact huu b q)
       have hC74 : Chg Z w w71 := chg_fresh hC67 hcy hZ7
       have hb75 := chg_below hb9b hcy (fun q hq h9 => by have z := hZ70 q h9; omega)
       have hB76 := chg_blk hB69 hcy (fun h9 => hX7 _ (.inr (.inl rfl)) h9)
       have hB77 := chg_blk hB70 hcy (fun h9 => hX7 _ (.inl rfl) h9)
       clear zu zw zk
       refine WE.go zh ?_
       refine WE.next (WC.seq (WC.seq (WC.region ?_)))
       refine WL.val _ rfl rfl rfl (fun za zC zh zk => fld_24_0 rfl (zh.ev rfl) zk) ?_
       refine WL.val _ rfl rfl rfl (fun za zC zh zk => ld_3 rfl (zh.ev rfl) ((hB76.cell 0).trans rfl) zk) ?_
       refine WL.val (.bool ((decide ((f : Int) < (0 : Int))))) rfl rfl rfl (fun za zC zh zk => lss_3 rfl (zh.ev rfl) (zh.ev rfl) zk) ?_
       refine WL.nil (WE.next ?_)
       refine WC.cond rfl (fun h78 => ?_) (fun h78 => ?_)
       ·have h78 : (f : Int) < (0 : Int) := by simpa using h78
        have hb79 : Below w0.heap.size w0 w71 := hb75
        have hv11 := hv9 (by omega)
        have hvZ : Z7 vb7 := hRZ7 vb7 (.inr (.inl rfl))
        have hvl : vb7 < w71.heap.size := k39.of.lt
        have hSlt : ∀ b, (fun b => b = vb7) b → b < w71.heap.size := fun b e => by rw [show b = vb7 from e]; exact hvl
        refine WC.tail1 (S := ((fun b => b = vb7))) [(true, .val (.pointer (some ⟨g, 0, none⟩))), (true, .val (.pointer (some ⟨g, 0, none⟩))), (true, .val (.pointer (some ⟨g, 2, none⟩))), (true, .val (.slice ((some ⟨vb7, 0, none⟩)) 96 vc7)), (true, .val (.pointer (some ⟨g2, 0, none⟩))), (true, .val (.int .i64 f)), (true, .val (.int .i64 ((((vnum f) : Nat) : Int)))), (true, .val (.pointer (some ⟨g, 0, none⟩))), (true, .val (.pointer (some ⟨g, 0, none⟩))), (true, .val (.pointer (some ⟨g, 0, none⟩))), (true, .val (.slice pa3 (((T.putL (l.take x.1) st).1.N ++ [(Pt.mk f (T.putL (l.take x.1) st).2)]).length) pc3)), (true, .val (.int .i64 (((((T.putL (l.take x.1) st).1.N ++ [(Pt.mk f (T.putL (l.take x.1) st).2)]).length : Nat) : Int)))), (true, .val (.int .i64 ((((((T.putL (l.take x.1) st).1.N).length + 1 : Nat) : Int) - 1)))), (true, .val (.pointer (some ⟨vb7, 0 + (vnum f), none⟩))), (true, .val undef)] [(0, .pointer (some ⟨g, 0, none⟩)), (1, .agg #[.int .i64 f, .slice a l.length c]), (3, .pointer (some ⟨g2, 0, none⟩)), (4, .int .i64 0), (5, .pointer (some ⟨g22, 0, none⟩)), (6, .int .i64 (((x.1 : Nat) : Int))), (21, .bool (((decide ((f : Int) < (0 : Int))) && (decide ((0 : Int) ≤ (((st.V (vnum f) : Int) - 1) : Int)))))), (38, .bool ((decide ((((x.1 : Nat) : Int) : Int) < (((l.length : Nat) : Int) : Int))))), (80, .bool ((decide ((f : Int) < (0 : Int)))))] 14 (fun wz => PR wz g S3 (pa3, ((T.putL (l.take x.1) st).1.N ++ [(Pt.mk f (T.putL (l.take x.1) st).2)]).length, pc3) (ra3, (U7 ++ [((T.putL (l.take x.1) st).1.N).length]).length, rc3) pa3 pc3 ((T.putL (l.take x.1) st).1.N ++ [(Pt.mk f (T.putL (l.take x.1) st).2)]) ra3 rc3 ((U7 ++ [((T.putL (l.take x.1) st).1.N).length])) vb7 vc7 (NS.setV ((T.putL (l.take x.1) st).1.V) (vnum f) (((T.putL (l.take x.1) st).1.N).length + 1))) (fun w w' hb h => h.below hb) ⟨rfl, rfl, rfl, rfl, rfl, rfl, rfl, rfl, rfl, trivial⟩ (by kernel_rfl) (by kernel_rfl) (by kernel_rfl) (by kernel_rfl) ?_ ?_
        ·refine ⟨.inl ⟨rfl, true, .none rfl, (fun gg b h => by cases h), fun h w => optUndef h, fun zβ za zw zc => ?_⟩, ?_⟩
         ·exact wp_move rfl (zc.kn.ev rfl) ⟨_, rfl, Below.refl _ _, optDef zβ rfl⟩
         refine ⟨.inl ⟨rfl, true, .none rfl, (fun gg b h => by cases h), fun h w => optUndef h, fun zβ za zw zc => ?_⟩, ?_⟩
         ·exact nilCheck_ rfl ((evt za 81).trans (optSVal (zc.dep 0 81 (by kernel_rfl) (by decide)) rfl rfl)) ⟨_, rfl, Below.refl _ _, optDef zβ rfl⟩
         refine ⟨.inl ⟨rfl, true, .none rfl, (fun gg b h => by cases h), fun h w => optUndef h, fun zβ za zw zc => ?_⟩, ?_⟩
         ·exact fld_79_2 rfl ((evt za 82).trans (optSVal (zc.dep 1 82 (by kernel_rfl) (by decide)) rfl rfl)) ⟨_, rfl, Below.refl _ _, optDef zβ rfl⟩
         refine ⟨.inl ⟨rfl, true, .none rfl, (fun gg b h => by cases h), fun h w => optUndef h, fun zβ za zw zc => ?_⟩, ?_⟩
         ·exact ld_31 rfl ((evt za 83).trans (optSVal (zc.dep 2 83 (by kernel_rfl) (by decide)) rfl rfl)) (bkeeps (zc.early (by kernel_rfl)) _ _ k39.c2) ⟨_, rfl, Below.refl _ _, optDef zβ rfl⟩
         refine ⟨.inl ⟨rfl, true, .none rfl, (fun gg b h => by cases h), fun h w => optUndef h, fun zβ za zw zc => ?_⟩, ?_⟩
         ·exact fld_24_0 rfl (zc.kn.ev rfl) ⟨_, rfl, Below.refl _ _, optDef zβ rfl⟩
         refine ⟨.inl ⟨rfl, true, .none rfl, (fun gg b h => by cases h), fun h w => optUndef h, fun zβ za zw zc => ?_⟩, ?_⟩
         ·exact ld_3 rfl ((evt za 85).trans (optSVal (zc.dep 4 85 (by kernel_rfl) (by decide)) rfl rfl)) (bkeeps (zc.early (by kernel_rfl)) _ _ ((hB76.cell 0).trans rfl)) ⟨_, rfl, Below.refl _ _, optDef zβ rfl⟩
         refine ⟨.inl ⟨rfl, true, .none rfl, (fun gg b h => by cases h), fun h w => optUndef h, fun zβ za zw zc => ?_⟩, ?_⟩
         ·exact subb_3 rfl (zc.kn.ev rfl) ((evt za 86).trans (optSVal (zc.dep 5 86 (by kernel_rfl) (by decide)) rfl rfl)) (wrap_eq (by have z := hv9 (by omega); omega) (by have z := hv9 (by omega); omega) (by have z := hv9 (by omega); omega)) ⟨_, rfl, Below.refl _ _, optDef zβ rfl⟩
         refine ⟨.inl ⟨rfl, true, .none rfl, (fun gg b h => by cases h), fun h w => optUndef h, fun zβ za zw zc => ?_⟩, ?_⟩
         ·exact wp_move rfl (zc.kn.ev rfl) ⟨_, rfl, Below.refl _ _, optDef zβ rfl⟩
         refine ⟨.inl ⟨rfl, true, .none rfl, (fun gg b h => by cases h), fun h w => optUndef h, fun zβ za zw zc => ?_⟩, ?_⟩
         ·exact nilCheck_ rfl ((evt za 88).trans (optSVal (zc.dep 7 88 (by kernel_rfl) (by decide)) rfl rfl)) ⟨_, rfl, Below.refl _ _, optDef zβ rfl⟩
         refine ⟨.inl ⟨rfl, true, .none rfl, (fun gg b h => by cases h), fun h w => optUndef h, fun zβ za zw zc => ?_⟩, ?_⟩
         ·exact fld_79_0 rfl ((evt za 89).trans (optSVal (zc.dep 8 89 (by kernel_rfl) (by decide)) rfl rfl)) ⟨_, rfl, Below.refl _ _, optDef zβ rfl⟩
         refine ⟨.inl ⟨rfl, true, .none rfl, (fun gg b h => by cases h), fun h w => optUndef h, fun zβ za zw zc => ?_⟩, ?_⟩
         ·exact ld_77 rfl ((evt za 90).trans (optSVal (zc.dep 9 90 (by kernel_rfl) (by decide)) rfl rfl)) (bkeeps (zc.early (by kernel_rfl)) _ _ k39.c0) ⟨_, rfl, Below.refl _ _, optDef zβ rfl⟩
         refine ⟨.inl ⟨rfl, true, .none rfl, (fun gg b h => by cases h), fun h w => optUndef h, fun zβ za zw zc => ?_⟩, ?_⟩
         ·exact len_77 rfl ((evt za 91).trans (optSVal (zc.dep 10 91 (by kernel_rfl) (by decide)) rfl rfl)) ⟨_, rfl, Below.refl _ _, optDef zβ rfl⟩
         refine ⟨.inl ⟨rfl, true, .none rfl, (fun gg b h => by cases h), fun h w => optUndef h, fun zβ za zw zc => ?_⟩, ?_⟩
         ·exact subb_3 rfl ((evt za 92).trans (optSVal (zc.dep 11 92 (by kernel_rfl) (by decide)) rfl rfl)) (zc.kn.ev rfl) (wrap_eq (by rw [List.length_append]; rfl) (by omega) (by omega)) ⟨_, rfl, Below.refl _ _, optDef zβ rfl⟩
         refine ⟨.inl ⟨rfl, true, .none rfl, (fun gg b h => by cases h), fun h w => optUndef h, fun zβ za zw zc => ?_⟩, ?_⟩
         ·exact ix_31 (k := vnum f) rfl ((evt za 84).trans (optSVal (zc.dep 3 84 (by kernel_rfl) (by decide)) rfl rfl)) rfl ((evt za 87).trans (optSVal (zc.dep 6 87 (by kernel_rfl) (by decide)) rfl rfl)) (hv9 (by omega)).1 ⟨_, rfl, Below.refl _ _, optDef zβ rfl⟩
         refine ⟨.inr ⟨rfl, rfl, fun za zw zc => ?_⟩, ?_⟩
         ·have hpz := PR.below k39 zc.below
          obtain ⟨⟨cs9, hB9, hs9⟩, _⟩ := hpz.of.set_ (v := vnum f) (x := ((T.putL (l.take x.1) st).1.N).length + 1) hv11.1
          exact st_3 rfl ((evt za 94).trans (optSVal (zc.dep 13 94 (by kernel_rfl) (by decide)) rfl rfl)) ((evt za 93).trans (optSVal (zc.dep 12 93 (by kernel_rfl) (by decide)) rfl rfl)) hB9 hs9 (fun v => ⟨v, rfl, hpz.setV hv11.1, .ofUpd (Upd.at_ _ _ _ _) rfl⟩)
         exact trivial
        ·intro za w80 zh hG81 hc82 zu
         have hcv : Chg Z7 w71 w80 := Chg.mono hc82 (fun b e => by rw [show b = vb7 from e]; exact hvZ)
         have hC83 : Chg Z w w80 := chg_fresh hC74 hcv hZ7
         have hb84 := chg_below hb79 hcv (fun q hq h9 => by have z := hZ70 q h9; omega)
         have hB85 := chg_blk hB76 hcv (fun h9 => hX7 _ (.inr (.inl rfl)) h9)
         have hB86 := chg_blk hB77 hcv (fun h9 => hX7 _ (.inl rfl) h9)
         clear zu
         refine WE.go zh ?_
         refine WE.next (WC.seq (WC.region (WL.mv rfl rfl rfl rfl rfl ?_)))
         refine WL.val _ rfl rfl rfl (fun za zC zh zk => nilCheck_ rfl (zh.ev rfl) zk) ?_
         refine WL.val _ rfl rfl rfl (fun za zC zh zk => fld_79_0 rfl (zh.ev rfl) zk) ?_
         refine WL.val _ rfl rfl rfl (fun za zC zh zk => ld_77 rfl (zh.ev rfl) hG81.c0 zk) ?_
         refine WL.val (.int .i64 (((((T.putL (l.take x.1) st).1.N ++ [(Pt.mk f (T.putL (l.take x.1) st).2)]).length : Nat) : Int))) rfl rfl rfl (fun za zC zh zk => len_77 rfl (zh.ev rfl) zk) ?_
         refine WL.val (.int .i64 (((((T.putL (l.take x.1) st).1.N).length : Nat) : Int))) rfl rfl rfl (fun za zC zh zk => subb_3 rfl (zh.ev rfl) (zh.ev rfl) (wrap_eq (by rw [List.length_append]; show ((((T.putL (l.take x.1) st).1.N).length + 1 : Nat) : Int) - 1 = _; omega) (by omega) (by omega)) zk) ?_
         refine WL.asg rfl rfl rfl rfl rfl ?_
         refine WL.nil (WE.sub (K' := [(0, .pointer (some ⟨g, 0, none⟩)), (1, .agg #[.int .i64 f, .slice a l.length c]), (3, .pointer (some ⟨g2, 0, none⟩)), (4, .int .i64 (((((T.putL (l.take x.1) st).1.N).length : Nat) : Int))), (5, .pointer (some ⟨g22, 0, none⟩)), (6, .int .i64 (((x.1 : Nat) : Int))), (21, .bool (((decide ((f : Int) < (0 : Int))) && (decide ((0 : Int) ≤ (((st.V (vnum f) : Int) - 1) : Int)))))), (38, .bool ((decide ((((x.1 : Nat) : Int) : Int) < (((l.length : Nat) : Int) : Int))))), (80, .bool ((decide ((f : Int) < (0 : Int)))))]) ⟨rfl, rfl, rfl, rfl, rfl, rfl, rfl, rfl, rfl, trivial⟩ ?_)
         refine WE.next (WC.ret (WE.ret1 rfl rfl ?_))
         have hz7 : T.putL (l.take x.1) st = (st, []) := by rw [hput, (hf96 (by omega)).2]; rfl
         have hV0 : st.V (vnum f) = 0 := by omega
         have e : (T.mk f l).put st = (⟨((T.putL (l.take x.1) st).1.N ++ [(Pt.mk f (T.putL (l.take x.1) st).2)]), (NS.setV ((T.putL (l.take x.1) st).1.V) (vnum f) (((T.putL (l.take x.1) st).1.N).length + 1))⟩, ((T.putL (l.take x.1) st).1.N).length) := by
          rw [hz7, T.put, if_pos (by omega)]; unfold NS.var; rw [if_neg (by omega)]
         have hU2 : (U7 ++ [((T.putL (l.take x.1) st).1.N).length]).length = ((T.putL (l.take x.1) st).1.N ++ [(Pt.mk f (T.putL (l.take x.1) st).2)]).length := by rw [List.length_append, List.length_append, hU7]; rfl
         rw [e]
         refine ⟨_, rfl, rfl, ⟨(U7 ++ [((T.putL (l.take x.1) st).1.N).length]), fun b => (Z b ∨ w.heap.size ≤ b) ∧ b < w80.heap.size, by rw [← hU7]; exact hR7.push (by rw [hU7]; exact fun i hi => hκ i (by omega)), ⟨S3, pa3, pc3, ra3, rc3, vb7, vc7, hG81, hU2, fun b q => ⟨?_, hG81.lt b q⟩, fun b q => q.2⟩, fun b q => q.1, fun b q => q.elim⟩, hC83⟩
         have hw8 : w.heap.size ≤ w45.heap.size := hwW
         have hz9 : ∀ b, Z7 b → Z b ∨ w.heap.size ≤ b := hZ7
         rcases q with q | q | q | q | q
         ·exact .inl (q ▸ hgZ)
         ·exact hz9 b (q ▸ hRZ7 vb7 (.inr (.inl rfl)))
         ·rcases hpaZ b q with z | z; exact hz9 b z; (right; omega)
         ·rcases hraZ b q with z | z; exact hz9 b z; (right; omega)
         ·rcases hS3 b q with z | z; exact hz9 b (hRZ7 b (.inr (.inr (.inr (.inr z))))); exact .inr (hownw b z).1
       ·have h78 : ¬ ((f : Int) < (0 : Int)) := by simpa using h78
        refine WC.skip (WE.next (WC.seq (WC.region (WL.mv rfl rfl rfl rfl rfl ?_))))
        refine WL.val _ rfl rfl rfl (fun za zC zh zk => nilCheck_ rfl (zh.ev rfl) zk) ?_
        refine WL.val _ rfl rfl rfl (fun za zC zh zk => fld_79_0 rfl (zh.ev rfl) zk) ?_
        refine WL.val _ rfl rfl rfl (fun za zC zh zk => ld_77 rfl (zh.ev rfl) k39.c0 zk) ?_
        refine WL.val (.int .i64 (((((T.putL (l.take x.1) st).1.N ++ [(Pt.mk f (T.putL (l.take x.1) st).2)]).length : Nat) : Int))) rfl rfl rfl (fun za zC zh zk => len_77 rfl (zh.ev rfl) zk) ?_
        refine WL.val (.int .i64 (((((T.putL (l.take x.1) st).1.N).length : Nat) : Int))) rfl rfl rfl (fun za zC zh zk => subb_3 rfl (zh.ev rfl) (zh.ev rfl) (wrap_eq (by rw [List.length_append]; show ((((T.putL (l.take x.1) st).1.N).length + 1 : Nat) : Int) - 1 = _; omega) (by omega) (by omega)) zk) ?_
        refine WL.asg rfl rfl rfl rfl rfl ?_
        refine WL.nil (WE.sub (K' := [(0, .pointer (some ⟨g, 0, none⟩)), (1, .agg #[.int .i64 f, .slice a l.length c]), (3, .pointer (some ⟨g2, 0, none⟩)), (4, .int .i64 (((((T.putL (l.take x.1) st).1.N).length : Nat) : Int))), (5, .pointer (some ⟨g22, 0, none⟩)), (6, .int .i64 (((x.1 : Nat) : Int))), (21, .bool (((decide ((f : Int) < (0 : Int))) && (decide ((0 : Int) ≤ (((st.V (vnum f) : Int) - 1) : Int)))))), (38, .bool ((decide ((((x.1 : Nat) : Int) : Int) < (((l.length : Nat) : Int) : Int))))), (80, .bool ((decide ((f : Int) < (0 : Int)))))]) ⟨rfl, rfl, rfl, rfl, rfl, rfl, rfl, rfl, rfl, trivial⟩ ?_)
        refine WE.next (WC.ret (WE.ret1 rfl rfl ?_))
        have e : (T.mk f l).put st = (⟨((T.putL (l.take x.1) st).1.N ++ [(Pt.mk f (T.putL (l.take x.1) st).2)]), (T.putL (l.take x.1) st).1.V⟩, ((T.putL (l.take x.1) st).1.N).length) := by
         rw [hput, T.put, if_neg (by omega)]
        have hU2 : (U7 ++ [((T.putL (l.take x.1) st).1.N).length]).length = ((T.putL (l.take x.1) st).1.N ++ [(Pt.mk f (T.putL (l.take x.1) st).2)]).length := by rw [List.length_append, List.length_append, hU7]; rfl
        rw [e]
        refine ⟨_, rfl, rfl, ⟨(U7 ++ [((T.putL (l.take x.1) st).1.N).length]), fun b => (Z b ∨ w.heap.size ≤ b) ∧ b < w71.heap.size, by rw [← hU7]; exact hR7.push (by rw [hU7]; exact fun i hi => hκ i (by omega)), ⟨S3, pa3, pc3, ra3, rc3, vb7, vc7, k39, hU2, fun b q => ⟨?_, k39.lt b q⟩, fun b q => q.2⟩, fun b q => q.1, fun b q => q.elim⟩, hC74⟩
        have hw8 : w.heap.size ≤ w45.heap.size := hwW
        have hz9 : ∀ b, Z7 b → Z b ∨ w.heap.size ≤ b := hZ7
        rcases q with q | q | q | q | q
        ·exact .inl (q ▸ hgZ)
        ·exact hz9 b (q ▸ hRZ7 vb7 (.inr (.inl rfl)))
        ·rcases hpaZ b q with z | z; exact hz9 b z; (right; omega)
        ·rcases hraZ b q with z | z; exact hz9 b z; (right; omega)
        ·rcases hS3 b q with z | z; exact hz9 b (hRZ7 b (.inr (.inr (.inr (.inr z))))); exact .inr (hownw b z).1
end Go.Proofs.Ytibncmnmjhimeaa

/- Regions in whatever order: two new rows of one length, a new box of both, laid down. -/
namespace Go.Proofs.Ytibncmnmjhimeaa
open Go.RowKit Go
set_option linter.unusedVariables false
/-- Two new rows, and a new box of both: as far as they are there, all are new, and apart. -/
structure MK2 (w0 : World) (n t1 : Nat) (cs : Array Value) (tb : Nat) (v1 v2 va vp vq : Option Value) (w : World) : Prop where
 below : Below w0.heap.size w0 w
 r1 : ∀ v, v1 = some v → ∃ g, v = .slice (some ⟨g, 0, none⟩) n n ∧ w0.heap.size ≤ g ∧ Blk w g t1 cs
 r2 : ∀ v, v2 = some v → ∃ g, v = .slice (some ⟨g, 0, none⟩) n n ∧ w0.heap.size ≤ g ∧ Blk w g t1 cs
 ne : ∀ g1 g2, v1 = some (.slice (some ⟨g1, 0, none⟩) n n) → v2 = some (.slice (some ⟨g2, 0, none⟩) n n) → g1 ≠ g2
 bx : ∀ v, va = some v → ∃ u1 u2, v1 = some u1 ∧ v2 = some u2 ∧ v = .agg #[u1, u2]
 bp : ∀ v, vp = some v → ∃ g1 g2 g, v1 = some (.slice (some ⟨g1, 0, none⟩) n n) ∧ v2 = some (.slice (some ⟨g2, 0, none⟩) n n) ∧ v = .pointer (some ⟨g, 0, none⟩) ∧ w0.heap.size ≤ g ∧ Blk w g tb #[.slice (some ⟨g1, 0, none⟩) n n, .slice (some ⟨g2, 0, none⟩) n n] ∧ g ≠ g1 ∧ g ≠ g2
 bq : ∀ v, vq = some v → vp = some v
section
variable {w0 w w' : World} {n t1 tb : Nat} {cs : Array Value} {v1 v2 va vp vq : Option Value}
theorem MK2.step (h : MK2 w0 n t1 cs tb v1 v2 va vp vq w) (hb : Below w.heap.size w w') : MK2 w0 n t1 cs tb v1 v2 va vp vq w' :=
 ⟨bstep h.below hb, fun v hv => by obtain ⟨g, e, h1, h2⟩ := h.r1 v hv; exact ⟨g, e, h1, h2.below hb⟩, fun v hv => by obtain ⟨g, e, h1, h2⟩ := h.r2 v hv; exact ⟨g, e, h1, h2.below hb⟩, h.ne, h.bx,
  fun v hv => by obtain ⟨g1, g2, g, e1, e2, e3, h1, h2, h3⟩ := h.bp v hv; exact ⟨g1, g2, g, e1, e2, e3, h1, h2.below hb, h3⟩, h.bq⟩
theorem MK2.mk1 (h : MK2 w0 n t1 cs tb none v2 va vp vq w) : MK2 w0 n t1 cs tb (some (.slice (some ⟨w.heap.size, 0, none⟩) n n)) v2 va vp vq (w.alloc (.cells cs t1)) := by
 have hs := h.step (balloc w (.cells cs t1))
 refine ⟨hs.below, fun v hv => ⟨_, (Option.some.inj hv).symm, h.below.size, Blk.new' rfl⟩, hs.r2, fun g1 g2 e1 e2 => ?_, fun v hv => ?_, fun v hv => ?_, hs.bq⟩
 ·obtain ⟨g, e, _, hB⟩ := h.r2 _ e2
  have := hB.lt
  simp only [Option.some.injEq, Value.slice.injEq, Addr.mk.injEq, and_true] at e1 e
  omega
 ·obtain ⟨u1, u2, e1, _⟩ := h.bx v hv; cases e1
 ·obtain ⟨g1, g2, g, e1, _⟩ := h.bp v hv; cases e1
theorem MK2.mk2 (h : MK2 w0 n t1 cs tb v1 none va vp vq w) : MK2 w0 n t1 cs tb v1 (some (.slice (some ⟨w.heap.size, 0, none⟩) n n)) va vp vq (w.alloc (.cells cs t1)) := by
 have hs := h.step (balloc w (.cells cs t1))
 refine ⟨hs.below, hs.r1, fun v hv => ⟨_, (Option.some.inj hv).symm, h.below.size, Blk.new' rfl⟩, fun g1 g2 e1 e2 => ?_, fun v hv => ?_, fun v hv => ?_, hs.bq⟩
 ·obtain ⟨g, e, _, hB⟩ := h.r1 _ e1
  have := hB.lt
  simp only [Option.some.injEq, Value.slice.injEq, Addr.mk.injEq, and_true] at e2 e
  omega
 ·obtain ⟨u1, u2, _, e1, _⟩ := h.bx v hv; cases e1
 ·obtain ⟨g1, g2, g, _, e1, _⟩ := h.bp v hv; cases e1
theorem MK2.bld (h : MK2 w0 n t1 cs tb v1 v2 none vp vq w) {u1 u2 : Value} (h1 : v1 = some u1) (h2 : v2 = some u2) : MK2 w0 n t1 cs tb v1 v2 (some (.agg #[u1, u2])) vp vq w :=
 ⟨h.below, h.r1, h.r2, h.ne, fun v hv => ⟨u1, u2, h1, h2, (Option.some.inj hv).symm⟩, h.bp, h.bq⟩
theorem MK2.box (h : MK2 w0 n t1 cs tb v1 v2 va none vq w) (hq : vq = none) {u1 u2 : Value} (h1 : v1 = some u1) (h2 : v2 = some u2) : MK2 w0 n t1 cs tb v1 v2 va (some (.pointer (some ⟨w.heap.size, 0, none⟩))) vq (w.alloc (.cells #[u1, u2] tb)) := by
 have hs := h.step (balloc w (.cells #[u1, u2] tb))
 obtain ⟨g1, e1, k1, B1⟩ := h.r1 _ h1
 obtain ⟨g2, e2, k2, B2⟩ := h.r2 _ h2
 have z1 := B1.lt
 have z2 := B2.lt
 refine ⟨hs.below, hs.r1, hs.r2, hs.ne, hs.bx, fun v hv => ⟨g1, g2, w.heap.size, h1.trans (congrArg some e1), h2.trans (congrArg some e2), (Option.some.inj hv).symm, h.below.size, by rw [← e1, ← e2]; exact Blk.new' rfl, by omega, by omega⟩, fun v hv => by rw [hq] at hv; cases hv⟩
theorem MK2.lay (h : MK2 w0 n t1 cs tb v1 v2 va vp none w) {v : Value} (hv : vp = some v) : MK2 w0 n t1 cs tb v1 v2 va vp (some v) w :=
 ⟨h.below, h.r1, h.r2, h.ne, h.bx, h.bp, fun u hu => by rw [← hu]; exact hv⟩
def MK2G (w0 : World) (n t1 : Nat) (cs : Array Value) (tb : Nat) : List (Option Value) → World → Prop
 | [v1, v2, va, vp, vq], w => MK2 w0 n t1 cs tb v1 v2 va vp vq w
 | _, _ => False
end
section
variable {P : Program} {ops : Array Oper}
structure CtxK2 (ops : Array Oper) (l : List (Bool × Value)) (chain : List Nat) (n : Fr) (K : Known) (w0 : World) (o : Oper) (a : Act) (w : World) : Prop where
 below : Below w0.heap.size w0 w
 kn : Kn n K a
 dep : ∀ j d, depB ops o j d = true → chain.contains j = false → valR1 l j (a.tmps.getD d undef)
/-- Each operation: one that yields what is listed (it may make memory); a new row; the value of both; the new box; the laying down. -/
def SoundK2 (P : Program) (ops : Array Oper) (Q : Exit → Act → World → Prop) (l : List (Bool × Value)) (f : Fr) (K : Known) (w0 : World) (n t1 : Nat) (cs : Array Value) (tb : Nat) (i1 i2 ib ip iq : Nat) : Nat → List Oper → Prop
 | _, [] => True
 | i, o :: r => (([i1, i2, ib, ip, iq].contains i = false ∧ o.guard = none ∧
    (∀ a w, CtxK2 ops l [i1, i2, ib, ip, iq] f K w0 o a w → o.wp P a w (fun a' w' => ∃ v, a' = Act.put a o.dst v ∧ Below w.heap.size w w' ∧ valR1 l i v) Q)) ∨
   ((i = i1 ∨ i = i2) ∧ o.guard = none ∧ ∀ a w, CtxK2 ops l [i1, i2, ib, ip, iq] f K w0 o a w → o.wp P a w (fun a' w' => a' = Act.put a o.dst (.slice (some ⟨w.heap.size, 0, none⟩) n n) ∧ w' = w.alloc (.cells cs t1)) Q) ∨
   (i = ib ∧ o.guard = none ∧ ∃ d1 d2, depB ops o i1 d1 = true ∧ depB ops o i2 d2 = true ∧ ∀ (a : Act) (w : World) g1 g2, a.tmps.getD d1 undef = .slice (some ⟨g1, 0, none⟩) n n → a.tmps.getD d2 undef = .slice (some ⟨g2, 0, none⟩) n n → o.wp P a w (fun a' w' => a' = Act.put a o.dst (.agg #[.slice (some ⟨g1, 0, none⟩) n n, .slice (some ⟨g2, 0, none⟩) n n]) ∧ w' = w) Q) ∨
   (i = ip ∧ o.guard = none ∧ afterB ops iq i = true ∧ ∃ d1, depB ops o ib d1 = true ∧ ∀ (a : Act) (w : World) u1 u2, a.tmps.getD d1 undef = .agg #[u1, u2] → o.wp P a w (fun a' w' => a' = Act.put a o.dst (.pointer (some ⟨w.heap.size, 0, none⟩)) ∧ w' = w.alloc (.cells #[u1, u2] tb)) Q) ∨
   (i = iq ∧ o.guard = none ∧ ∃ d1, depB ops o ip d1 = true ∧ ∀ (a : Act) (w : World), o.wp P a w (fun a' w' => a' = Act.put a o.dst (a.tmps.getD d1 undef) ∧ w' = w) Q)) ∧ SoundK2 P ops Q l f K w0 n t1 cs tb i1 i2 ib ip iq (i + 1) r
theorem SoundK2.gen {i1 i2 ib ip iq : Nat} {w0 : World} {n t1 tb : Nat} {cs : Array Value} {Q : Exit → Act → World → Prop} {l : List (Bool × Value)} {f : Fr} {K : Known} : ∀ {lo : List Oper} {i : Nat}, SoundK2 P ops Q l f K w0 n t1 cs tb i1 i2 ib ip iq i lo →
  SoundFromG P ops Q [i1, i2, ib, ip, iq] (fun i v _ => valR1 l i v) (fun _ _ => True) (MK2G w0 n t1 cs tb) f K i lo
 | [], _, _ => trivial
 | o :: r, i, ⟨h, hr⟩ => by
  refine ⟨?_, hr.gen⟩
  have mk : ∀ {a : Act} {w : World} {vs : List (Option Value)} (_ : CtxG ops [i1, i2, ib, ip, iq] (fun i v _ => valR1 l i v) (MK2G w0 n t1 cs tb) f K i o a w vs), CtxK2 ops l [i1, i2, ib, ip, iq] f K w0 o a w := by
   intro a w vs C
   refine ⟨?_, C.kn, C.dep⟩
   match vs, C.len, C.now with
   | [v1, v2, va, vp, vq], _, hG => exact MK2.below hG
  rcases h with ⟨h1, h2, h3⟩ | ⟨h0, h1, h2⟩ | ⟨rfl, h1, d1, d2, hd1, hd2, h2⟩ | ⟨rfl, h1, haf, d1, hd1, h2⟩ | ⟨rfl, h1, d1, hd1, h2⟩
  ·refine .inl ⟨h1, true, .none h2, fun g b hb => by (rw [h2] at hb; cases hb), fun e => (by cases e), fun _ a w vs C => ?_⟩
   refine Oper.wpIn_mono ?_ (wpIn_of (h3 a w (mk C)) (by rintro a' w' ⟨v, rfl, _⟩; exact put_defers _ _ _))
   rintro a' w' ⟨v, rfl, hb, hv⟩
   refine ⟨v, rfl, trivial, ?_, hv⟩
   match vs, C.len, C.now with
   | [v1, v2, va, vp, vq], _, hG => exact MK2.step hG hb
  ·rcases h0 with rfl | rfl
   ·refine .inr ⟨0, rfl, h1, fun a w vs C hn => ?_⟩
    refine Oper.wpIn_mono ?_ (wpIn_of (h2 a w (mk C)) (by rintro a' w' ⟨rfl, _⟩; exact put_defers _ _ _))
    rintro a' w' ⟨rfl, rfl⟩
    match vs, C.len, hn, C.now with
    | [v1, v2, va, vp, vq], _, hn, hG =>
     simp only [List.getElem?_cons_zero, Option.some.injEq] at hn
     subst hn
     exact ⟨_, rfl, trivial, MK2.mk1 hG⟩
   ·refine .inr ⟨1, rfl, h1, fun a w vs C hn => ?_⟩
    refine Oper.wpIn_mono ?_ (wpIn_of (h2 a w (mk C)) (by rintro a' w' ⟨rfl, _⟩; exact put_defers _ _ _))
    rintro a' w' ⟨rfl, rfl⟩
    match vs, C.len, hn, C.now with
    | [v1, v2, va, vp, vq], _, hn, hG =>
     simp only [List.getElem?_cons_zero, List.getElem?_cons_succ, Option.some.injEq] at hn
     subst hn
     exact ⟨_, rfl, trivial, MK2.mk2 hG⟩
  ·refine .inr ⟨2, rfl, h1, fun a w vs C hn => ?_⟩
   have e1 := C.link 0 i1 d1 rfl hd1
   have e2 := C.link 1 i2 d2 rfl hd2
   match vs, C.len, hn, e1, e2, C.now with
   | [v1, v2, va, vp, vq], _, hn, e1, e2, hG =>
    simp only [List.getElem?_cons_zero, List.getElem?_cons_succ, Option.some.injEq] at hn e1 e2
    subst hn
    have hG' : MK2 w0 n t1 cs tb v1 v2 none vp vq w := hG
    obtain ⟨g1, k1, _⟩ := hG'.r1 _ e1
    obtain ⟨g2, k2, _⟩ := hG'.r2 _ e2
    refine Oper.wpIn_mono ?_ (wpIn_of (h2 a w g1 g2 k1 k2) (by rintro a' w' ⟨rfl, _⟩; exact put_defers _ _ _))
    rintro a' w' ⟨rfl, rfl⟩
    exact ⟨_, rfl, trivial, hG'.bld (e1.trans (congrArg some k1)) (e2.trans (congrArg some k2))⟩
  ·refine .inr ⟨3, rfl, h1, fun a w vs C hn => ?_⟩
   have e1 := C.link 2 ib d1 rfl hd1
   have eq := C.most 4 iq rfl haf
   match vs, C.len, hn, e1, eq, C.now with
   | [v1, v2, va, vp, vq], _, hn, e1, eq, hG =>
    simp only [List.getElem?_cons_zero, List.getElem?_cons_succ, Option.some.injEq] at hn e1 eq
    subst hn
    have hG' : MK2 w0 n t1 cs tb v1 v2 va none vq w := hG
    obtain ⟨u1, u2, k1, k2, k3⟩ := hG'.bx _ e1
    refine Oper.wpIn_mono ?_ (wpIn_of (h2 a w u1 u2 k3) (by rintro a' w' ⟨rfl, _⟩; exact put_defers _ _ _))
    rintro a' w' ⟨rfl, rfl⟩
    exact ⟨_, rfl, trivial, hG'.box eq k1 k2⟩
  ·refine .inr ⟨4, rfl, h1, fun a w vs C hn => ?_⟩
   have e1 := C.link 3 ip d1 rfl hd1
   match vs, C.len, hn, e1, C.now with
   | [v1, v2, va, vp, vq], _, hn, e1, hG =>
    simp only [List.getElem?_cons_zero, List.getElem?_cons_succ, Option.some.injEq] at hn e1
    subst hn
    have hG' : MK2 w0 n t1 cs tb v1 v2 va vp none w := hG
    refine Oper.wpIn_mono ?_ (wpIn_of (h2 a w) (by rintro a' w' ⟨rfl, _⟩; exact put_defers _ _ _))
    rintro a' w' ⟨rfl, rfl⟩
    exact ⟨_, rfl, trivial, hG'.lay e1⟩
theorem WC.mk2 {rid : Nat} {dr : Bool} {Q : Exit → Act → World → Prop} {f : Fr} {K : Known} {w : World} (l : List (Bool × Value)) (K0 : Known) (n t1 : Nat) (cs : Array Value) (tb : Nat) (i1 i2 ib ip iq dq : Nat)
  (hd : ([i1, i2, ib, ip, iq]).Nodup) (hin : (([i1, i2, ib, ip, iq]).all fun c => Nat.blt c ops.size) = true) (hda : (ops[iq]?).bind (·.dst) = some dq)
  (hs : subK K0 K) (hclear : clearB ops K0 = true) (hm : P.follows .mixedOrders = true) (hB : opsB ops f.n = true)
  (h : SoundK2 P ops Q l f K0 w n t1 cs tb i1 i2 ib ip iq 0 ops.toList)
  (hQ : ∀ (a : Act) (w' : World) (g1 g2 g : Nat), Kn f K0 a → Below w.heap.size w w' → w.heap.size ≤ g1 → w.heap.size ≤ g2 → w.heap.size ≤ g → g1 ≠ g2 → g ≠ g1 → g ≠ g2 → Blk w' g1 t1 cs → Blk w' g2 t1 cs → Blk w' g tb #[.slice (some ⟨g1, 0, none⟩) n n, .slice (some ⟨g2, 0, none⟩) n n] → a.tmps.getD dq undef = .pointer (some ⟨g, 0, none⟩) → (∀ i d, (ops[i]?).bind (·.dst) = some d → ([i1, i2, ib, ip, iq]).contains i = false → valR1 l i (a.tmps.getD d undef)) → Q .normal a w') :
  WC P f K w (.region rid ops dr) Q := by
 refine WC.gen [i1, i2, ib, ip, iq] (fun i v _ => valR1 l i v) (fun _ _ => True) (MK2G w n t1 cs tb) K0 hs hclear hm hB hd hin (fun _ _ _ _ h _ => h) ?_ h.gen (fun a w' vs hk hlen hall hG hu hl => ?_)
 ·have st : ∀ w' : World, Below w.heap.size w w' → MK2 w n t1 cs tb none none none none none w' := fun w' hb => ⟨hb, fun _ hv => (by cases hv), fun _ hv => (by cases hv), fun _ _ hv => (by cases hv), fun v hv => (by cases hv), fun v hv => (by cases hv), fun v hv => (by cases hv)⟩
  cases dr with
  | true => exact st _ (Below.refl _ _).drew
  | false => exact st _ (Below.refl _ _)
 ·obtain ⟨v4, hv4⟩ := hall 4 (by simp)
  have ha := hl 4 iq dq rfl hda
  match vs, hlen, hv4, hG, ha with
  | [x1, x2, xa, xp, xq], _, hv4, hG, ha =>
   simp only [List.getElem?_cons_zero, List.getElem?_cons_succ, Option.some.injEq] at hv4 ha
   have hG' : MK2 w n t1 cs tb x1 x2 xa xp xq w' := hG
   obtain ⟨g1, g2, g, e1, e2, e3, h1, h2, h3, h4⟩ := hG'.bp _ (hG'.bq _ ha)
   obtain ⟨_, z1, k1, B1⟩ := hG'.r1 _ e1
   obtain ⟨_, z2, k2, B2⟩ := hG'.r2 _ e2
   simp only [Value.slice.injEq, Option.some.injEq, Addr.mk.injEq, and_true] at z1 z2
   subst z1 z2
   exact hQ a w' g1 g2 g hk hG'.below k1 k2 h1 (hG'.ne _ _ e1 e2) h3 h4 B1 B2 h2 e3 hu
end
end Go.Proofs.Ytibncmnmjhimeaa

/- All pairs are joined and measured: the document's program. -/
namespace Go.Proofs.Ytibncmnmjhimeaa
open Go.RowKit Go
set_option linter.unusedVariables false
set_option linter.unusedSimpArgs false
/-- The row of the variables' parts while it grows: none of them has one; its block is behind 'B', and not 'g'. -/
def VR (w : World) (B g : Nat) (a : Option Addr) (c n : Nat) : Prop := RowD eltI (fun _ => False) w 3 a c n (List.replicate n (-1)) ∧ ∀ b, obk a n c = some b → B ≤ b ∧ b ≠ g
theorem VR.below {w w' : World} {B g c n : Nat} {a : Option Addr} (h : VR w B g a c n) (hb : Below w.heap.size w w') : VR w' B g a c n := ⟨h.1.below hb, h.2⟩
theorem VR.upd {w w' : World} {B g c n q : Nat} {a : Option Addr} (h : VR w B g a c n) (hu : Upd q w w') (hq : q = g ∨ q < B) : VR w' B g a c n :=
 ⟨h.1.chg (Z := fun b => b = q) (.ofUpd hu rfl) (fun b e e2 => by have z := h.2 b e; have e3 : b = q := e2; omega) (fun b e => e.elim), h.2⟩
/-- What 'joined' tells of pairs that may be asked. -/
def JoinedV (w0 w : World) (l : List (T × T)) (v : Value) : Prop :=
 (SolveIs false l none ∧ v = .tuple #[.pointer none, .pointer none, .bool false]) ∨
 (∃ st κ g gm zb zc db dc ms, SolveGo false l l.length st κ ∧ AskOk st.N κ ms ∧ (∀ i, i < st.N.length → 0 < (mget ms (κ i)).sz) ∧ v = .tuple #[.pointer (some ⟨g, 0, none⟩), .pointer (some ⟨gm, 0, none⟩), .bool true] ∧ RXS w w0.heap.size g κ st.N st.V (fun b => b = zb ∨ b = db ∨ b = gm) ∧ RM w gm zb zc db dc ms)
set_option maxRecDepth 100000 in
theorem rjoined_any (l : List (T × T)) (w : World) (a : Option Addr) (c : Nat) (hl : IsPs w l a c) (hW : wideB l = true) :
  Calls Try.prog 32 #[.slice a l.length c] w (Ret fun v' w' => JoinedV w w' l v' ∧ Below w.heap.size w w') := by
 have h64 : l.length ≤ 64 := by unfold wideB at hW; rw [Bool.and_eq_true, decide_eq_true_eq] at hW; exact hW.1
 refine Calls.walk (l := [.slice a l.length c]) Try.func32 rfl (by kernel_rfl) ?_
 refine WC.sub (K' := [(0, .slice a l.length c)]) ⟨rfl, trivial⟩ ?_
 refine WC.seq (WC.region (WL.asg rfl rfl rfl rfl rfl (WL.asg rfl rfl rfl rfl rfl (WL.asg rfl rfl rfl rfl rfl (WL.nil (WE.next (WC.seq (WC.region ?_))))))))
 refine WL.val (.agg #[.slice none 0 0, .slice none 0 0, .slice none 0 0]) rfl rfl rfl (fun za zC zh zk => build_79_ rfl  zk) ?_
 refine WL.step (post := NewBlk w 79 #[.slice none 0 0, .slice none 0 0, .slice none 0 0]) rfl rfl rfl (fun za zC zh zk => box_79 rfl (zh.ev rfl) (zk _ _ (newBlk _ _ _))) ?_
 rintro _ w1 ⟨g2, rfl, hg3, hB4, hb5, hz6⟩
 have hl7 : w.heap.size ≤ g2 := by omega
 refine WL.asg rfl rfl rfl rfl rfl (WL.nil (WE.next (WC.seq (WC.seq (WC.region (WL.asg rfl rfl rfl rfl rfl (WL.nil (WE.next (WC.block ?_)))))))))
 have hgw : w.heap.size ≤ g2 := by omega
 have hv0 : VR w1 w.heap.size g2 none 0 0 := ⟨RowD.nil, fun b q => nomatch q⟩
 refine WC.loop (X := Nat × Option Addr × Nat) (fun q => 96 - q.1) (fun q => [(0, .slice a l.length c), (2, .pointer none), (3, .pointer none), (4, .bool false), (5, .pointer (some ⟨g2, 0, none⟩)), (6, .int .i64 (((q.1 : Nat) : Int)))]) (fun q w8 => q.1 ≤ 96 ∧ Below w.heap.size w w8 ∧ Blk w8 g2 79 #[.slice none 0 0, .slice none 0 0, .slice q.2.1 q.1 q.2.2] ∧ VR (w8) w.heap.size g2 q.2.1 q.2.2 q.1) ((0, none, 0)) ⟨rfl, rfl, rfl, rfl, rfl, rfl, trivial⟩ ?_ ?_
 ·exact ⟨Nat.zero_le _, hb5, hB4, hv0⟩
 ·rintro q w8 ⟨hq96, hb9, hB10, ho11⟩
  refine WC.seq (WC.seq (WC.region (WL.mv rfl rfl rfl rfl rfl ?_)))
  refine WL.val (.bool ((decide ((((q.1 : Nat) : Int) : Int) < (96 : Int))))) rfl rfl rfl (fun za zC zh zk => lss_3 rfl (zh.ev rfl) (zh.ev rfl) zk) ?_
  refine WL.nil (WE.next ?_)
  refine WC.cond rfl (fun h12 => ?_) (fun h12 => ?_)
  ·have h12 : (((q.1 : Nat) : Int) : Int) < (96 : Int) := by simpa using h12
   refine WC.skip (WE.next (WC.seq (WC.block (WC.region (WL.mv rfl rfl rfl rfl rfl (WL.mv rfl rfl rfl rfl rfl ?_))))))
   refine WL.val _ rfl rfl rfl (fun za zC zh zk => nilCheck_ rfl (zh.ev rfl) zk) ?_
   refine WL.val _ rfl rfl rfl (fun za zC zh zk => fld_79_2 rfl (zh.ev rfl) zk) ?_
   refine WL.val _ rfl rfl rfl (fun za zC zh zk => ld_31 rfl (zh.ev rfl) ((hB10.cell 2).trans rfl) zk) ?_
   refine WL.step (post := NewRow w8 3 #[.int .i64 ((-1))] 1) rfl rfl rfl (fun za zC zh zk => row_31_1 rfl (zh.ev rfl) (zk _ _ (newRow _ _ _ _))) ?_
   rintro _ w13 ⟨g14, rfl, hg15, hB16, hb17, hz18⟩
   have hl19 : g2 < g14 := by have z1 := hB10.lt; omega
   have hl20 : w.heap.size ≤ g14 := by have z2 := (hb9).size; omega
   have hl21 : w8.heap.size ≤ g14 := by omega
   have hB22 := hB10.below hb17
   have ho23 := ho11.below hb17
   have hb25 : Below w.heap.size w w13 := (bstep hb9 hb17)
   have hb24 : Below w.heap.size w w13 := hb25
   have hsz5 := hb24.size
   refine WL.step (post := fun v w' => ∃ ra rc, v = .slice ra (q.1 + 1) rc ∧ RowD eltI (fun _ => False) w' 3 ra rc (q.1 + 1) (List.replicate (q.1 + 1) (-1)) ∧ Chg (fun b => obk q.2.1 q.1 q.2.2 = some b) w13 w' ∧ ∀ b, obk ra ((q.1 + 1)) rc = some b → w.heap.size ≤ b ∧ b ≠ g2) rfl rfl rfl (fun za zC zh zk => wp_appD (E := eltI) (S2 := fun _ => False) (y := (-1 : Int)) (size := 1) (bytes := 8) (z := .int .i64 0) rfl Try.underlying31 (by kernel_rfl) rfl (by decide) rfl (zh.ev rfl) (zh.ev rfl) ho23.1 hB16 rfl (fun b q => q.elim) (by omega) (by omega) (fun ra rc w' h1 h2 h3 => zk _ _ ⟨ra, rc, rfl, by rw [List.replicate_succ']; exact h1.mono (fun b q _ => by rcases q.1 with q | q <;> exact q) (fun b q => q.elim), h2, fun b e => by rcases h3 b e with z | z; exact ho11.2 b z; (have z2 := hB22.lt; exact ⟨by omega, by omega⟩)⟩)) ?_
   rintro _ w26 ⟨ra27, rc28, rfl, hv29, hc30, ho31⟩
   have hb32 := chg_below hb24 hc30 (fun b hb e => by have z := (ho11.2 b e).1; omega)
   have hB33 := chg_blk hB22 hc30 (fun e => (ho11.2 _ e).2 rfl)
   have hv34 : VR w26 w.heap.size g2 ra27 rc28 ((q.1 + 1)) := ⟨hv29, ho31⟩
   refine WL.val _ rfl rfl rfl (fun za zC zh zk => nilCheck_ rfl (zh.ev rfl) zk) ?_
   refine WL.val _ rfl rfl rfl (fun za zC zh zk => fld_79_2 rfl (zh.ev rfl) zk) ?_
   refine WL.step (post := fun _ w' => Upd g2 w26 w' ∧ Blk w' g2 79 #[.slice none 0 0, .slice none 0 0, .slice ra27 ((q.1 + 1)) rc28]) rfl rfl rfl (fun za zC zh zk => st_31 rfl (zh.ev rfl) (zh.ev rfl) hB33 (by first | decide | simp) (fun v => zk v _ ⟨Upd.at_ _ _ _ _, hB33.set_ 2 _⟩)) ?_
   rintro v38 w35 ⟨hu36, hB37⟩
   have hb39 := upd_below hb32 hu36 (by omega)
   have ho40 := hv34.upd hu36 (by omega)
   refine WL.nil (WE.blockNormal (WE.next (WC.region (WL.mv rfl rfl rfl rfl rfl ?_))))
   refine WL.val (.int .i64 ((((q.1 + 1) : Nat) : Int))) rfl rfl rfl (fun za zC zh zk => addb_3 rfl (zh.ev rfl) (zh.ev rfl) (wrap_eq (by omega) (by omega) (by omega)) zk) ?_
   refine WL.asg rfl rfl rfl rfl rfl (WL.nil ?_)
   refine WE.round ((q.1 + 1, ra27, rc28)) ⟨rfl, rfl, rfl, rfl, rfl, rfl, trivial⟩ ?_ ?_
   ·exact ⟨(by (try dsimp only); omega), hb39, hB37, ho40⟩
   ·(try dsimp only); omega
  ·have h12 : ¬ ((((q.1 : Nat) : Int) : Int) < (96 : Int)) := by simpa using h12
   refine WC.exit (WE.thenExit (WE.thenExit (WE.blockIs rfl (WE.next (WC.seq (WC.seq (WC.region (WL.asg rfl rfl rfl rfl rfl (WL.nil (WE.next (WC.block ?_)))))))))))
   have hq9 : q.1 = 96 := by omega
   have hV9 := ho11
   rw [hq9] at hV9
   obtain ⟨vb, hvb, hov, hVB⟩ := hV9.1.vb (fun x hx => List.eq_of_mem_replicate hx)
   have hBg9 := hB10
   rw [hq9, hvb] at hBg9
   have hvg := hV9.2 vb hov
   have hN1 : RXS w8 w.heap.size g2 id ([]) ((fun _ => 0)) (fun _ => False) := ⟨fun b => b = g2 ∨ b = vb, [], fun _ => 0, fun b e => ⟨by rcases e with e | e; (rw [e]; exact hgw); (rw [e]; exact hvg.1), id⟩, reps0, RX.new hBg9 hVB hvg.2⟩
   have hwd := (wide_at h64).1 hW
   refine WC.loop (X := SS) (fun x => l.length - x.k) (fun x => [(0, .slice a l.length c), (5, .pointer (some ⟨g2, 0, none⟩)), (6, .int .i64 (((q.1 : Nat) : Int))), (7, .int .i64 (((x.k : Nat) : Int))), (15, .bool ((decide ((((q.1 : Nat) : Int) : Int) < (96 : Int)))))]) (fun x w41 => x.k ≤ l.length ∧ SolveGo false l x.k x.st x.κ ∧ Below w.heap.size w w41 ∧ RXS (w41) w.heap.size g2 x.κ x.st.N x.st.V (fun _ => False)) (⟨0, ⟨[], fun _ => 0⟩, id⟩) ⟨rfl, rfl, rfl, rfl, rfl, trivial⟩ ?_ ?_
   ·exact ⟨Nat.zero_le _, SolveGo.start false l, hb9, hN1⟩
   ·rintro x w41 ⟨hkx, hgo, hb42, ho43⟩
    refine WC.seq (WC.seq (WC.region (WL.mv rfl rfl rfl rfl rfl (WL.mv rfl rfl rfl rfl rfl ?_))))
    refine WL.val (.int .i64 (((l.length : Nat) : Int))) rfl rfl rfl (fun za zC zh zk => len_58 rfl (zh.ev rfl) zk) ?_
    refine WL.val (.bool ((decide ((((x.k : Nat) : Int) : Int) < (((l.length : Nat) : Int) : Int))))) rfl rfl rfl (fun za zC zh zk => lss_3 rfl (zh.ev rfl) (zh.ev rfl) zk) ?_
    refine WL.nil (WE.next ?_)
    refine WC.cond rfl (fun h44 => ?_) (fun h44 => ?_)
    ·have h44 : (((x.k : Nat) : Int) : Int) < (((l.length : Nat) : Int) : Int) := by simpa using h44
     refine WC.skip (WE.next (WC.seq (WC.block (WC.seq ?_))))
     obtain ⟨b45, o46, A47, C48, D49, E50, ha51, hc52⟩ := IsPs.open hl
     have hkl : x.k < l.length := by omega
     obtain ⟨hs1, hs2⟩ := hwd x.k hkl
     obtain ⟨hz1, hw1⟩ := small_low hs1
     obtain ⟨hz2, hw2⟩ := small_low hs2
     have hput := hgo.put hkl hz1 hz2 (IsT.sy (hc52 x.k (by first | omega | (simp; omega))).2.2.2.2.1) (IsT.sy (hc52 x.k (by first | omega | (simp; omega))).2.2.2.2.2)
     have hl0 := hgo.len
     have hl1 := hput.len1
     have hl2 := hput.len2
     have hg2 := hput.arg2
     have hle1 := hput.le
     have hb53 : Below w.heap.size w w41 := hb42
     have hsz9 := hb53.size
     have hGV9 : ∀ (vals : List Value) (wa wb : World), Below wa.heap.size wa wb → (fun vals wz => match vals with | [] => RXS wz w.heap.size g2 x.κ x.st.N x.st.V (fun _ => False) | [_] => RXS wz w.heap.size g2 x.κ (((prget l x.k).1.put x.st).1.N) (((prget l x.k).1.put x.st).1.V) (fun _ => False) | [_, _] => RXS wz w.heap.size g2 x.κ (((prget l x.k).2.put ((prget l x.k).1.put x.st).1).1.N) (((prget l x.k).2.put ((prget l x.k).1.put x.st).1).1.V) (fun _ => False) | _ => False) vals wa → (fun vals wz => match vals with | [] => RXS wz w.heap.size g2 x.κ x.st.N x.st.V (fun _ => False) | [_] => RXS wz w.heap.size g2 x.κ (((prget l x.k).1.put x.st).1.N) (((prget l x.k).1.put x.st).1.V) (fun _ => False) | [_, _] => RXS wz w.heap.size g2 x.κ (((prget l x.k).2.put ((prget l x.k).1.put x.st).1).1.N) (((prget l x.k).2.put ((prget l x.k).1.put x.st).1).1.V) (fun _ => False) | _ => False) vals wb := by
      intro vals wa wb hb h
      match vals, h with
      | [], h => exact RXS.below h hb
      | [_], h => exact RXS.below h hb
      | [_, _], h => exact RXS.below h hb
     refine WC.seqV (S := ((fun b => w.heap.size ≤ b))) [(true, .val (.pointer (some ⟨g2, 0, none⟩))), (true, .val (.slice a l.length c)), (true, .val (.int .i64 (((x.k : Nat) : Int)))), (true, .val (.pointer (some ⟨b45, o46 + x.k * 4, none⟩))), (true, .val (.pointer (some ⟨b45, o46 + x.k * 4, none⟩))), (true, .val (.agg #[.int .i64 ((prget l x.k).1.f), .slice ((A47 x.k)) ((prget l x.k).1.args.length) ((C48 x.k))])), (true, .val undef), (true, .val (.pointer (some ⟨g2, 0, none⟩))), (true, .val (.slice a l.length c)), (true, .val (.int .i64 (((x.k : Nat) : Int)))), (true, .val (.pointer (some ⟨b45, o46 + x.k * 4, none⟩))), (true, .val (.pointer (some ⟨b45, o46 + x.k * 4 + 2, none⟩))), (true, .val (.agg #[.int .i64 ((prget l x.k).2.f), .slice ((D49 x.k)) ((prget l x.k).2.args.length) ((E50 x.k))])), (true, .val undef), (true, .val (.int .i64 (((((prget l x.k).1.put x.st).2 : Nat) : Int)))), (true, .val (.int .i64 (((((prget l x.k).2.put ((prget l x.k).1.put x.st).1).2 : Nat) : Int))))] [(0, .slice a l.length c), (5, .pointer (some ⟨g2, 0, none⟩)), (6, .int .i64 (((q.1 : Nat) : Int))), (7, .int .i64 (((x.k : Nat) : Int))), (15, .bool ((decide ((((q.1 : Nat) : Int) : Int) < (96 : Int))))), (30, .bool ((decide ((((x.k : Nat) : Int) : Int) < (((l.length : Nat) : Int) : Int)))))] [6, 13] [some (true, .int .i64 (((((prget l x.k).1.put x.st).2 : Nat) : Int))), some (true, .int .i64 (((((prget l x.k).2.put ((prget l x.k).1.put x.st).1).2 : Nat) : Int)))] (fun vals wz => match vals with | [] => RXS wz w.heap.size g2 x.κ x.st.N x.st.V (fun _ => False) | [_] => RXS wz w.heap.size g2 x.κ (((prget l x.k).1.put x.st).1.N) (((prget l x.k).1.put x.st).1.V) (fun _ => False) | [_, _] => RXS wz w.heap.size g2 x.κ (((prget l x.k).2.put ((prget l x.k).1.put x.st).1).1.N) (((prget l x.k).2.put ((prget l x.k).1.put x.st).1).1.V) (fun _ => False) | _ => False) hGV9 (by decide) ⟨rfl, rfl, rfl, rfl, rfl, rfl, trivial⟩ (by kernel_rfl) (by kernel_rfl) (by kernel_rfl) (by kernel_rfl) ho43 ?_ ?_
     ·refine ⟨.inl ⟨rfl, true, .none rfl, (fun gg b h => by cases h), fun h w => optUndef h, fun zβ za zw zc => ?_⟩, ?_⟩
      ·exact wp_move rfl (zc.kn.ev rfl) ⟨_, rfl, Below.refl _ _, optDef zβ rfl⟩
      refine ⟨.inl ⟨rfl, true, .none rfl, (fun gg b h => by cases h), fun h w => optUndef h, fun zβ za zw zc => ?_⟩, ?_⟩
      ·exact wp_move rfl (zc.kn.ev rfl) ⟨_, rfl, Below.refl _ _, optDef zβ rfl⟩
      refine ⟨.inl ⟨rfl, true, .none rfl, (fun gg b h => by cases h), fun h w => optUndef h, fun zβ za zw zc => ?_⟩, ?_⟩
      ·exact wp_move rfl (zc.kn.ev rfl) ⟨_, rfl, Below.refl _ _, optDef zβ rfl⟩
      refine ⟨.inl ⟨rfl, true, .none rfl, (fun gg b h => by cases h), fun h w => optUndef h, fun zβ za zw zc => ?_⟩, ?_⟩
      ·exact ix_58 (k := x.k) rfl ((evt za 34).trans (optSVal (zc.dep 1 34 (by kernel_rfl) (by decide)) rfl rfl)) (ha51 x.k (by first | omega | (simp; omega))) ((evt za 35).trans (optSVal (zc.dep 2 35 (by kernel_rfl) (by decide)) rfl rfl)) (by first | omega | (simp; omega)) ⟨_, rfl, Below.refl _ _, optDef zβ rfl⟩
      refine ⟨.inl ⟨rfl, true, .none rfl, (fun gg b h => by cases h), fun h w => optUndef h, fun zβ za zw zc => ?_⟩, ?_⟩
      ·exact ixa_57 (k := 0) rfl ((evt za 36).trans (optSVal (zc.dep 3 36 (by kernel_rfl) (by decide)) rfl rfl)) (zc.kn.ev rfl) (by decide) ⟨_, rfl, Below.refl _ _, optDef zβ rfl⟩
      refine ⟨.inl ⟨rfl, true, .none rfl, (fun gg b h => by cases h), fun h w => optUndef h, fun zβ za zw zc => ?_⟩, ?_⟩
      ·exact ld_24 rfl ((evt za 37).trans (optSVal (zc.dep 4 37 (by kernel_rfl) (by decide)) rfl rfl)) (chg_old hb42 zc.chg (fun b hb => by (try dsimp only at *); omega) (hc52 x.k (by first | omega | (simp; omega))).1) (chg_old hb42 zc.chg (fun b hb => by (try dsimp only at *); omega) (hc52 x.k (by first | omega | (simp; omega))).2.1) ⟨_, rfl, Below.refl _ _, optDef zβ rfl⟩
      refine ⟨.inr ⟨0, rfl, by kernel_rfl, true, .none rfl, (fun gg b h => by cases h), (fun h => (nomatch h)), fun zβ za zw zvals zc => ?_⟩, ?_⟩
      ·obtain rfl := vlen0 zc.len
       have zn := zc.now
       obtain ⟨Z, U, d, k1, k2, k3⟩ := zn
       have hbz := chg_below hb53 zc.chg (fun b hb h9 => by (try dsimp only at h9); omega)
       exact wp_call (by kernel_rfl) rfl (hv2 ((evt za 33).trans (optSVal (zc.dep 0 33 (by kernel_rfl) (by decide)) rfl rfl)) ((evt za 38).trans (optSVal (zc.dep 5 38 (by kernel_rfl) (by decide)) rfl rfl))) (radd_any w x.κ d g2 (prget l x.k).1 x.st U Z _ _ hgo.ok k3 k2 hgo.cl.ok.big (by omega) hw1 hbz (fun b q => (k1 b q).1) (hc52 x.k (by first | omega | (simp; omega))).2.2.2.2.1) (fun v w' h => by obtain ⟨m1, ⟨U2, Z2, m2, m3, m4, _⟩, m6⟩ := h; exact ⟨v, rfl, m6.mono (fun b q => (k1 b q).1), ⟨Z2, U2, d, fun b q => ⟨by rcases m4 b q with z | z; exact (k1 b z).1; (have z2 := hbz.size; omega), id⟩, m2, m3⟩, cvIs m1⟩)
      refine ⟨.inl ⟨rfl, true, .none rfl, (fun gg b h => by cases h), fun h w => optUndef h, fun zβ za zw zc => ?_⟩, ?_⟩
      ·exact wp_move rfl (zc.kn.ev rfl) ⟨_, rfl, Below.refl _ _, optDef zβ rfl⟩
      refine ⟨.inl ⟨rfl, true, .none rfl, (fun gg b h => by cases h), fun h w => optUndef h, fun zβ za zw zc => ?_⟩, ?_⟩
      ·exact wp_move rfl (zc.kn.ev rfl) ⟨_, rfl, Below.refl _ _, optDef zβ rfl⟩
      refine ⟨.inl ⟨rfl, true, .none rfl, (fun gg b h => by cases h), fun h w => optUndef h, fun zβ za zw zc => ?_⟩, ?_⟩
      ·exact wp_move rfl (zc.kn.ev rfl) ⟨_, rfl, Below.refl _ _, optDef zβ rfl⟩
      refine ⟨.inl ⟨rfl, true, .none rfl, (fun gg b h => by cases h), fun h w => optUndef h, fun zβ za zw zc => ?_⟩, ?_⟩
      ·exact ix_58 (k := x.k) rfl ((evt za 41).trans (optSVal (zc.dep 8 41 (by kernel_rfl) (by decide)) rfl rfl)) (ha51 x.k (by first | omega | (simp; omega))) ((evt za 42).trans (optSVal (zc.dep 9 42 (by kernel_rfl) (by decide)) rfl rfl)) (by first | omega | (simp; omega)) ⟨_, rfl, Below.refl _ _, optDef zβ rfl⟩
      refine ⟨.inl ⟨rfl, true, .none rfl, (fun gg b h => by cases h), fun h w => optUndef h, fun zβ za zw zc => ?_⟩, ?_⟩
      ·exact ixa_57 (k := 1) rfl ((evt za 43).trans (optSVal (zc.dep 10 43 (by kernel_rfl) (by decide)) rfl rfl)) (zc.kn.ev rfl) (by decide) ⟨_, rfl, Below.refl _ _, optDef zβ rfl⟩
      refine ⟨.inl ⟨rfl, true, .none rfl, (fun gg b h => by cases h), fun h w => optUndef h, fun zβ za zw zc => ?_⟩, ?_⟩
      ·exact ld_24 rfl ((evt za 44).trans (optSVal (zc.dep 11 44 (by kernel_rfl) (by decide)) rfl rfl)) (chg_old hb42 zc.chg (fun b hb => by (try dsimp only at *); omega) (hc52 x.k (by first | omega | (simp; omega))).2.2.1) (chg_old hb42 zc.chg (fun b hb => by (try dsimp only at *); omega) (hc52 x.k (by first | omega | (simp; omega))).2.2.2.1) ⟨_, rfl, Below.refl _ _, optDef zβ rfl⟩
      refine ⟨.inr ⟨1, rfl, by kernel_rfl, true, .none rfl, (fun gg b h => by cases h), (fun h => (nomatch h)), fun zβ za zw zvals zc => ?_⟩, ?_⟩
      ·obtain ⟨z0, rfl⟩ := vlen1 zc.len
       have zn := zc.now
       obtain ⟨Z, U, d, k1, k2, k3⟩ := zn
       have hbz := chg_below hb53 zc.chg (fun b hb h9 => by (try dsimp only at h9); omega)
       exact wp_call (by kernel_rfl) rfl (hv2 ((evt za 40).trans (optSVal (zc.dep 7 40 (by kernel_rfl) (by decide)) rfl rfl)) ((evt za 45).trans (optSVal (zc.dep 12 45 (by kernel_rfl) (by decide)) rfl rfl))) (radd_any w x.κ d g2 (prget l x.k).2 ((prget l x.k).1.put x.st).1 U Z _ _ hput.ok1 k3 k2 (fun i hi9 => hgo.cl.ok.big i (by omega)) (by omega) hw2 hbz (fun b q => (k1 b q).1) (hc52 x.k (by first | omega | (simp; omega))).2.2.2.2.2) (fun v w' h => by obtain ⟨m1, ⟨U2, Z2, m2, m3, m4, _⟩, m6⟩ := h; exact ⟨v, rfl, m6.mono (fun b q => (k1 b q).1), ⟨Z2, U2, d, fun b q => ⟨by rcases m4 b q with z | z; exact (k1 b z).1; (have z2 := hbz.size; omega), id⟩, m2, m3⟩, cvIs m1⟩)
      refine ⟨.inl ⟨rfl, true, .none rfl, (fun gg b h => by cases h), fun h w => optUndef h, fun zβ za zw zc => ?_⟩, ?_⟩
      ·exact wp_assign rfl ((evt za 39).trans (zc.link 0 6 39 _ _ rfl (by kernel_rfl) rfl rfl)) ⟨_, rfl, Below.refl _ _, optDef zβ rfl⟩
      refine ⟨.inl ⟨rfl, true, .none rfl, (fun gg b h => by cases h), fun h w => optUndef h, fun zβ za zw zc => ?_⟩, ?_⟩
      ·exact wp_assign rfl ((evt za 46).trans (zc.link 1 13 46 _ _ rfl (by kernel_rfl) rfl rfl)) ⟨_, rfl, Below.refl _ _, optDef zβ rfl⟩
      exact trivial
     ·intro za w54 zvals zh zl hG55 hc56 zu zw zk
      obtain ⟨z0, z1, rfl⟩ := vlen2 zl
      have zh := zh.cons (d := 8) (v := .int .i64 (((((prget l x.k).1.put x.st).2 : Nat) : Int))) (optSVal (zu 14 8 (by kernel_rfl) (by decide)) rfl rfl)
      have zh := zh.cons (d := 9) (v := .int .i64 (((((prget l x.k).2.put ((prget l x.k).1.put x.st).1).2 : Nat) : Int))) (optSVal (zu 15 9 (by kernel_rfl) (by decide)) rfl rfl)
      have hb57 := chg_below hb53 hc56 (fun b hb h9 => by (try dsimp only at h9); omega)
      clear zu zw zk
      refine WE.go zh ?_
      refine WE.next (WC.seq (WC.region (WL.mv rfl rfl rfl rfl rfl (WL.mv rfl rfl rfl rfl rfl (WL.mv rfl rfl rfl rfl rfl ?_)))))
      obtain ⟨Z8, U8, d8, hZ8, hR8, S8, la8, lc8, ua8, uc8, vb8, vc8, hP8, hU8, hPZ8, hZl8⟩ := hG55
      have hi8 := hput.hi
      obtain ⟨ub8, rfl⟩ := hP8.ub (by omega)
      have hub9 := (hZ8 ub8 (hPZ8 ub8 (.inr (.inr (.inr (.inl rfl)))))).1
      have hb62 : Below w.heap.size w w54 := hb57
      have hP8b := hP8
      rw [hU8] at hP8b
      refine WL.call rfl rfl rfl (fun za zh zC => wp_call (by kernel_rfl) rfl (hv3 (zh.ev rfl) (zh.ev rfl) (zh.ev rfl))) (rjoin_any ((prget l x.k).2.put ((prget l x.k).1.put x.st).1).1.N ((prget l x.k).2.put ((prget l x.k).1.put x.st).1).1.V g2 S8 la8 lc8 ub8 uc8 vb8 vc8 hput.ok2.args (by omega) (by omega) _ x.κ d8 U8 ((prget l x.k).1.put x.st).2 ((prget l x.k).2.put ((prget l x.k).1.put x.st).1).2 _ (Nat.le_refl _) hput.cl.ok hR8 hP8b hU8 hput.hi hput.hj) ?_
      rintro _ w63 ⟨oo58, hrun59, rfl, hc60, hNo61⟩
      have hb64 := chg_below hb62 hc60 (fun b hb h9 => by (try dsimp only at h9); omega)
      refine WL.val (.bool (!oo58.isSome)) rfl rfl rfl (fun za zC zh zk => wp_not rfl (zh.ev rfl) zk) ?_
      refine WL.nil (WE.next ?_)
      refine WC.cond rfl (fun h65 => ?_) (fun h65 => ?_)
      ·skip
       have hoo : oo58 = none := by cases oo58 with | none => rfl | some q => simp at h65
       refine WC.seq (WC.region (WL.asg rfl rfl rfl rfl rfl (WL.asg rfl rfl rfl rfl rfl (WL.asg rfl rfl rfl rfl rfl (WL.nil (WE.next (WC.ret (WE.blockRet (WE.thenRet (WE.thenRet (WE.blockRet (WE.thenRet ?_))))))))))))
       refine WE.retAny (v := .tuple #[.pointer none, .pointer none, .bool false]) (fun za zh => ?_) ?_
       ·have z0 : za.tmps[2]?.getD undef = .pointer none := by rw [← Array.getD_eq_getD_getElem?]; exact zh.knows 2 _ rfl
        have z1 : za.tmps[3]?.getD undef = .pointer none := by rw [← Array.getD_eq_getD_getElem?]; exact zh.knows 3 _ rfl
        have z2 : za.tmps[4]?.getD undef = .bool false := by rw [← Array.getD_eq_getD_getElem?]; exact zh.knows 4 _ rfl
        simp [results, Try.results32, z0, z1, z2, go_sem]
       ·exact ⟨_, rfl, .inl ⟨.clash (hput.no (hoo ▸ hrun59)), rfl⟩, hb64⟩
      ·skip
       obtain ⟨κ9, rfl⟩ : ∃ q, oo58 = some q := by cases oo58 with | none => simp at h65 | some q => exact ⟨q, rfl⟩
       obtain ⟨U9, d9, hR9, hP9, hU9⟩ := hNo61 κ9 rfl
       have hgo9 := hput.yes κ9 hrun59
       have hN9 : RXS w63 w.heap.size g2 κ9 (((prget l x.k).2.put ((prget l x.k).1.put x.st).1).1.N) (((prget l x.k).2.put ((prget l x.k).1.put x.st).1).1.V) (fun _ => False) := ⟨Z8, U9, d9, hZ8, hR9, S8, la8, lc8, _, uc8, vb8, vc8, by rw [hU9]; exact hP9, hU9, by rw [show U9.length = U8.length from hU9.trans hU8.symm]; exact hPZ8, fun b q => Nat.lt_of_lt_of_le (hZl8 b q) hc60.size⟩
       refine WC.skip (WE.blockNormal (WE.next (WC.region (WL.mv rfl rfl rfl rfl rfl ?_))))
       refine WL.val (.int .i64 ((((x.k + 1) : Nat) : Int))) rfl rfl rfl (fun za zC zh zk => addb_3 rfl (zh.ev rfl) (zh.ev rfl) (wrap_eq (by omega) (by omega) (by omega)) zk) ?_
       refine WL.asg rfl rfl rfl rfl rfl (WL.nil ?_)
       refine WE.round (⟨x.k + 1, ((prget l x.k).2.put ((prget l x.k).1.put x.st).1).1, κ9⟩) ⟨rfl, rfl, rfl, rfl, rfl, trivial⟩ ?_ ?_
       ·exact ⟨(by (try dsimp only); omega), hgo9, hb64, hN9⟩
       ·(try dsimp only); omega
    ·have h44 : ¬ ((((x.k : Nat) : Int) : Int) < (((l.length : Nat) : Int) : Int)) := by simpa using h44
     refine WC.exit (WE.thenExit (WE.thenExit (WE.blockIs rfl (WE.next (WC.seq ?_)))))
     have hxk : x.k = l.length := by omega
     have hln := hgo.len
     have hag := hgo.arg
     obtain ⟨Zo66, Uo66, do66, hZo66, hRo66, So66, lao66, lco66, uao66, uco66, vbo66, vco66, hPo66, hUo66, hPZo66, hZlo66⟩ := id ho43
     refine WC.mk2 [(true, .pointer (some ⟨g2, 0, none⟩)), (true, .pointer (some ⟨g2, 0, none⟩)), (true, .pointer (some ⟨g2, 0, none⟩)), (true, .slice lao66 x.st.N.length lco66), (true, .int .i64 (((x.st.N.length : Nat) : Int))), (true, undef), (true, .pointer (some ⟨g2, 0, none⟩)), (true, .pointer (some ⟨g2, 0, none⟩)), (true, .pointer (some ⟨g2, 0, none⟩)), (true, .slice lao66 x.st.N.length lco66), (true, .int .i64 (((x.st.N.length : Nat) : Int))), (true, undef), (true, undef), (true, undef), (true, undef)] [(0, .slice a l.length c), (5, .pointer (some ⟨g2, 0, none⟩)), (6, .int .i64 (((q.1 : Nat) : Int))), (7, .int .i64 (((x.k : Nat) : Int))), (15, .bool ((decide ((((q.1 : Nat) : Int) : Int) < (96 : Int))))), (30, .bool ((decide ((((x.k : Nat) : Int) : Int) < (((l.length : Nat) : Int) : Int)))))] x.st.N.length 3 (madeCells (Value.cells (.int .i64 0)) (x.st.N.length * 1)) 81 5 11 12 13 14 10 (by decide) (by kernel_rfl) rfl ⟨rfl, rfl, rfl, rfl, rfl, rfl, trivial⟩ (by kernel_rfl) (by kernel_rfl) (by kernel_rfl) ?_ ?_
     ·refine ⟨.inl ⟨rfl, rfl, fun za zw zc => ?_⟩, ?_⟩
      ·exact wp_move rfl (zc.kn.ev rfl) ⟨_, rfl, Below.refl _ _, fun _ => rfl⟩
      refine ⟨.inl ⟨rfl, rfl, fun za zw zc => ?_⟩, ?_⟩
      ·exact nilCheck_ rfl ((evt za 52).trans (valVal1 (zc.dep 0 52 (by kernel_rfl) (by decide)) rfl rfl)) ⟨_, rfl, Below.refl _ _, fun _ => rfl⟩
      refine ⟨.inl ⟨rfl, rfl, fun za zw zc => ?_⟩, ?_⟩
      ·exact fld_79_0 rfl ((evt za 53).trans (valVal1 (zc.dep 1 53 (by kernel_rfl) (by decide)) rfl rfl)) ⟨_, rfl, Below.refl _ _, fun _ => rfl⟩
      refine ⟨.inl ⟨rfl, rfl, fun za zw zc => ?_⟩, ?_⟩
      ·exact ld_77 rfl ((evt za 54).trans (valVal1 (zc.dep 2 54 (by kernel_rfl) (by decide)) rfl rfl)) (bkeeps zc.below _ _ hPo66.c0) ⟨_, rfl, Below.refl _ _, fun _ => rfl⟩
      refine ⟨.inl ⟨rfl, rfl, fun za zw zc => ?_⟩, ?_⟩
      ·exact len_77 rfl ((evt za 55).trans (valVal1 (zc.dep 3 55 (by kernel_rfl) (by decide)) rfl rfl)) ⟨_, rfl, Below.refl _ _, fun _ => rfl⟩
      refine ⟨.inr (.inl ⟨.inl rfl, rfl, fun za zw zc => ?_⟩), ?_⟩
      ·exact wp_mkE (z := .int .i64 0) (size := 1) (bytes := 8) Try.underlying31 (by kernel_rfl) (by decide) rfl ((evt za 56).trans (valVal1 (zc.dep 4 56 (by kernel_rfl) (by decide)) rfl rfl)) ((evt za 56).trans (valVal1 (zc.dep 4 56 (by kernel_rfl) (by decide)) rfl rfl)) (by omega) ⟨rfl, rfl⟩
      refine ⟨.inl ⟨rfl, rfl, fun za zw zc => ?_⟩, ?_⟩
      ·exact wp_move rfl (zc.kn.ev rfl) ⟨_, rfl, Below.refl _ _, fun _ => rfl⟩
      refine ⟨.inl ⟨rfl, rfl, fun za zw zc => ?_⟩, ?_⟩
      ·exact nilCheck_ rfl ((evt za 58).trans (valVal1 (zc.dep 6 58 (by kernel_rfl) (by decide)) rfl rfl)) ⟨_, rfl, Below.refl _ _, fun _ => rfl⟩
      refine ⟨.inl ⟨rfl, rfl, fun za zw zc => ?_⟩, ?_⟩
      ·exact fld_79_0 rfl ((evt za 59).trans (valVal1 (zc.dep 7 59 (by kernel_rfl) (by decide)) rfl rfl)) ⟨_, rfl, Below.refl _ _, fun _ => rfl⟩
      refine ⟨.inl ⟨rfl, rfl, fun za zw zc => ?_⟩, ?_⟩
      ·exact ld_77 rfl ((evt za 60).trans (valVal1 (zc.dep 8 60 (by kernel_rfl) (by decide)) rfl rfl)) (bkeeps zc.below _ _ hPo66.c0) ⟨_, rfl, Below.refl _ _, fun _ => rfl⟩
      refine ⟨.inl ⟨rfl, rfl, fun za zw zc => ?_⟩, ?_⟩
      ·exact len_77 rfl ((evt za 61).trans (valVal1 (zc.dep 9 61 (by kernel_rfl) (by decide)) rfl rfl)) ⟨_, rfl, Below.refl _ _, fun _ => rfl⟩
      refine ⟨.inr (.inl ⟨.inr rfl, rfl, fun za zw zc => ?_⟩), ?_⟩
      ·exact wp_mkE (z := .int .i64 0) (size := 1) (bytes := 8) Try.underlying31 (by kernel_rfl) (by decide) rfl ((evt za 62).trans (valVal1 (zc.dep 10 62 (by kernel_rfl) (by decide)) rfl rfl)) ((evt za 62).trans (valVal1 (zc.dep 10 62 (by kernel_rfl) (by decide)) rfl rfl)) (by omega) ⟨rfl, rfl⟩
      refine ⟨.inr (.inr (.inl ⟨rfl, rfl, 57, 63, by kernel_rfl, by kernel_rfl, fun za zw g1 g2 z1 z2 => ?_⟩)), ?_⟩
      ·exact build_81_0_1 rfl z1 z2 ⟨rfl, rfl⟩
      refine ⟨.inr (.inr (.inr (.inl ⟨rfl, rfl, by kernel_rfl, 64, by kernel_rfl, fun za zw u1 u2 z1 => ?_⟩))), ?_⟩
      ·exact box_81 rfl z1 ⟨rfl, rfl⟩
      refine ⟨.inr (.inr (.inr (.inr ⟨rfl, rfl, 65, by kernel_rfl, fun za zw => ?_⟩))), ?_⟩
      ·exact wp_assign rfl rfl ⟨rfl, rfl⟩
      exact trivial
     ·intro za w67 g68 g69 g70 zh hb71 hg72 hg73 hg74 hn75 hn76 hn77 hB78 hB79 hB80 hp81 zu
      have zh := zh.cons (d := 10) hp81
      clear zu
      have hbw9 := (hb42).size
      have hzw9 : w.heap.size ≤ g68 := by omega
      have hdw9 : w.heap.size ≤ g69 := by omega
      have hgw9 : w.heap.size ≤ g70 := by omega
      have hN82 : RXS w67 w.heap.size g2 x.κ x.st.N x.st.V (fun b => b = g68 ∨ b = g69 ∨ b = g70) := ⟨Zo66, Uo66, do66, fun b q => ⟨(hZo66 b q).1, fun e => by have z := hZlo66 b q; (try dsimp only at e); rcases e with e | e | e <;> omega⟩, hRo66, RX.below ⟨So66, lao66, lco66, uao66, uco66, vbo66, vco66, hPo66, hUo66, hPZo66, hZlo66⟩ hb71⟩
      have hM83 : RM w67 g70 g68 x.st.N.length g69 x.st.N.length (List.replicate x.st.N.length ⟨0, 0, false⟩) := RM.made hB80 hB78 hB79 hn75 hn76 hn77
      refine WE.go zh ?_
      refine WE.next (WC.seq (WC.seq (WC.region (WL.asg rfl rfl rfl rfl rfl (WL.nil (WE.next (WC.block ?_)))))))
      refine WC.loop (X := AS) (fun y => x.st.N.length - y.k) (fun y => [(0, .slice a l.length c), (5, .pointer (some ⟨g2, 0, none⟩)), (6, .int .i64 (((q.1 : Nat) : Int))), (7, .int .i64 (((x.k : Nat) : Int))), (10, .pointer (some ⟨g70, 0, none⟩)), (11, .int .i64 (((y.k : Nat) : Int))), (15, .bool ((decide ((((q.1 : Nat) : Int) : Int) < (96 : Int))))), (30, .bool ((decide ((((x.k : Nat) : Int) : Int) < (((l.length : Nat) : Int) : Int)))))]) (fun y w84 => y.k ≤ x.st.N.length ∧ AskOk x.st.N x.κ y.ms ∧ (∀ r, (mget y.ms r).op = false) ∧ (∀ i, i < y.k → 0 < (mget y.ms (x.κ i)).sz) ∧ Below w.heap.size w w84 ∧ RXS (w84) w.heap.size g2 x.κ x.st.N x.st.V (fun b => b = g68 ∨ b = g69 ∨ b = g70) ∧ RM (w84) g70 g68 x.st.N.length g69 x.st.N.length y.ms) (⟨0, [], List.replicate x.st.N.length ⟨0, 0, false⟩⟩) ⟨rfl, rfl, rfl, rfl, rfl, rfl, rfl, rfl, trivial⟩ ?_ ?_
      ·have hb85 : Below w.heap.size w w67 := (bstep hb42 hb71)
       exact ⟨Nat.zero_le _, AskOk.new _ _, (fun r => by by_cases hr9 : r < x.st.N.length; (rw [mget_lt (by simpa using hr9)]; simp); (rw [mget_ge (by simpa using hr9)])), (fun i hi9 => absurd hi9 (Nat.not_lt_zero i)), hb85, hN82, hM83⟩
      ·rintro y w84 ⟨hky, hAy, hoy, hdy, hb86, ho87, ho88⟩
       refine WC.seq (WC.seq ?_)
       obtain ⟨Zo89, Uo89, do89, hZo89, hRo89, So89, lao89, lco89, uao89, uco89, vbo89, vco89, hPo89, hUo89, hPZo89, hZlo89⟩ := id ho87
       refine WC.region (WL.mv rfl rfl rfl rfl rfl (WL.mv rfl rfl rfl rfl rfl ?_))
       refine WL.val _ rfl rfl rfl (fun za zC zh zk => nilCheck_ rfl (zh.ev rfl) zk) ?_
       refine WL.val _ rfl rfl rfl (fun za zC zh zk => fld_79_0 rfl (zh.ev rfl) zk) ?_
       refine WL.val _ rfl rfl rfl (fun za zC zh zk => ld_77 rfl (zh.ev rfl) hPo89.c0 zk) ?_
       refine WL.val (.int .i64 (((x.st.N.length : Nat) : Int))) rfl rfl rfl (fun za zC zh zk => len_77 rfl (zh.ev rfl) zk) ?_
       refine WL.val (.bool ((decide ((((y.k : Nat) : Int) : Int) < (((x.st.N.length : Nat) : Int) : Int))))) rfl rfl rfl (fun za zC zh zk => lss_3 rfl (zh.ev rfl) (zh.ev rfl) zk) ?_
       refine WL.nil (WE.next ?_)
       refine WC.cond rfl (fun h90 => ?_) (fun h90 => ?_)
       ·have h90 : (((y.k : Nat) : Int) : Int) < (((x.st.N.length : Nat) : Int) : Int) := by simpa using h90
        refine WC.skip (WE.next (WC.seq (WC.block (WC.seq (WC.region (WL.mv rfl rfl rfl rfl rfl (WL.mv rfl rfl rfl rfl rfl (WL.mv rfl rfl rfl rfl rfl ?_))))))))
        have hyl : y.k < x.st.N.length := by omega
        obtain ⟨Z7, U7, d7, hZ7, hR7, S7, la7, lc7, ua7, uc7, vb7, vc7, hP7, hU7, hPZ7, hZl7⟩ := ho87
        obtain ⟨ub7, rfl⟩ := hP7.ub (by omega)
        have hP7b := hP7
        rw [hU7] at hP7b
        have hb95 : Below w.heap.size w w84 := hb86
        refine WL.call rfl rfl rfl (fun za zh zC => wp_call (by kernel_rfl) rfl (hv3 (zh.ev rfl) (zh.ev rfl) (zh.ev rfl))) (rask_any x.κ d7 U7 x.st.N x.st.V g2 S7 la7 lc7 ub7 uc7 vb7 vc7 g70 g68 x.st.N.length g69 x.st.N.length hgo.cl.ok hgo.ok.args (by omega) (by omega) hU7 hR7 (fun q => (hZ7 _ (hPZ7 _ q)).2 (.inl rfl)) (fun q => (hZ7 _ (hPZ7 _ q)).2 (.inr (.inl rfl))) _ y.ms y.k _ (Nat.le_refl _) hP7b hAy ho88 hyl) ?_
        rintro _ w96 ⟨bb91, rfl, hc92, h93, h94⟩
        have hb97 := chg_below hb95 hc92 (fun b hb h9 => by rcases h9 with h9 | h9 <;> omega)
        refine WL.val (.bool (!bb91)) rfl rfl rfl (fun za zC zh zk => wp_not rfl (zh.ev rfl) zk) ?_
        refine WL.nil (WE.next ?_)
        refine WC.cond rfl (fun h98 => ?_) (fun h98 => ?_)
        ·skip
         have hbb : bb91 = false := by simpa using h98
         refine WC.seq (WC.region (WL.asg rfl rfl rfl rfl rfl (WL.asg rfl rfl rfl rfl rfl (WL.asg rfl rfl rfl rfl rfl (WL.nil (WE.next (WC.ret (WE.blockRet (WE.thenRet (WE.thenRet (WE.blockRet (WE.thenRet ?_))))))))))))
         refine WE.retAny (v := .tuple #[.pointer none, .pointer none, .bool false]) (fun za zh => ?_) ?_
         ·have z0 : za.tmps[2]?.getD undef = .pointer none := by rw [← Array.getD_eq_getD_getElem?]; exact zh.knows 2 _ rfl
          have z1 : za.tmps[3]?.getD undef = .pointer none := by rw [← Array.getD_eq_getD_getElem?]; exact zh.knows 3 _ rfl
          have z2 : za.tmps[4]?.getD undef = .bool false := by rw [← Array.getD_eq_getD_getElem?]; exact zh.knows 4 _ rfl
          simp [results, Try.results32, z0, z1, z2, go_sem]
         ·have hrn := hgo.run
          rw [hxk, List.take_length] at hrn
          have hnm := h94 hbb
          exact ⟨_, rfl, .inl ⟨.cyc hrn (fun sz dp hm => by obtain ⟨o, e, _⟩ := hnm sz dp hm; rw [hoy o] at e; cases e), rfl⟩, hb97⟩
        ·skip
         have hbb : bb91 = true := by simpa using h98
         obtain ⟨ms3, hM3, hA3, hE3, hD3⟩ := h93 hbb
         have hN3 : RXS w96 w.heap.size g2 x.κ x.st.N x.st.V (fun b => b = g68 ∨ b = g69 ∨ b = g70) := ⟨Z7, U7, d7, hZ7, hR7, RX.chg ⟨S7, la7, lc7, _, uc7, vb7, vc7, hP7, hU7, hPZ7, hZl7⟩ hc92 (fun b q e => (hZ7 b q).2 (e.elim .inl (fun z => .inr (.inl z))))⟩
         refine WC.skip (WE.blockNormal (WE.next (WC.region (WL.mv rfl rfl rfl rfl rfl ?_))))
         refine WL.val (.int .i64 ((((y.k + 1) : Nat) : Int))) rfl rfl rfl (fun za zC zh zk => addb_3 rfl (zh.ev rfl) (zh.ev rfl) (wrap_eq (by omega) (by omega) (by omega)) zk) ?_
         refine WL.asg rfl rfl rfl rfl rfl (WL.nil ?_)
         refine WE.round (⟨y.k + 1, [], ms3⟩) ⟨rfl, rfl, rfl, rfl, rfl, rfl, rfl, rfl, trivial⟩ ?_ ?_
         ·exact ⟨(by (try dsimp only); omega), hA3, (fun r => (hE3.op r).trans (hoy r)), (fun i hi9 => by
           rcases Nat.lt_succ_iff_lt_or_eq.1 hi9 with z | z
           ·rw [show mget ms3 (x.κ i) = mget y.ms (x.κ i) from hE3.keep _ (.inr (hdy i z))]; exact hdy i z
           ·rw [z]; exact hD3), hb97, hN3, hM3⟩
         ·(try dsimp only); omega
       ·have h90 : ¬ ((((y.k : Nat) : Int) : Int) < (((x.st.N.length : Nat) : Int) : Int)) := by simpa using h90
        refine WC.exit (WE.thenExit (WE.thenExit (WE.blockIs rfl (WE.next (WC.seq (WC.region (WL.mv rfl rfl rfl rfl rfl (WL.mv rfl rfl rfl rfl rfl (WL.asg rfl rfl rfl rfl rfl (WL.asg rfl rfl rfl rfl rfl (WL.asg rfl rfl rfl rfl rfl (WL.nil (WE.next (WC.ret ?_))))))))))))))
        refine WE.retAny (v := .tuple #[.pointer (some ⟨g2, 0, none⟩), .pointer (some ⟨g70, 0, none⟩), .bool true]) (fun za zh => ?_) ?_
        ·have z0 : za.tmps[2]?.getD undef = .pointer (some ⟨g2, 0, none⟩) := by rw [← Array.getD_eq_getD_getElem?]; exact zh.knows 2 _ rfl
         have z1 : za.tmps[3]?.getD undef = .pointer (some ⟨g70, 0, none⟩) := by rw [← Array.getD_eq_getD_getElem?]; exact zh.knows 3 _ rfl
         have z2 : za.tmps[4]?.getD undef = .bool true := by rw [← Array.getD_eq_getD_getElem?]; exact zh.knows 4 _ rfl
         simp [results, Try.results32, z0, z1, z2, go_sem]
        ·have hgo2 := hgo
         rw [hxk] at hgo2
         exact ⟨_, rfl, .inr ⟨x.st, x.κ, g2, g70, g68, x.st.N.length, g69, x.st.N.length, y.ms, hgo2, hAy, fun i hi9 => hdy i (by omega), rfl, ho87, ho88⟩, hb86⟩
end Go.Proofs.Ytibncmnmjhimeaa

namespace Go.Proofs.Ytibncmnmjhimeaa
open Go.RowKit Go
set_option linter.unusedVariables false
set_option linter.unusedSimpArgs false
end Go.Proofs.Ytibncmnmjhimeaa
