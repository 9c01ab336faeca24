/- Four clauses in two queues: the walk. -/
import Derived.Test.YtjhkoiggeepajaaHRoom4
import Derived.Test.YtjhkoiggeepajaaRoomW
namespace Go.Proofs.Ytjhkoiggeepajaa
open Go.RowKit Go
set_option linter.unusedVariables false
set_option linter.unusedSimpArgs false

set_option maxRecDepth 100000 in
theorem sized_any (m : Nat) (hm : m < 30) (w : World) : Calls Try.prog 24 #[.int .i64 ((m + 1 : Nat) : Int)] w (Ret fun v' w' => (∃ g, v' = .slice (some ⟨g, 0, none⟩) 1 1 ∧ InRow eltL (fun b => w.heap.size ≤ b) w' [szC m] (some ⟨g, 0, none⟩)) ∧ Below w.heap.size w w') := by
  refine Calls.walk (l := [.int .i64 (((m + 1 : Nat) : Int))]) Try.func24 rfl (by kernel_rfl) ?_
  refine WC.sub (K' := [(0, .int .i64 (((m + 1 : Nat) : Int)))]) ⟨rfl, trivial⟩ ?_
  refine WC.seq ?_
  refine WC.region ?_
  refine WL.val (.slice none 0 0) rfl rfl rfl (fun za zC zh zk => wp_assign rfl (zh.ev rfl) zk) ?_
  refine WL.nil (WE.sub (K' := [(0, .int .i64 (((m + 1 : Nat) : Int))), (2, .slice none 0 0)]) ⟨rfl, rfl, trivial⟩ ?_)
  refine WE.next ?_
  refine WC.seq ?_
  refine WC.region ?_
  refine WL.val (.agg #[.int .i64 1, .slice none 0 0]) rfl rfl rfl (fun za zC zh zk => build_63_0 rfl (zh.ev rfl) zk) ?_
  refine WL.step (post := NewBlk w 63 #[.int .i64 0, .slice none 0 0]) rfl rfl rfl (fun za zC zh zk => alloc_63 rfl (zk _ _ (newBlk _ _ _))) ?_
  rintro _ w1 ⟨g2, rfl, hg3, hB4, hb5, hz6⟩
  have hl7 : w.heap.size ≤ g2 := by omega
  refine WL.step (post := fun _ w' => Upd g2 w1 w' ∧ Blk w' g2 63 #[.int .i64 1, .slice none 0 0]) rfl rfl rfl (fun za zC zh zk => st_63 rfl (zh.ev rfl) (zh.ev rfl) rfl rfl hB4 (by first | decide | simp) (fun v => zk v _ ⟨(Upd.at_ _ _ _ _).trans (Upd.at_ _ _ _ _), (hB4.set_ 0 _).set_ 1 _⟩)) ?_
  rintro v11 w8 ⟨hu9, hB10⟩
  have hb12 := upd_below hb5 hu9 (by omega)
  refine WL.nil (WE.sub (K' := [(0, .int .i64 (((m + 1 : Nat) : Int))), (2, .slice none 0 0), (3, .pointer (some ⟨g2, 0, none⟩))]) ⟨rfl, rfl, rfl, trivial⟩ ?_)
  refine WE.next ?_
  refine WC.seq ?_
  refine WC.seq ?_
  refine WC.region ?_
  refine WL.val (.int .i64 1) rfl rfl rfl (fun za zC zh zk => wp_assign rfl (zh.ev rfl) zk) ?_
  refine WL.nil (WE.sub (K' := [(0, .int .i64 (((m + 1 : Nat) : Int))), (2, .slice none 0 0), (3, .pointer (some ⟨g2, 0, none⟩)), (4, .int .i64 1)]) ⟨rfl, rfl, rfl, rfl, trivial⟩ ?_)
  refine WE.next ?_
  refine WC.block ?_
  have hzt : InT (fun b => w.heap.size ≤ b ∧ b ≠ g2) w8 (tw 0) (.agg #[.int .i64 1, .slice none 0 0]) := inT_lf (by decide)
  refine WC.loop (X := Nat × Option Addr × Nat) (fun y => m - y.1) (fun y => [(0, .int .i64 (((m + 1 : Nat) : Int))), (2, .slice none 0 0), (3, .pointer (some ⟨g2, 0, none⟩)), (4, .int .i64 ((((y.1 + 1) : Nat) : Int)))]) (fun y w13 => y.1 ≤ m ∧ Below w.heap.size w w13 ∧ Blk w13 g2 63 #[.int .i64 ((tw y.1).f), .slice y.2.1 ((tw y.1).args.length) y.2.2] ∧ InT (fun b => w.heap.size ≤ b ∧ b ≠ g2) (w13) (tw y.1) (.agg #[.int .i64 (tw y.1).f, .slice y.2.1 (tw y.1).args.length y.2.2])) (⟨0, none, 0⟩) ⟨rfl, rfl, rfl, rfl, trivial⟩ ?_ ?_
  · exact ⟨Nat.zero_le _, hb12, hB10, hzt⟩
  · rintro y w13 ⟨hk, hb14, hB15, ho16⟩
    refine WC.seq ?_
    refine WC.seq ?_
    refine WC.opt [(true, .val (.int .i64 ((((y.1 + 1) : Nat) : Int)))), (true, .val (.int .i64 (((m + 1 : Nat) : Int)))), (true, .val (.bool ((decide (((((y.1 + 1) : Nat) : Int) : Int) < (((m + 1 : Nat) : Int) : Int)))))), (true, .val (.bool ((decide (((((y.1 + 1) : Nat) : Int) : Int) < (((m + 1 : Nat) : Int) : Int)))))), ((true && (decide (((((y.1 + 1) : Nat) : Int) : Int) < (((m + 1 : Nat) : Int) : Int)))), .val (.int .i64 ((((y.1 + 1) : Nat) : Int)))), ((true && (decide (((((y.1 + 1) : Nat) : Int) : Int) < (((m + 1 : Nat) : Int) : Int)))), .val (.bool ((decide (((((y.1 + 1) : Nat) : Int) : Int) < (30 : Int)))))), (true, .val (.bool (((decide (((((y.1 + 1) : Nat) : Int) : Int) < (((m + 1 : Nat) : Int) : Int))) && (decide (((((y.1 + 1) : Nat) : Int) : Int) < (30 : Int)))))))] [(0, .int .i64 (((m + 1 : Nat) : Int))), (2, .slice none 0 0), (3, .pointer (some ⟨g2, 0, none⟩)), (4, .int .i64 ((((y.1 + 1) : Nat) : Int)))] ⟨rfl, rfl, rfl, rfl, trivial⟩ (by kernel_rfl) (by kernel_rfl) (by kernel_rfl) ?_ ?_
    · refine ⟨⟨true, .none rfl, fun h w => optUndef h, fun zβ za zw zc => ?_⟩, ?_⟩
      · exact wp_move rfl (zc.kn.ev rfl) ⟨_, rfl, Below.refl _ _, optDef zβ rfl⟩
      refine ⟨⟨true, .none rfl, fun h w => optUndef h, fun zβ za zw zc => ?_⟩, ?_⟩
      · exact wp_move rfl (zc.kn.ev rfl) ⟨_, rfl, Below.refl _ _, optDef zβ rfl⟩
      refine ⟨⟨true, .none rfl, fun h w => optUndef h, fun zβ za zw zc => ?_⟩, ?_⟩
      · exact lss_3 rfl ((show za.eval (.tmp 6) = za.tmps.getD 6 undef from rfl).trans (optVal (zc.dep 0 6 (by kernel_rfl)) rfl rfl)) ((show za.eval (.tmp 7) = za.tmps.getD 7 undef from rfl).trans (optVal (zc.dep 1 7 (by kernel_rfl)) rfl rfl)) ⟨_, rfl, Below.refl _ _, optDef zβ rfl⟩
      refine ⟨⟨true, .none rfl, fun h w => optUndef h, fun zβ za zw zc => ?_⟩, ?_⟩
      · exact wp_move rfl ((show za.eval (.tmp 8) = za.tmps.getD 8 undef from rfl).trans (optVal (zc.dep 2 8 (by kernel_rfl)) rfl rfl)) ⟨_, rfl, Below.refl _ _, optDef zβ rfl⟩
      refine ⟨⟨(true && (decide (((((y.1 + 1) : Nat) : Int) : Int) < (((m + 1 : Nat) : Int) : Int)))), .yes (c := (decide (((((y.1 + 1) : Nat) : Int) : Int) < (((m + 1 : Nat) : Int) : Int)))) (d := true) rfl (fun v w h => h), fun h w => optUndef h, fun zβ za zw zc => ?_⟩, ?_⟩
      · exact wp_move rfl (zc.kn.ev rfl) ⟨_, rfl, Below.refl _ _, optDef zβ rfl⟩
      refine ⟨⟨(true && (decide (((((y.1 + 1) : Nat) : Int) : Int) < (((m + 1 : Nat) : Int) : Int)))), .yes (c := (decide (((((y.1 + 1) : Nat) : Int) : Int) < (((m + 1 : Nat) : Int) : Int)))) (d := true) rfl (fun v w h => h), fun h w => optUndef h, fun zβ za zw zc => ?_⟩, ?_⟩
      · exact lss_3 rfl ((show za.eval (.tmp 10) = za.tmps.getD 10 undef from rfl).trans (optVal (zc.dep 4 10 (by kernel_rfl)) rfl zβ)) (zc.kn.ev rfl) ⟨_, rfl, Below.refl _ _, optDef zβ rfl⟩
      refine ⟨⟨true, .none rfl, fun h w => optUndef h, fun zβ za zw zc => ?_⟩, ?_⟩
      · exact wp_and rfl ((show za.eval (.tmp 9) = za.tmps.getD 9 undef from rfl).trans (optVal (zc.dep 3 9 (by kernel_rfl)) rfl rfl)) (fun hp => ((show za.eval (.tmp 11) = za.tmps.getD 11 undef from rfl).trans (optVal (zc.dep 5 11 (by kernel_rfl)) rfl (bMk zβ hp)))) ⟨_, rfl, Below.refl _ _, optDef zβ rfl⟩
      exact trivial
    · intro za w17 zh hb18 zu
      have zh := zh.cons (d := 12) (v := .bool (((decide (((((y.1 + 1) : Nat) : Int) : Int) < (((m + 1 : Nat) : Int) : Int))) && (decide (((((y.1 + 1) : Nat) : Int) : Int) < (30 : Int)))))) (optVal (zu 6 12 (by kernel_rfl)) rfl rfl)
      clear zu
      refine (show WE _ [(0, .int .i64 (((m + 1 : Nat) : Int))), (2, .slice none 0 0), (3, .pointer (some ⟨g2, 0, none⟩)), (4, .int .i64 ((((y.1 + 1) : Nat) : Int))), (12, .bool (((decide (((((y.1 + 1) : Nat) : Int) : Int) < (((m + 1 : Nat) : Int) : Int))) && (decide (((((y.1 + 1) : Nat) : Int) : Int) < (30 : Int))))))] w17 _ .normal from ?_) za (zh.sub ⟨rfl, rfl, rfl, rfl, rfl, trivial⟩)
      refine WE.next ?_
      refine WC.cond rfl (fun h19 => ?_) (fun h19 => ?_)
      · have h19 : (((((y.1 + 1) : Nat) : Int) : Int) < (((m + 1 : Nat) : Int) : Int)) ∧ (((((y.1 + 1) : Nat) : Int) : Int) < (30 : Int)) := by simpa using h19
        refine WC.skip ?_
        refine WE.next ?_
        refine WC.seq ?_
        refine WC.block ?_
        refine WC.region ?_
        have hB20 := hB15.below hb18
        refine WL.val (.agg #[.int .i64 ((tw y.1).f), .slice y.2.1 ((tw y.1).args.length) y.2.2]) rfl rfl rfl (fun za zC zh zk => ld_63 rfl (zh.ev rfl) ((hB20.cell 0).trans rfl) ((hB20.cell 1).trans rfl) zk) ?_
        refine WL.step (post := NewRow w17 63 #[.int .i64 ((tw y.1).f), .slice y.2.1 ((tw y.1).args.length) y.2.2] 1) rfl rfl rfl (fun za zC zh zk => row_61_1 rfl (zh.ev rfl) (zk _ _ (newRow _ _ _ _))) ?_
        rintro _ w21 ⟨g22, rfl, hg23, hB24, hb25, hz26⟩
        have hl27 : g2 < g22 := by have z1 := hB20.lt; omega
        have hb28 : Below w.heap.size w w17 := (bstep hb14 hb18)
        have hl29 : w.heap.size ≤ g22 := by have z2 := (hb28).size; omega
        refine WL.val (.agg #[.int .i64 2, .slice ((some ⟨g22, 0, none⟩)) 1 1]) rfl rfl rfl (fun za zC zh zk => build_63_0_1 rfl (zh.ev rfl) (zh.ev rfl) zk) ?_
        have hb31 : Below w13.heap.size w13 w21 := (bstep hb18 hb25)
        have ho30 := InT.below hb31 ho16
        have hmg : w.heap.size ≤ g22 ∧ g22 ≠ g2 := by omega
        have ho32 : InT (fun b => w.heap.size ≤ b ∧ b ≠ g2) w21 (tw (y.1 + 1)) (.agg #[.int .i64 (tw (y.1 + 1)).f, .slice (some ⟨g22, 0, none⟩) (tw (y.1 + 1)).args.length 1]) := inT_one (by decide) hB24 hmg ho30
        have hB34 := hB20.below hb25
        refine WL.step (post := fun _ w' => Upd g2 w21 w' ∧ Blk w' g2 63 #[.int .i64 2, .slice ((some ⟨g22, 0, none⟩)) 1 1]) rfl rfl rfl (fun za zC zh zk => st_63 rfl (zh.ev rfl) (zh.ev rfl) rfl rfl hB34 (by first | decide | simp) (fun v => zk v _ ⟨(Upd.at_ _ _ _ _).trans (Upd.at_ _ _ _ _), (hB34.set_ 0 _).set_ 1 _⟩)) ?_
        rintro v38 w35 ⟨hu36, hB37⟩
        have hb39 : Below w.heap.size w w21 := (bstep hb14 hb31)
        have hb40 := upd_below hb39 hu36 (by omega)
        have hB41 := upd_blk hB24 hu36 (by omega)
        have ho33 := InT.chg ho32 (.ofUpd (S := fun b => b = g2) hu36 rfl) (fun b hb e => hb.2 e)
        refine WL.nil (WE.sub (K' := [(0, .int .i64 (((m + 1 : Nat) : Int))), (2, .slice none 0 0), (3, .pointer (some ⟨g2, 0, none⟩)), (4, .int .i64 ((((y.1 + 1) : Nat) : Int))), (12, .bool (((decide (((((y.1 + 1) : Nat) : Int) : Int) < (((m + 1 : Nat) : Int) : Int))) && (decide (((((y.1 + 1) : Nat) : Int) : Int) < (30 : Int))))))]) ⟨rfl, rfl, rfl, rfl, rfl, trivial⟩ ?_)
        refine WE.blockNormal ?_
        refine WE.next ?_
        refine WC.region ?_
        refine WL.val (.int .i64 ((((y.1 + 1) : Nat) : Int))) rfl rfl rfl (fun za zC zh zk => wp_move rfl (zh.ev rfl) zk) ?_
        refine WL.val (.int .i64 ((((y.1 + 1 + 1) : Nat) : Int))) rfl rfl rfl (fun za zC zh zk => addb_3 rfl (zh.ev rfl) (zh.ev rfl) (wrap_eq (by omega) (by omega) (by omega)) zk) ?_
        refine WL.val (.int .i64 ((((y.1 + 1 + 1) : Nat) : Int))) rfl rfl rfl (fun za zC zh zk => wp_assign rfl (zh.ev rfl) zk) ?_
        refine WL.nil (WE.sub (K' := [(0, .int .i64 (((m + 1 : Nat) : Int))), (2, .slice none 0 0), (3, .pointer (some ⟨g2, 0, none⟩)), (4, .int .i64 ((((y.1 + 1 + 1) : Nat) : Int))), (12, .bool (((decide (((((y.1 + 1) : Nat) : Int) : Int) < (((m + 1 : Nat) : Int) : Int))) && (decide (((((y.1 + 1) : Nat) : Int) : Int) < (30 : Int))))))]) ⟨rfl, rfl, rfl, rfl, rfl, trivial⟩ ?_)
        refine WE.round (⟨y.1 + 1, some ⟨g22, 0, none⟩, 1⟩) ⟨rfl, rfl, rfl, rfl, trivial⟩ ?_ ?_
        · exact ⟨by (try dsimp only); omega, hb40, hB37, ho33⟩
        · (try dsimp only); omega
      · have h19 : ¬ ((((((y.1 + 1) : Nat) : Int) : Int) < (((m + 1 : Nat) : Int) : Int)) ∧ (((((y.1 + 1) : Nat) : Int) : Int) < (30 : Int))) := by simpa using h19
        refine WC.exit ?_
        refine WE.thenExit ?_
        refine WE.thenExit ?_
        refine WE.blockIs rfl ?_
        refine WE.next ?_
        refine WC.seq ?_
        refine WC.region ?_
        have hB42 := hB15.below hb18
        refine WL.val (.agg #[.int .i64 ((tw y.1).f), .slice y.2.1 ((tw y.1).args.length) y.2.2]) rfl rfl rfl (fun za zC zh zk => ld_63 rfl (zh.ev rfl) ((hB42.cell 0).trans rfl) ((hB42.cell 1).trans rfl) zk) ?_
        refine WL.val (.agg #[.bool false, .int .i64 ((tw y.1).f), .slice y.2.1 ((tw y.1).args.length) y.2.2, .int .i64 0, .slice none 0 0]) rfl rfl rfl (fun za zC zh zk => build_65_1 rfl (zh.ev rfl) zk) ?_
        refine WL.step (post := NewRow w17 65 #[.bool false, .int .i64 ((tw y.1).f), .slice y.2.1 ((tw y.1).args.length) y.2.2, .int .i64 0, .slice none 0 0] 1) rfl rfl rfl (fun za zC zh zk => row_24_1 rfl (zh.ev rfl) (zk _ _ (newRow _ _ _ _))) ?_
        rintro _ w43 ⟨g44, rfl, hg45, hB46, hb47, hz48⟩
        have hl49 : g2 < g44 := by have z1 := hB42.lt; omega
        have hb50 : Below w.heap.size w w17 := (bstep hb14 hb18)
        have hl51 : w.heap.size ≤ g44 := by have z2 := (hb50).size; omega
        refine WL.val (.slice ((some ⟨g44, 0, none⟩)) 1 1) rfl rfl rfl (fun za zC zh zk => wp_assign rfl (zh.ev rfl) zk) ?_
        refine WL.nil (WE.sub (K' := [(0, .int .i64 (((m + 1 : Nat) : Int))), (2, .slice ((some ⟨g44, 0, none⟩)) 1 1), (3, .pointer (some ⟨g2, 0, none⟩)), (4, .int .i64 ((((y.1 + 1) : Nat) : Int))), (12, .bool (((decide (((((y.1 + 1) : Nat) : Int) : Int) < (((m + 1 : Nat) : Int) : Int))) && (decide (((((y.1 + 1) : Nat) : Int) : Int) < (30 : Int))))))]) ⟨rfl, rfl, rfl, rfl, rfl, trivial⟩ ?_)
        refine WE.next ?_
        refine WC.ret ?_
        refine WE.ret1 rfl rfl ?_
        have hb53 : Below w13.heap.size w13 w43 := (bstep hb18 hb47)
        have ho52 := InT.below hb53 ho16
        have hb54 : Below w.heap.size w w43 := (bstep hb14 hb53)
        obtain rfl : y.1 = m := by omega
        exact ⟨_, rfl, ⟨g44, rfl, row_one (x := szC y.1) hB46 (by (try dsimp only); omega) (InT.mono (fun b hb _ => hb.1) ho52) (inT_lf (f := 0) (by decide))⟩, hb54⟩

theorem new_ok {q : List Qu} (hq : qsOk q = true) (w : World) (a : Option Addr) (c : Nat) (h : IsQs w q a) (hc : q.length ≤ c) : Calls Try.prog 11 #[.slice a q.length c] w (Ret fun v' w' => (∃ r, v' = .tuple #[.pointer (some ⟨r, 0, none⟩), .int .i64 0] ∧ RoomIs w' r (fun b => w.heap.size ≤ b) q [] 0 0 0) ∧ Below w.heap.size w w') :=
  (new_any q w a c h hc).mono fun e w' ⟨v, e1, h1⟩ => ⟨v, e1, by
    rcases h1 with ⟨h1, _⟩ | ⟨_, h1, h2⟩
    · rw [hq] at h1; cases h1
    · exact ⟨h1, h2⟩⟩
theorem add_ok {W w1 : World} {n : Int} {k g r : Nat} {q : List Qu} {ws : List Wt} {times at_ dn : Nat} (w : World) (hR : RoomIs w1 r (fun b => W.heap.size ≤ b) q ws times at_ dn) (hb : Below w1.heap.size w1 w) (hW : W.heap.size ≤ w.heap.size) (hc : InRow eltL (fun b => w1.heap.size ≤ b) w [szC k] (some ⟨g, 0, none⟩)) (hk : k < 30) (hn : 0 ≤ n) (ht : tmOf ws n = 0) (htm : times < 1000000) :
    Calls Try.prog 12 #[.pointer (some ⟨r, 0, none⟩), .int .i64 n, .slice (some ⟨g, 0, none⟩) 1 1, .bool false] w (Ret fun v' w' => v' = .int .i64 0 ∧ RoomIs w' r (fun b => W.heap.size ≤ b) q (ws ++ [⟨n, times + 1, [szC k], false⟩]) (times + 1) at_ dn ∧ Chg (fun b => W.heap.size ≤ b) w w') :=
  (add_any n [szC k] false _ 1 r (fun b => W.heap.size ≤ b ∧ b < w1.heap.size) q ws times at_ dn w ((hR.mono (fun b h1 h2 => ⟨h1, h2⟩)).below hb) (sized_cl (by omega) hc) (by simp) htm).mono fun e w' ⟨v, e1, h1⟩ => ⟨v, e1, by
    rcases h1 with ⟨h1, _⟩ | ⟨_, _, h1, h2, h3⟩
    · omega
    · exact ⟨h1, h2.mono (fun b h _ => h.elim (fun z => z.1) (fun z => by omega)), h3.mono (fun b h => h.1)⟩⟩
theorem next_ok {r : Nat} {Z : Nat → Prop} {k : Nat} (hk : k < 4) (w : World) (hR : RoomIs w r Z wq (wst k).1 4 (wst k).2.1 (wst k).2.2) : Calls Try.prog 13 #[.pointer (some ⟨r, 0, none⟩)] w (Ret fun v' w' => v' = .tuple #[.int .i64 (wnt k), .bool true] ∧ RoomIs w' r (fun b => Z b ∨ w.heap.size ≤ b) wq (wst (k + 1)).1 4 (wst (k + 1)).2.1 (wst (k + 1)).2.2 ∧ Chg Z w w') :=
  (next_any r Z wq _ 4 _ _ w hR (by decide)).mono fun e w' ⟨v, e1, h1⟩ => ⟨v, e1, by
    rcases h1 with ⟨h1, _⟩ | ⟨x, hx, hm, h1, h2, h3⟩
    · rcases (show k = 0 ∨ k = 1 ∨ k = 2 ∨ k = 3 by omega) with rfl | rfl | rfl | rfl <;> simp [wst] at h1
    · obtain ⟨a1, a2, a3⟩ := nextW hk hx hm
      rw [a1] at h1
      rw [a2, a3] at h2
      exact ⟨h1, h2, h3⟩⟩
theorem next_end {r : Nat} {Z : Nat → Prop} {q : List Qu} {times at_ dn : Nat} (w : World) (hR : RoomIs w r Z q [] times at_ dn) (ht : times < 100000000) : Calls Try.prog 13 #[.pointer (some ⟨r, 0, none⟩)] w (Ret fun v' w' => v' = .tuple #[.int .i64 0, .bool false] ∧ Below w.heap.size w w') :=
  (next_any r Z q [] times at_ dn w hR ht).mono fun e w' ⟨v, e1, h1⟩ => ⟨v, e1, by
    rcases h1 with ⟨_, h1, h2⟩ | ⟨x, hx, _⟩
    · exact ⟨h1, h2⟩
    · simp at hx⟩
theorem wq_is {w : World} {g ty : Nat} (hB : Blk w g ty #[.int .i64 1, .int .i64 2, .int .i64 0, .int .i64 1]) : IsQs w wq (some ⟨g, 0, none⟩) := ⟨g, 0, fun _ _ => rfl, fun k hk => by
  rcases (show k = 0 ∨ k = 1 by simp [wq] at hk; omega) with rfl | rfl
  · exact ⟨(hB.cell 0).trans rfl, (hB.cell 1).trans rfl⟩
  · exact ⟨(hB.cell 2).trans rfl, (hB.cell 3).trans rfl⟩⟩
set_option maxRecDepth 100000 in
theorem wakes_any (w : World) : Calls Try.prog 10 #[] w (Ret fun v' w' => v' = .bool true ∧ Below w.heap.size w w') := by
  refine Calls.walk (l := []) Try.func10 rfl (by kernel_rfl) ?_
  refine WC.sub (K' := []) trivial ?_
  refine WC.seq ?_
  refine WC.region ?_
  refine WL.val (.bool false) rfl rfl rfl (fun za zC zh zk => wp_assign rfl (zh.ev rfl) zk) ?_
  refine WL.nil (WE.sub (K' := [(0, .bool false)]) ⟨rfl, trivial⟩ ?_)
  refine WE.next ?_
  refine WC.seq ?_
  refine WC.region ?_
  refine WL.val (.agg #[.int .i64 1, .int .i64 2]) rfl rfl rfl (fun za zC zh zk => build_38_0_1 rfl (zh.ev rfl) (zh.ev rfl) zk) ?_
  refine WL.val (.agg #[.int .i64 0, .int .i64 1]) rfl rfl rfl (fun za zC zh zk => build_38_0_1 rfl (zh.ev rfl) (zh.ev rfl) zk) ?_
  refine WL.step (post := NewRow w 38 #[.int .i64 1, .int .i64 2, .int .i64 0, .int .i64 1] 2) rfl rfl rfl (fun za zC zh zk => row_30_2 rfl (zh.ev rfl) (zh.ev rfl) (zk _ _ (newRow _ _ _ _))) ?_
  rintro _ w1 ⟨g2, rfl, hg3, hB4, hb5, hz6⟩
  have hl7 : w.heap.size ≤ g2 := by omega
  refine WL.call rfl rfl rfl (fun za zh zC => wp_call (by kernel_rfl) rfl (hv1 (zh.ev rfl))) (new_ok (q := wq) (by decide) _ _ 2 (wq_is hB4) (by decide)) ?_
  rintro _ w8 ⟨⟨r, rfl, hR⟩, hbn⟩
  have hR := hR.mono (Z' := fun b => w.heap.size ≤ b) (fun b h _ => by have z := hb5.size; omega)
  refine WL.val (.tuple #[.pointer (some ⟨r, 0, none⟩), .int .i64 0]) rfl rfl rfl (fun za zC zh zk => wp_move rfl (zh.ev rfl) zk) ?_
  refine WL.val (.pointer (some ⟨r, 0, none⟩)) rfl rfl rfl (fun za zC zh zk => ext2_0 rfl (zh.ev rfl) zk) ?_
  refine WL.val (.int .i64 0) rfl rfl rfl (fun za zC zh zk => ext2_1 rfl (zh.ev rfl) zk) ?_
  refine WL.val (.pointer (some ⟨r, 0, none⟩)) rfl rfl rfl (fun za zC zh zk => wp_assign rfl (zh.ev rfl) zk) ?_
  refine WL.val (.int .i64 0) rfl rfl rfl (fun za zC zh zk => wp_assign rfl (zh.ev rfl) zk) ?_
  refine WL.nil (WE.sub (K' := [(0, .bool false), (1, .pointer (some ⟨r, 0, none⟩)), (2, .int .i64 0)]) ⟨rfl, rfl, rfl, trivial⟩ ?_)
  refine WE.next ?_
  refine WC.seq ?_
  refine WC.seq ?_
  refine WC.region ?_
  refine WL.val (.int .i64 0) rfl rfl rfl (fun za zC zh zk => wp_move rfl (zh.ev rfl) zk) ?_
  refine WL.val (.bool false) rfl rfl rfl (fun za zC zh zk => neq_34 rfl (zh.ev rfl) (zh.ev rfl) zk) ?_
  refine WL.val (.bool false) rfl rfl rfl (fun za zC zh zk => wp_move rfl (zh.ev rfl) zk) ?_
  refine WL.want (d := 18) rfl rfl rfl ?_
  refine WL.val (.pointer (some ⟨r, 0, none⟩)) rfl rfl rfl (fun za zC zh zk => wp_move rfl (zh.ev rfl) zk) ?_
  refine WL.want (d := 18) rfl rfl rfl ?_
  refine WL.val (.bool false) rfl rfl rfl (fun za zC zh zk => eqlp_33 rfl (zh.ev rfl) (zh.ev rfl) zk) ?_
  refine WL.val (.bool false) rfl rfl rfl (fun za zC zh zk => wp_pickF rfl (zh.ev rfl) (zh.ev rfl) zk) ?_
  refine WL.nil (WE.sub (K' := [(0, .bool false), (1, .pointer (some ⟨r, 0, none⟩)), (2, .int .i64 0), (21, .bool false)]) ⟨rfl, rfl, rfl, rfl, trivial⟩ ?_)
  refine WE.next ?_
  refine WC.condF rfl rfl ?_
  refine WC.skip ?_
  refine WE.next ?_
  refine WC.seq ?_
  refine WC.region ?_
  refine WL.val (.pointer (some ⟨r, 0, none⟩)) rfl rfl rfl (fun za zC zh zk => wp_move rfl (zh.ev rfl) zk) ?_
  refine WL.call rfl rfl rfl (fun za zh zC => wp_call (by kernel_rfl) rfl (hv1 (zh.ev rfl))) (sized_any 8 (by decide) _) ?_
  rintro _ w12 ⟨⟨gc9, rfl, hi10⟩, hb11⟩
  refine WL.call rfl rfl rfl (fun za zh zC => wp_call (by kernel_rfl) rfl (hv4 (zh.ev rfl) (zh.ev rfl) (zh.ev rfl) (zh.ev rfl))) (add_ok (W := w) (n := 5) (k := 8) (times := 0) _ hR hb11 (Nat.le_trans (Nat.le_trans hb5.size hbn.size) hb11.size) hi10 (by decide) (by decide) (by decide) (by decide)) ?_
  rintro _ w15 ⟨rfl, hR13, hc14⟩
  have hb16 : Below w.heap.size w w12 := (bstep (bstep hb5 hbn) hb11)
  have hb17 := chg_below hb16 hc14 (fun b hb => (by (try dsimp only at *); omega))
  refine WL.nil (WE.sub (K' := [(0, .bool false), (1, .pointer (some ⟨r, 0, none⟩)), (2, .int .i64 0), (21, .bool false)]) ⟨rfl, rfl, rfl, rfl, trivial⟩ ?_)
  refine WE.next ?_
  refine WC.seq ?_
  refine WC.region ?_
  refine WL.val (.pointer (some ⟨r, 0, none⟩)) rfl rfl rfl (fun za zC zh zk => wp_move rfl (zh.ev rfl) zk) ?_
  refine WL.call rfl rfl rfl (fun za zh zC => wp_call (by kernel_rfl) rfl (hv1 (zh.ev rfl))) (sized_any 2 (by decide) _) ?_
  rintro _ w21 ⟨⟨gc18, rfl, hi19⟩, hb20⟩
  refine WL.call rfl rfl rfl (fun za zh zC => wp_call (by kernel_rfl) rfl (hv4 (zh.ev rfl) (zh.ev rfl) (zh.ev rfl) (zh.ev rfl))) (add_ok (W := w) (n := 6) (k := 2) (times := 1) _ hR13 hb20 (Nat.le_trans hb17.size hb20.size) hi19 (by decide) (by decide) (by decide) (by decide)) ?_
  rintro _ w24 ⟨rfl, hR22, hc23⟩
  have hb25 : Below w.heap.size w w21 := (bstep hb17 hb20)
  have hb26 := chg_below hb25 hc23 (fun b hb => (by (try dsimp only at *); omega))
  refine WL.nil (WE.sub (K' := [(0, .bool false), (1, .pointer (some ⟨r, 0, none⟩)), (2, .int .i64 0), (21, .bool false)]) ⟨rfl, rfl, rfl, rfl, trivial⟩ ?_)
  refine WE.next ?_
  refine WC.seq ?_
  refine WC.region ?_
  refine WL.val (.pointer (some ⟨r, 0, none⟩)) rfl rfl rfl (fun za zC zh zk => wp_move rfl (zh.ev rfl) zk) ?_
  refine WL.call rfl rfl rfl (fun za zh zC => wp_call (by kernel_rfl) rfl (hv1 (zh.ev rfl))) (sized_any 2 (by decide) _) ?_
  rintro _ w30 ⟨⟨gc27, rfl, hi28⟩, hb29⟩
  refine WL.call rfl rfl rfl (fun za zh zC => wp_call (by kernel_rfl) rfl (hv4 (zh.ev rfl) (zh.ev rfl) (zh.ev rfl) (zh.ev rfl))) (add_ok (W := w) (n := 7) (k := 2) (times := 2) _ hR22 hb29 (Nat.le_trans hb26.size hb29.size) hi28 (by decide) (by decide) (by decide) (by decide)) ?_
  rintro _ w33 ⟨rfl, hR31, hc32⟩
  have hb34 : Below w.heap.size w w30 := (bstep hb26 hb29)
  have hb35 := chg_below hb34 hc32 (fun b hb => (by (try dsimp only at *); omega))
  refine WL.nil (WE.sub (K' := [(0, .bool false), (1, .pointer (some ⟨r, 0, none⟩)), (2, .int .i64 0), (21, .bool false)]) ⟨rfl, rfl, rfl, rfl, trivial⟩ ?_)
  refine WE.next ?_
  refine WC.seq ?_
  refine WC.region ?_
  refine WL.val (.pointer (some ⟨r, 0, none⟩)) rfl rfl rfl (fun za zC zh zk => wp_move rfl (zh.ev rfl) zk) ?_
  refine WL.call rfl rfl rfl (fun za zh zC => wp_call (by kernel_rfl) rfl (hv1 (zh.ev rfl))) (sized_any 0 (by decide) _) ?_
  rintro _ w39 ⟨⟨gc36, rfl, hi37⟩, hb38⟩
  refine WL.call rfl rfl rfl (fun za zh zC => wp_call (by kernel_rfl) rfl (hv4 (zh.ev rfl) (zh.ev rfl) (zh.ev rfl) (zh.ev rfl))) (add_ok (W := w) (n := 8) (k := 0) (times := 3) _ hR31 hb38 (Nat.le_trans hb35.size hb38.size) hi37 (by decide) (by decide) (by decide) (by decide)) ?_
  rintro _ w42 ⟨rfl, hR40, hc41⟩
  have hb43 : Below w.heap.size w w39 := (bstep hb35 hb38)
  have hb44 := chg_below hb43 hc41 (fun b hb => (by (try dsimp only at *); omega))
  refine WL.nil (WE.sub (K' := [(0, .bool false), (1, .pointer (some ⟨r, 0, none⟩)), (2, .int .i64 0), (21, .bool false)]) ⟨rfl, rfl, rfl, rfl, trivial⟩ ?_)
  refine WE.next ?_
  refine WC.seq ?_
  refine WC.seq ?_
  have hR45 : RoomIs w42 r (fun b => w.heap.size ≤ b ∧ b < w42.heap.size) wq (wst 0).1 4 (wst 0).2.1 (wst 0).2.2 := hR40.mono (fun b h1 h2 => ⟨h1, h2⟩)
  refine WC.region ?_
  refine WL.step (post := NewRow w42 3 #[.int .i64 8, .int .i64 6, .int .i64 5, .int .i64 7] 4) rfl rfl rfl (fun za zC zh zk => row_68_4 rfl (zh.ev rfl) (zh.ev rfl) (zh.ev rfl) (zh.ev rfl) (zk _ _ (newRow _ _ _ _))) ?_
  rintro _ w46 ⟨g47, rfl, hg48, hB49, hb50, hz51⟩
  have hl52 : w.heap.size ≤ g47 := by have z2 := (hb44).size; omega
  refine WL.val (.int .i64 4) rfl rfl rfl (fun za zC zh zk => len_68 rfl (zh.ev rfl) zk) ?_
  refine WL.val (.int .i64 0) rfl rfl rfl (fun za zC zh zk => wp_move rfl (zh.ev rfl) zk) ?_
  refine WL.nil (WE.sub (K' := [(0, .bool false), (1, .pointer (some ⟨r, 0, none⟩)), (2, .int .i64 0), (21, .bool false), (34, .slice ((some ⟨g47, 0, none⟩)) 4 4), (35, .int .i64 4), (36, .int .i64 0)]) ⟨rfl, rfl, rfl, rfl, rfl, rfl, rfl, trivial⟩ ?_)
  refine WE.next ?_
  refine WC.block ?_
  have ho53 := hR45.below hb50
  refine WC.loop (X := Nat × (Nat → Prop)) (fun y => 4 - y.1) (fun y => [(1, .pointer (some ⟨r, 0, none⟩)), (2, .int .i64 0), (21, .bool false), (34, .slice ((some ⟨g47, 0, none⟩)) 4 4), (35, .int .i64 4), (36, .int .i64 (((y.1 : Nat) : Int)))]) (fun y w54 => y.1 ≤ 4 ∧ (∀ b, y.2 b → w.heap.size ≤ b) ∧ ¬ y.2 g47 ∧ RoomIs w54 r y.2 wq (wst y.1).1 4 (wst y.1).2.1 (wst y.1).2.2 ∧ Below w.heap.size w w54 ∧ Blk w54 g47 3 #[.int .i64 8, .int .i64 6, .int .i64 5, .int .i64 7]) (⟨0, (fun b => w.heap.size ≤ b ∧ b < w42.heap.size)⟩) ⟨rfl, rfl, rfl, rfl, rfl, rfl, trivial⟩ ?_ ?_
  · have hb55 : Below w.heap.size w w46 := (bstep hb44 hb50)
    exact ⟨Nat.zero_le _, fun b h => h.1, fun h => by have z := h.2; omega, ho53, hb55, hB49⟩
  · rintro y w54 ⟨hy, hzw, hng, hRm, hb56, hB57⟩
    obtain ⟨yk, z⟩ := y
    dsimp only at hy hzw hng hRm
    rcases (show yk = 0 ∨ yk = 1 ∨ yk = 2 ∨ yk = 3 ∨ yk = 4 by omega) with rfl | rfl | rfl | rfl | rfl
    · refine WC.seq ?_
      refine WC.region ?_
      refine WL.val (.bool true) rfl rfl rfl (fun za zC zh zk => lss_3 rfl (zh.ev rfl) (zh.ev rfl) zk) ?_
      refine WL.nil (WE.sub (K' := [(1, .pointer (some ⟨r, 0, none⟩)), (2, .int .i64 0), (21, .bool false), (34, .slice ((some ⟨g47, 0, none⟩)) 4 4), (35, .int .i64 4), (36, .int .i64 0), (37, .bool true)]) ⟨rfl, rfl, rfl, rfl, rfl, rfl, rfl, trivial⟩ ?_)
      refine WE.next ?_
      refine WC.seq ?_
      refine WC.condT rfl rfl ?_
      refine WC.skip ?_
      refine WE.next ?_
      refine WC.seq ?_
      refine WC.block ?_
      refine WC.seq ?_
      refine WC.region ?_
      refine WL.val (.pointer (some ⟨g47, 0, none⟩)) rfl rfl rfl (fun za zC zh zk => ix_68 (k := 0) rfl (zh.ev rfl) rfl (zh.ev rfl) (by first | omega | (simp; omega)) zk) ?_
      refine WL.val (.int .i64 8) rfl rfl rfl (fun za zC zh zk => ld_3 rfl (zh.ev rfl) ((hB57.cell 0).trans rfl) zk) ?_
      refine WL.val (.int .i64 8) rfl rfl rfl (fun za zC zh zk => wp_assign rfl (zh.ev rfl) zk) ?_
      refine WL.nil (WE.sub (K' := [(1, .pointer (some ⟨r, 0, none⟩)), (2, .int .i64 0), (4, .int .i64 8), (21, .bool false), (34, .slice ((some ⟨g47, 0, none⟩)) 4 4), (35, .int .i64 4), (36, .int .i64 0), (37, .bool true)]) ⟨rfl, rfl, rfl, rfl, rfl, rfl, rfl, rfl, trivial⟩ ?_)
      refine WE.next ?_
      refine WC.seq ?_
      refine WC.region ?_
      refine WL.val (.pointer (some ⟨r, 0, none⟩)) rfl rfl rfl (fun za zC zh zk => wp_move rfl (zh.ev rfl) zk) ?_
      have hl63 := hB57.lt
      refine WL.call rfl rfl rfl (fun za zh zC => wp_call (by kernel_rfl) rfl (hv1 (zh.ev rfl))) (next_ok (k := 0) (by decide) _ hRm) ?_
      rintro _ w64 ⟨rfl, hR59, hc60⟩
      have hb65 := chg_below hb56 hc60 (fun b hb => (by first | exact hng | (intro u; have z1 := hzw _ u; omega)))
      have hB66 := chg_blk hB57 hc60 (by first | exact hng | (intro u; have z1 := hzw _ u; omega))
      have hzw61 : ∀ b, (fun b => z b ∨ w54.heap.size ≤ b) b → w.heap.size ≤ b := fun b u => Or.elim u (hzw b) (fun u => by have z := hb56.size; omega)
      have hng62 : ¬ (fun b => z b ∨ w54.heap.size ≤ b) g47 := fun u => Or.elim u hng (fun u => by omega)
      refine WL.val (.tuple #[.int .i64 ((8)), .bool true]) rfl rfl rfl (fun za zC zh zk => wp_move rfl (zh.ev rfl) zk) ?_
      refine WL.val (.int .i64 ((8))) rfl rfl rfl (fun za zC zh zk => ext2_0 rfl (zh.ev rfl) zk) ?_
      refine WL.val (.bool true) rfl rfl rfl (fun za zC zh zk => ext2_1 rfl (zh.ev rfl) zk) ?_
      refine WL.val (.int .i64 ((8))) rfl rfl rfl (fun za zC zh zk => wp_assign rfl (zh.ev rfl) zk) ?_
      refine WL.val (.bool true) rfl rfl rfl (fun za zC zh zk => wp_assign rfl (zh.ev rfl) zk) ?_
      refine WL.nil (WE.sub (K' := [(1, .pointer (some ⟨r, 0, none⟩)), (2, .int .i64 0), (4, .int .i64 8), (5, .int .i64 ((8))), (6, .bool true), (21, .bool false), (34, .slice ((some ⟨g47, 0, none⟩)) 4 4), (35, .int .i64 4), (36, .int .i64 0), (37, .bool true)]) ⟨rfl, rfl, rfl, rfl, rfl, rfl, rfl, rfl, rfl, rfl, trivial⟩ ?_)
      refine WE.next ?_
      refine WC.seq ?_
      refine WC.region ?_
      refine WL.val (.bool true) rfl rfl rfl (fun za zC zh zk => wp_move rfl (zh.ev rfl) zk) ?_
      refine WL.val (.bool false) rfl rfl rfl (fun za zC zh zk => wp_not rfl (zh.ev rfl) zk) ?_
      refine WL.val (.bool false) rfl rfl rfl (fun za zC zh zk => wp_move rfl (zh.ev rfl) zk) ?_
      refine WL.want (d := 47) rfl rfl rfl ?_
      refine WL.val (.int .i64 ((8))) rfl rfl rfl (fun za zC zh zk => wp_move rfl (zh.ev rfl) zk) ?_
      refine WL.want (d := 47) rfl rfl rfl ?_
      refine WL.val (.int .i64 8) rfl rfl rfl (fun za zC zh zk => wp_move rfl (zh.ev rfl) zk) ?_
      refine WL.want (d := 47) rfl rfl rfl ?_
      refine WL.val (.bool false) rfl rfl rfl (fun za zC zh zk => neq_3 rfl (zh.ev rfl) (zh.ev rfl) zk) ?_
      refine WL.val (.bool false) rfl rfl rfl (fun za zC zh zk => wp_pickF rfl (zh.ev rfl) (zh.ev rfl) zk) ?_
      refine WL.nil (WE.sub (K' := [(1, .pointer (some ⟨r, 0, none⟩)), (2, .int .i64 0), (4, .int .i64 8), (5, .int .i64 ((8))), (6, .bool true), (21, .bool false), (34, .slice ((some ⟨g47, 0, none⟩)) 4 4), (35, .int .i64 4), (36, .int .i64 0), (37, .bool true), (51, .bool false)]) ⟨rfl, rfl, rfl, rfl, rfl, rfl, rfl, rfl, rfl, rfl, rfl, trivial⟩ ?_)
      refine WE.next ?_
      refine WC.condF rfl rfl ?_
      refine WC.skip ?_
      refine WE.blockNormal ?_
      refine WE.next ?_
      refine WC.region ?_
      refine WL.val (.int .i64 1) rfl rfl rfl (fun za zC zh zk => addb_3 rfl (zh.ev rfl) (zh.ev rfl) (wrap_eq (by omega) (by omega) (by omega)) zk) ?_
      refine WL.val (.int .i64 1) rfl rfl rfl (fun za zC zh zk => wp_move rfl (zh.ev rfl) zk) ?_
      refine WL.nil (WE.sub (K' := [(1, .pointer (some ⟨r, 0, none⟩)), (2, .int .i64 0), (4, .int .i64 8), (5, .int .i64 ((8))), (6, .bool true), (21, .bool false), (34, .slice ((some ⟨g47, 0, none⟩)) 4 4), (35, .int .i64 4), (36, .int .i64 1), (37, .bool true), (51, .bool false)]) ⟨rfl, rfl, rfl, rfl, rfl, rfl, rfl, rfl, rfl, rfl, rfl, trivial⟩ ?_)
      refine WE.round (⟨1, (fun b => z b ∨ w54.heap.size ≤ b)⟩) ⟨rfl, rfl, rfl, rfl, rfl, rfl, trivial⟩ ?_ ?_
      · exact ⟨by (try dsimp only); omega, hzw61, hng62, hR59, hb65, hB66⟩
      · (try dsimp only); omega
    · refine WC.seq ?_
      refine WC.region ?_
      refine WL.val (.bool true) rfl rfl rfl (fun za zC zh zk => lss_3 rfl (zh.ev rfl) (zh.ev rfl) zk) ?_
      refine WL.nil (WE.sub (K' := [(1, .pointer (some ⟨r, 0, none⟩)), (2, .int .i64 0), (21, .bool false), (34, .slice ((some ⟨g47, 0, none⟩)) 4 4), (35, .int .i64 4), (36, .int .i64 1), (37, .bool true)]) ⟨rfl, rfl, rfl, rfl, rfl, rfl, rfl, trivial⟩ ?_)
      refine WE.next ?_
      refine WC.seq ?_
      refine WC.condT rfl rfl ?_
      refine WC.skip ?_
      refine WE.next ?_
      refine WC.seq ?_
      refine WC.block ?_
      refine WC.seq ?_
      refine WC.region ?_
      refine WL.val (.pointer (some ⟨g47, 1, none⟩)) rfl rfl rfl (fun za zC zh zk => ix_68 (k := 1) rfl (zh.ev rfl) rfl (zh.ev rfl) (by first | omega | (simp; omega)) zk) ?_
      refine WL.val (.int .i64 6) rfl rfl rfl (fun za zC zh zk => ld_3 rfl (zh.ev rfl) ((hB57.cell 1).trans rfl) zk) ?_
      refine WL.val (.int .i64 6) rfl rfl rfl (fun za zC zh zk => wp_assign rfl (zh.ev rfl) zk) ?_
      refine WL.nil (WE.sub (K' := [(1, .pointer (some ⟨r, 0, none⟩)), (2, .int .i64 0), (4, .int .i64 6), (21, .bool false), (34, .slice ((some ⟨g47, 0, none⟩)) 4 4), (35, .int .i64 4), (36, .int .i64 1), (37, .bool true)]) ⟨rfl, rfl, rfl, rfl, rfl, rfl, rfl, rfl, trivial⟩ ?_)
      refine WE.next ?_
      refine WC.seq ?_
      refine WC.region ?_
      refine WL.val (.pointer (some ⟨r, 0, none⟩)) rfl rfl rfl (fun za zC zh zk => wp_move rfl (zh.ev rfl) zk) ?_
      have hl72 := hB57.lt
      refine WL.call rfl rfl rfl (fun za zh zC => wp_call (by kernel_rfl) rfl (hv1 (zh.ev rfl))) (next_ok (k := 1) (by decide) _ hRm) ?_
      rintro _ w73 ⟨rfl, hR68, hc69⟩
      have hb74 := chg_below hb56 hc69 (fun b hb => (by first | exact hng | (intro u; have z1 := hzw _ u; omega)))
      have hB75 := chg_blk hB57 hc69 (by first | exact hng | (intro u; have z1 := hzw _ u; omega))
      have hzw70 : ∀ b, (fun b => z b ∨ w54.heap.size ≤ b) b → w.heap.size ≤ b := fun b u => Or.elim u (hzw b) (fun u => by have z := hb56.size; omega)
      have hng71 : ¬ (fun b => z b ∨ w54.heap.size ≤ b) g47 := fun u => Or.elim u hng (fun u => by omega)
      refine WL.val (.tuple #[.int .i64 ((6)), .bool true]) rfl rfl rfl (fun za zC zh zk => wp_move rfl (zh.ev rfl) zk) ?_
      refine WL.val (.int .i64 ((6))) rfl rfl rfl (fun za zC zh zk => ext2_0 rfl (zh.ev rfl) zk) ?_
      refine WL.val (.bool true) rfl rfl rfl (fun za zC zh zk => ext2_1 rfl (zh.ev rfl) zk) ?_
      refine WL.val (.int .i64 ((6))) rfl rfl rfl (fun za zC zh zk => wp_assign rfl (zh.ev rfl) zk) ?_
      refine WL.val (.bool true) rfl rfl rfl (fun za zC zh zk => wp_assign rfl (zh.ev rfl) zk) ?_
      refine WL.nil (WE.sub (K' := [(1, .pointer (some ⟨r, 0, none⟩)), (2, .int .i64 0), (4, .int .i64 6), (5, .int .i64 ((6))), (6, .bool true), (21, .bool false), (34, .slice ((some ⟨g47, 0, none⟩)) 4 4), (35, .int .i64 4), (36, .int .i64 1), (37, .bool true)]) ⟨rfl, rfl, rfl, rfl, rfl, rfl, rfl, rfl, rfl, rfl, trivial⟩ ?_)
      refine WE.next ?_
      refine WC.seq ?_
      refine WC.region ?_
      refine WL.val (.bool true) rfl rfl rfl (fun za zC zh zk => wp_move rfl (zh.ev rfl) zk) ?_
      refine WL.val (.bool false) rfl rfl rfl (fun za zC zh zk => wp_not rfl (zh.ev rfl) zk) ?_
      refine WL.val (.bool false) rfl rfl rfl (fun za zC zh zk => wp_move rfl (zh.ev rfl) zk) ?_
      refine WL.want (d := 47) rfl rfl rfl ?_
      refine WL.val (.int .i64 ((6))) rfl rfl rfl (fun za zC zh zk => wp_move rfl (zh.ev rfl) zk) ?_
      refine WL.want (d := 47) rfl rfl rfl ?_
      refine WL.val (.int .i64 6) rfl rfl rfl (fun za zC zh zk => wp_move rfl (zh.ev rfl) zk) ?_
      refine WL.want (d := 47) rfl rfl rfl ?_
      refine WL.val (.bool false) rfl rfl rfl (fun za zC zh zk => neq_3 rfl (zh.ev rfl) (zh.ev rfl) zk) ?_
      refine WL.val (.bool false) rfl rfl rfl (fun za zC zh zk => wp_pickF rfl (zh.ev rfl) (zh.ev rfl) zk) ?_
      refine WL.nil (WE.sub (K' := [(1, .pointer (some ⟨r, 0, none⟩)), (2, .int .i64 0), (4, .int .i64 6), (5, .int .i64 ((6))), (6, .bool true), (21, .bool false), (34, .slice ((some ⟨g47, 0, none⟩)) 4 4), (35, .int .i64 4), (36, .int .i64 1), (37, .bool true), (51, .bool false)]) ⟨rfl, rfl, rfl, rfl, rfl, rfl, rfl, rfl, rfl, rfl, rfl, trivial⟩ ?_)
      refine WE.next ?_
      refine WC.condF rfl rfl ?_
      refine WC.skip ?_
      refine WE.blockNormal ?_
      refine WE.next ?_
      refine WC.region ?_
      refine WL.val (.int .i64 2) rfl rfl rfl (fun za zC zh zk => addb_3 rfl (zh.ev rfl) (zh.ev rfl) (wrap_eq (by omega) (by omega) (by omega)) zk) ?_
      refine WL.val (.int .i64 2) rfl rfl rfl (fun za zC zh zk => wp_move rfl (zh.ev rfl) zk) ?_
      refine WL.nil (WE.sub (K' := [(1, .pointer (some ⟨r, 0, none⟩)), (2, .int .i64 0), (4, .int .i64 6), (5, .int .i64 ((6))), (6, .bool true), (21, .bool false), (34, .slice ((some ⟨g47, 0, none⟩)) 4 4), (35, .int .i64 4), (36, .int .i64 2), (37, .bool true), (51, .bool false)]) ⟨rfl, rfl, rfl, rfl, rfl, rfl, rfl, rfl, rfl, rfl, rfl, trivial⟩ ?_)
      refine WE.round (⟨2, (fun b => z b ∨ w54.heap.size ≤ b)⟩) ⟨rfl, rfl, rfl, rfl, rfl, rfl, trivial⟩ ?_ ?_
      · exact ⟨by (try dsimp only); omega, hzw70, hng71, hR68, hb74, hB75⟩
      · (try dsimp only); omega
    · refine WC.seq ?_
      refine WC.region ?_
      refine WL.val (.bool true) rfl rfl rfl (fun za zC zh zk => lss_3 rfl (zh.ev rfl) (zh.ev rfl) zk) ?_
      refine WL.nil (WE.sub (K' := [(1, .pointer (some ⟨r, 0, none⟩)), (2, .int .i64 0), (21, .bool false), (34, .slice ((some ⟨g47, 0, none⟩)) 4 4), (35, .int .i64 4), (36, .int .i64 2), (37, .bool true)]) ⟨rfl, rfl, rfl, rfl, rfl, rfl, rfl, trivial⟩ ?_)
      refine WE.next ?_
      refine WC.seq ?_
      refine WC.condT rfl rfl ?_
      refine WC.skip ?_
      refine WE.next ?_
      refine WC.seq ?_
      refine WC.block ?_
      refine WC.seq ?_
      refine WC.region ?_
      refine WL.val (.pointer (some ⟨g47, 2, none⟩)) rfl rfl rfl (fun za zC zh zk => ix_68 (k := 2) rfl (zh.ev rfl) rfl (zh.ev rfl) (by first | omega | (simp; omega)) zk) ?_
      refine WL.val (.int .i64 5) rfl rfl rfl (fun za zC zh zk => ld_3 rfl (zh.ev rfl) ((hB57.cell 2).trans rfl) zk) ?_
      refine WL.val (.int .i64 5) rfl rfl rfl (fun za zC zh zk => wp_assign rfl (zh.ev rfl) zk) ?_
      refine WL.nil (WE.sub (K' := [(1, .pointer (some ⟨r, 0, none⟩)), (2, .int .i64 0), (4, .int .i64 5), (21, .bool false), (34, .slice ((some ⟨g47, 0, none⟩)) 4 4), (35, .int .i64 4), (36, .int .i64 2), (37, .bool true)]) ⟨rfl, rfl, rfl, rfl, rfl, rfl, rfl, rfl, trivial⟩ ?_)
      refine WE.next ?_
      refine WC.seq ?_
      refine WC.region ?_
      refine WL.val (.pointer (some ⟨r, 0, none⟩)) rfl rfl rfl (fun za zC zh zk => wp_move rfl (zh.ev rfl) zk) ?_
      have hl81 := hB57.lt
      refine WL.call rfl rfl rfl (fun za zh zC => wp_call (by kernel_rfl) rfl (hv1 (zh.ev rfl))) (next_ok (k := 2) (by decide) _ hRm) ?_
      rintro _ w82 ⟨rfl, hR77, hc78⟩
      have hb83 := chg_below hb56 hc78 (fun b hb => (by first | exact hng | (intro u; have z1 := hzw _ u; omega)))
      have hB84 := chg_blk hB57 hc78 (by first | exact hng | (intro u; have z1 := hzw _ u; omega))
      have hzw79 : ∀ b, (fun b => z b ∨ w54.heap.size ≤ b) b → w.heap.size ≤ b := fun b u => Or.elim u (hzw b) (fun u => by have z := hb56.size; omega)
      have hng80 : ¬ (fun b => z b ∨ w54.heap.size ≤ b) g47 := fun u => Or.elim u hng (fun u => by omega)
      refine WL.val (.tuple #[.int .i64 ((5)), .bool true]) rfl rfl rfl (fun za zC zh zk => wp_move rfl (zh.ev rfl) zk) ?_
      refine WL.val (.int .i64 ((5))) rfl rfl rfl (fun za zC zh zk => ext2_0 rfl (zh.ev rfl) zk) ?_
      refine WL.val (.bool true) rfl rfl rfl (fun za zC zh zk => ext2_1 rfl (zh.ev rfl) zk) ?_
      refine WL.val (.int .i64 ((5))) rfl rfl rfl (fun za zC zh zk => wp_assign rfl (zh.ev rfl) zk) ?_
      refine WL.val (.bool true) rfl rfl rfl (fun za zC zh zk => wp_assign rfl (zh.ev rfl) zk) ?_
      refine WL.nil (WE.sub (K' := [(1, .pointer (some ⟨r, 0, none⟩)), (2, .int .i64 0), (4, .int .i64 5), (5, .int .i64 ((5))), (6, .bool true), (21, .bool false), (34, .slice ((some ⟨g47, 0, none⟩)) 4 4), (35, .int .i64 4), (36, .int .i64 2), (37, .bool true)]) ⟨rfl, rfl, rfl, rfl, rfl, rfl, rfl, rfl, rfl, rfl, trivial⟩ ?_)
      refine WE.next ?_
      refine WC.seq ?_
      refine WC.region ?_
      refine WL.val (.bool true) rfl rfl rfl (fun za zC zh zk => wp_move rfl (zh.ev rfl) zk) ?_
      refine WL.val (.bool false) rfl rfl rfl (fun za zC zh zk => wp_not rfl (zh.ev rfl) zk) ?_
      refine WL.val (.bool false) rfl rfl rfl (fun za zC zh zk => wp_move rfl (zh.ev rfl) zk) ?_
      refine WL.want (d := 47) rfl rfl rfl ?_
      refine WL.val (.int .i64 ((5))) rfl rfl rfl (fun za zC zh zk => wp_move rfl (zh.ev rfl) zk) ?_
      refine WL.want (d := 47) rfl rfl rfl ?_
      refine WL.val (.int .i64 5) rfl rfl rfl (fun za zC zh zk => wp_move rfl (zh.ev rfl) zk) ?_
      refine WL.want (d := 47) rfl rfl rfl ?_
      refine WL.val (.bool false) rfl rfl rfl (fun za zC zh zk => neq_3 rfl (zh.ev rfl) (zh.ev rfl) zk) ?_
      refine WL.val (.bool false) rfl rfl rfl (fun za zC zh zk => wp_pickF rfl (zh.ev rfl) (zh.ev rfl) zk) ?_
      refine WL.nil (WE.sub (K' := [(1, .pointer (some ⟨r, 0, none⟩)), (2, .int .i64 0), (4, .int .i64 5), (5, .int .i64 ((5))), (6, .bool true), (21, .bool false), (34, .slice ((some ⟨g47, 0, none⟩)) 4 4), (35, .int .i64 4), (36, .int .i64 2), (37, .bool true), (51, .bool false)]) ⟨rfl, rfl, rfl, rfl, rfl, rfl, rfl, rfl, rfl, rfl, rfl, trivial⟩ ?_)
      refine WE.next ?_
      refine WC.condF rfl rfl ?_
      refine WC.skip ?_
      refine WE.blockNormal ?_
      refine WE.next ?_
      refine WC.region ?_
      refine WL.val (.int .i64 3) rfl rfl rfl (fun za zC zh zk => addb_3 rfl (zh.ev rfl) (zh.ev rfl) (wrap_eq (by omega) (by omega) (by omega)) zk) ?_
      refine WL.val (.int .i64 3) rfl rfl rfl (fun za zC zh zk => wp_move rfl (zh.ev rfl) zk) ?_
      refine WL.nil (WE.sub (K' := [(1, .pointer (some ⟨r, 0, none⟩)), (2, .int .i64 0), (4, .int .i64 5), (5, .int .i64 ((5))), (6, .bool true), (21, .bool false), (34, .slice ((some ⟨g47, 0, none⟩)) 4 4), (35, .int .i64 4), (36, .int .i64 3), (37, .bool true), (51, .bool false)]) ⟨rfl, rfl, rfl, rfl, rfl, rfl, rfl, rfl, rfl, rfl, rfl, trivial⟩ ?_)
      refine WE.round (⟨3, (fun b => z b ∨ w54.heap.size ≤ b)⟩) ⟨rfl, rfl, rfl, rfl, rfl, rfl, trivial⟩ ?_ ?_
      · exact ⟨by (try dsimp only); omega, hzw79, hng80, hR77, hb83, hB84⟩
      · (try dsimp only); omega
    · refine WC.seq ?_
      refine WC.region ?_
      refine WL.val (.bool true) rfl rfl rfl (fun za zC zh zk => lss_3 rfl (zh.ev rfl) (zh.ev rfl) zk) ?_
      refine WL.nil (WE.sub (K' := [(1, .pointer (some ⟨r, 0, none⟩)), (2, .int .i64 0), (21, .bool false), (34, .slice ((some ⟨g47, 0, none⟩)) 4 4), (35, .int .i64 4), (36, .int .i64 3), (37, .bool true)]) ⟨rfl, rfl, rfl, rfl, rfl, rfl, rfl, trivial⟩ ?_)
      refine WE.next ?_
      refine WC.seq ?_
      refine WC.condT rfl rfl ?_
      refine WC.skip ?_
      refine WE.next ?_
      refine WC.seq ?_
      refine WC.block ?_
      refine WC.seq ?_
      refine WC.region ?_
      refine WL.val (.pointer (some ⟨g47, 3, none⟩)) rfl rfl rfl (fun za zC zh zk => ix_68 (k := 3) rfl (zh.ev rfl) rfl (zh.ev rfl) (by first | omega | (simp; omega)) zk) ?_
      refine WL.val (.int .i64 7) rfl rfl rfl (fun za zC zh zk => ld_3 rfl (zh.ev rfl) ((hB57.cell 3).trans rfl) zk) ?_
      refine WL.val (.int .i64 7) rfl rfl rfl (fun za zC zh zk => wp_assign rfl (zh.ev rfl) zk) ?_
      refine WL.nil (WE.sub (K' := [(1, .pointer (some ⟨r, 0, none⟩)), (2, .int .i64 0), (4, .int .i64 7), (21, .bool false), (34, .slice ((some ⟨g47, 0, none⟩)) 4 4), (35, .int .i64 4), (36, .int .i64 3), (37, .bool true)]) ⟨rfl, rfl, rfl, rfl, rfl, rfl, rfl, rfl, trivial⟩ ?_)
      refine WE.next ?_
      refine WC.seq ?_
      refine WC.region ?_
      refine WL.val (.pointer (some ⟨r, 0, none⟩)) rfl rfl rfl (fun za zC zh zk => wp_move rfl (zh.ev rfl) zk) ?_
      have hl90 := hB57.lt
      refine WL.call rfl rfl rfl (fun za zh zC => wp_call (by kernel_rfl) rfl (hv1 (zh.ev rfl))) (next_ok (k := 3) (by decide) _ hRm) ?_
      rintro _ w91 ⟨rfl, hR86, hc87⟩
      have hb92 := chg_below hb56 hc87 (fun b hb => (by first | exact hng | (intro u; have z1 := hzw _ u; omega)))
      have hB93 := chg_blk hB57 hc87 (by first | exact hng | (intro u; have z1 := hzw _ u; omega))
      have hzw88 : ∀ b, (fun b => z b ∨ w54.heap.size ≤ b) b → w.heap.size ≤ b := fun b u => Or.elim u (hzw b) (fun u => by have z := hb56.size; omega)
      have hng89 : ¬ (fun b => z b ∨ w54.heap.size ≤ b) g47 := fun u => Or.elim u hng (fun u => by omega)
      refine WL.val (.tuple #[.int .i64 ((7)), .bool true]) rfl rfl rfl (fun za zC zh zk => wp_move rfl (zh.ev rfl) zk) ?_
      refine WL.val (.int .i64 ((7))) rfl rfl rfl (fun za zC zh zk => ext2_0 rfl (zh.ev rfl) zk) ?_
      refine WL.val (.bool true) rfl rfl rfl (fun za zC zh zk => ext2_1 rfl (zh.ev rfl) zk) ?_
      refine WL.val (.int .i64 ((7))) rfl rfl rfl (fun za zC zh zk => wp_assign rfl (zh.ev rfl) zk) ?_
      refine WL.val (.bool true) rfl rfl rfl (fun za zC zh zk => wp_assign rfl (zh.ev rfl) zk) ?_
      refine WL.nil (WE.sub (K' := [(1, .pointer (some ⟨r, 0, none⟩)), (2, .int .i64 0), (4, .int .i64 7), (5, .int .i64 ((7))), (6, .bool true), (21, .bool false), (34, .slice ((some ⟨g47, 0, none⟩)) 4 4), (35, .int .i64 4), (36, .int .i64 3), (37, .bool true)]) ⟨rfl, rfl, rfl, rfl, rfl, rfl, rfl, rfl, rfl, rfl, trivial⟩ ?_)
      refine WE.next ?_
      refine WC.seq ?_
      refine WC.region ?_
      refine WL.val (.bool true) rfl rfl rfl (fun za zC zh zk => wp_move rfl (zh.ev rfl) zk) ?_
      refine WL.val (.bool false) rfl rfl rfl (fun za zC zh zk => wp_not rfl (zh.ev rfl) zk) ?_
      refine WL.val (.bool false) rfl rfl rfl (fun za zC zh zk => wp_move rfl (zh.ev rfl) zk) ?_
      refine WL.want (d := 47) rfl rfl rfl ?_
      refine WL.val (.int .i64 ((7))) rfl rfl rfl (fun za zC zh zk => wp_move rfl (zh.ev rfl) zk) ?_
      refine WL.want (d := 47) rfl rfl rfl ?_
      refine WL.val (.int .i64 7) rfl rfl rfl (fun za zC zh zk => wp_move rfl (zh.ev rfl) zk) ?_
      refine WL.want (d := 47) rfl rfl rfl ?_
      refine WL.val (.bool false) rfl rfl rfl (fun za zC zh zk => neq_3 rfl (zh.ev rfl) (zh.ev rfl) zk) ?_
      refine WL.val (.bool false) rfl rfl rfl (fun za zC zh zk => wp_pickF rfl (zh.ev rfl) (zh.ev rfl) zk) ?_
      refine WL.nil (WE.sub (K' := [(1, .pointer (some ⟨r, 0, none⟩)), (2, .int .i64 0), (4, .int .i64 7), (5, .int .i64 ((7))), (6, .bool true), (21, .bool false), (34, .slice ((some ⟨g47, 0, none⟩)) 4 4), (35, .int .i64 4), (36, .int .i64 3), (37, .bool true), (51, .bool false)]) ⟨rfl, rfl, rfl, rfl, rfl, rfl, rfl, rfl, rfl, rfl, rfl, trivial⟩ ?_)
      refine WE.next ?_
      refine WC.condF rfl rfl ?_
      refine WC.skip ?_
      refine WE.blockNormal ?_
      refine WE.next ?_
      refine WC.region ?_
      refine WL.val (.int .i64 4) rfl rfl rfl (fun za zC zh zk => addb_3 rfl (zh.ev rfl) (zh.ev rfl) (wrap_eq (by omega) (by omega) (by omega)) zk) ?_
      refine WL.val (.int .i64 4) rfl rfl rfl (fun za zC zh zk => wp_move rfl (zh.ev rfl) zk) ?_
      refine WL.nil (WE.sub (K' := [(1, .pointer (some ⟨r, 0, none⟩)), (2, .int .i64 0), (4, .int .i64 7), (5, .int .i64 ((7))), (6, .bool true), (21, .bool false), (34, .slice ((some ⟨g47, 0, none⟩)) 4 4), (35, .int .i64 4), (36, .int .i64 4), (37, .bool true), (51, .bool false)]) ⟨rfl, rfl, rfl, rfl, rfl, rfl, rfl, rfl, rfl, rfl, rfl, trivial⟩ ?_)
      refine WE.round (⟨4, (fun b => z b ∨ w54.heap.size ≤ b)⟩) ⟨rfl, rfl, rfl, rfl, rfl, rfl, trivial⟩ ?_ ?_
      · exact ⟨by (try dsimp only); omega, hzw88, hng89, hR86, hb92, hB93⟩
      · (try dsimp only); omega
    · refine WC.seq ?_
      refine WC.region ?_
      refine WL.val (.bool false) rfl rfl rfl (fun za zC zh zk => lss_3 rfl (zh.ev rfl) (zh.ev rfl) zk) ?_
      refine WL.nil (WE.sub (K' := [(1, .pointer (some ⟨r, 0, none⟩)), (2, .int .i64 0), (21, .bool false), (34, .slice ((some ⟨g47, 0, none⟩)) 4 4), (35, .int .i64 4), (36, .int .i64 4), (37, .bool false)]) ⟨rfl, rfl, rfl, rfl, rfl, rfl, rfl, trivial⟩ ?_)
      refine WE.next ?_
      refine WC.seq ?_
      refine WC.condF rfl rfl ?_
      refine WC.exit ?_
      refine WE.thenExit ?_
      refine WE.thenExit ?_
      refine WE.blockIs rfl ?_
      refine WE.next ?_
      refine WC.seq ?_
      refine WC.region ?_
      refine WL.val (.pointer (some ⟨r, 0, none⟩)) rfl rfl rfl (fun za zC zh zk => wp_move rfl (zh.ev rfl) zk) ?_
      refine WL.call rfl rfl rfl (fun za zh zC => wp_call (by kernel_rfl) rfl (hv1 (zh.ev rfl))) (next_end _ hRm (by decide)) ?_
      rintro _ w95 ⟨rfl, hb94⟩
      refine WL.val (.tuple #[.int .i64 0, .bool false]) rfl rfl rfl (fun za zC zh zk => wp_move rfl (zh.ev rfl) zk) ?_
      refine WL.val (.int .i64 0) rfl rfl rfl (fun za zC zh zk => ext2_0 rfl (zh.ev rfl) zk) ?_
      refine WL.val (.bool false) rfl rfl rfl (fun za zC zh zk => ext2_1 rfl (zh.ev rfl) zk) ?_
      refine WL.val (.int .i64 0) rfl rfl rfl (fun za zC zh zk => wp_assign rfl (zh.ev rfl) zk) ?_
      refine WL.val (.bool false) rfl rfl rfl (fun za zC zh zk => wp_assign rfl (zh.ev rfl) zk) ?_
      refine WL.nil (WE.sub (K' := [(1, .pointer (some ⟨r, 0, none⟩)), (2, .int .i64 0), (8, .bool false), (21, .bool false), (34, .slice ((some ⟨g47, 0, none⟩)) 4 4), (35, .int .i64 4), (36, .int .i64 4), (37, .bool false)]) ⟨rfl, rfl, rfl, rfl, rfl, rfl, rfl, rfl, trivial⟩ ?_)
      refine WE.next ?_
      refine WC.seq ?_
      refine WC.region ?_
      refine WL.val (.bool false) rfl rfl rfl (fun za zC zh zk => wp_move rfl (zh.ev rfl) zk) ?_
      refine WL.val (.bool true) rfl rfl rfl (fun za zC zh zk => wp_not rfl (zh.ev rfl) zk) ?_
      refine WL.val (.bool true) rfl rfl rfl (fun za zC zh zk => wp_move rfl (zh.ev rfl) zk) ?_
      refine WL.want (d := 60) rfl rfl rfl ?_
      refine WL.val (.pointer (some ⟨r, 0, none⟩)) rfl rfl rfl (fun za zC zh zk => wp_move rfl (zh.ev rfl) zk) ?_
      refine WL.want (d := 60) rfl rfl rfl ?_
      have ho96 := hRm.below hb94
      refine WL.call rfl rfl rfl (fun za zh zC => wp_call (by kernel_rfl) rfl (hv1 (zh.ev rfl))) (len_any r _ wq [] 4 _ _ _ ho96) ?_
      rintro _ w98 ⟨rfl, hq97⟩
      refine WL.want (d := 60) rfl rfl rfl ?_
      refine WL.val (.bool true) rfl rfl rfl (fun za zC zh zk => eql_3 rfl (zh.ev rfl) (zh.ev rfl) zk) ?_
      refine WL.val (.bool true) rfl rfl rfl (fun za zC zh zk => wp_pickT rfl (zh.ev rfl) (zh.ev rfl) zk) ?_
      refine WL.val (.bool true) rfl rfl rfl (fun za zC zh zk => wp_assign rfl (zh.ev rfl) zk) ?_
      refine WL.nil (WE.sub (K' := [(0, .bool true), (1, .pointer (some ⟨r, 0, none⟩)), (2, .int .i64 0), (8, .bool false), (21, .bool false), (34, .slice ((some ⟨g47, 0, none⟩)) 4 4), (35, .int .i64 4), (36, .int .i64 4), (37, .bool false)]) ⟨rfl, rfl, rfl, rfl, rfl, rfl, rfl, rfl, rfl, trivial⟩ ?_)
      refine WE.next ?_
      refine WC.ret ?_
      refine WE.ret1 rfl rfl ?_
      have hb99 : Below w.heap.size w w98 := (bstep (bstep hb56 hb94) hq97)
      exact ⟨_, rfl, rfl, hb99⟩

end Go.Proofs.Ytjhkoiggeepajaa
