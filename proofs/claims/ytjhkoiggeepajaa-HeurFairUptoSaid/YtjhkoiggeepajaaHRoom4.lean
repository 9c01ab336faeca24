/- A room is made. -/
import Derived.Test.YtjhkoiggeepajaaHRoom3
import Derived.Test.YtjhkoiggeepajaaRoomN
namespace Go.Proofs.Ytjhkoiggeepajaa
open Go.RowKit Go
set_option linter.unusedVariables false
set_option linter.unusedSimpArgs false

set_option maxRecDepth 100000 in
theorem new_any (q : List Qu) (w : World) (a : Option Addr) (c : Nat) (hq : IsQs w q a) (hcap : q.length ≤ c) : Calls Try.prog 11 #[.slice a q.length c] w (Ret fun v' w' => (qsOk q = false ∧ v' = .tuple #[.pointer none, .int .i64 2] ∧ Below w.heap.size w w') ∨ (qsOk q = true ∧ (∃ r, v' = .tuple #[.pointer (some ⟨r, 0, none⟩), .int .i64 0] ∧ RoomIs w' r (fun b => w.heap.size ≤ b) q [] 0 0 0) ∧ Below w.heap.size w w')) := by
  refine Calls.walk (l := [.slice a q.length c]) Try.func11 rfl (by kernel_rfl) ?_
  refine WC.sub (K' := [(0, .slice a q.length c)]) ⟨rfl, trivial⟩ ?_
  refine WC.seq ?_
  refine WC.region ?_
  refine WL.val (.pointer none) rfl rfl rfl (fun za zC zh zk => wp_assign rfl (zh.ev rfl) zk) ?_
  refine WL.val (.int .i64 0) rfl rfl rfl (fun za zC zh zk => wp_assign rfl (zh.ev rfl) zk) ?_
  refine WL.nil (WE.sub (K' := [(0, .slice a q.length c), (2, .pointer none), (3, .int .i64 0)]) ⟨rfl, rfl, rfl, trivial⟩ ?_)
  refine WE.next ?_
  refine WC.seq ?_
  refine WC.seq ?_
  refine WC.opt [(true, .val (.slice a q.length c)), (true, .val (.int .i64 (((q.length : Nat) : Int)))), (true, .val (.bool ((decide ((((q.length : Nat) : Int) : Int) < (1 : Int)))))), (true, .val (.bool ((decide ((((q.length : Nat) : Int) : Int) < (1 : Int)))))), ((true && !(decide ((((q.length : Nat) : Int) : Int) < (1 : Int)))), .val (.slice a q.length c)), ((true && !(decide ((((q.length : Nat) : Int) : Int) < (1 : Int)))), .val (.int .i64 (((q.length : Nat) : Int)))), ((true && !(decide ((((q.length : Nat) : Int) : Int) < (1 : Int)))), .val (.bool ((decide ((8 : Int) < (((q.length : Nat) : Int) : Int)))))), (true, .val (.bool (((decide ((((q.length : Nat) : Int) : Int) < (1 : Int))) || (decide ((8 : Int) < (((q.length : Nat) : Int) : Int)))))))] [(0, .slice a q.length c), (2, .pointer none), (3, .int .i64 0)] ⟨rfl, rfl, rfl, trivial⟩ (by kernel_rfl) (by kernel_rfl) (by kernel_rfl) ?_ ?_
  · refine ⟨⟨true, .none rfl, fun h w => optUndef h, fun zβ za zw zc => ?_⟩, ?_⟩
    · exact wp_move rfl (zc.kn.ev rfl) ⟨_, rfl, Below.refl _ _, optDef zβ rfl⟩
    refine ⟨⟨true, .none rfl, fun h w => optUndef h, fun zβ za zw zc => ?_⟩, ?_⟩
    · exact len_30 rfl ((show za.eval (.tmp 7) = za.tmps.getD 7 undef from rfl).trans (optVal (zc.dep 0 7 (by kernel_rfl)) rfl rfl)) ⟨_, rfl, Below.refl _ _, optDef zβ rfl⟩
    refine ⟨⟨true, .none rfl, fun h w => optUndef h, fun zβ za zw zc => ?_⟩, ?_⟩
    · exact lss_3 rfl ((show za.eval (.tmp 8) = za.tmps.getD 8 undef from rfl).trans (optVal (zc.dep 1 8 (by kernel_rfl)) rfl rfl)) (zc.kn.ev rfl) ⟨_, rfl, Below.refl _ _, optDef zβ rfl⟩
    refine ⟨⟨true, .none rfl, fun h w => optUndef h, fun zβ za zw zc => ?_⟩, ?_⟩
    · exact wp_move rfl ((show za.eval (.tmp 9) = za.tmps.getD 9 undef from rfl).trans (optVal (zc.dep 2 9 (by kernel_rfl)) rfl rfl)) ⟨_, rfl, Below.refl _ _, optDef zβ rfl⟩
    refine ⟨⟨(true && !(decide ((((q.length : Nat) : Int) : Int) < (1 : Int)))), .no (c := (decide ((((q.length : Nat) : Int) : Int) < (1 : Int)))) (d := true) rfl (fun v w h => h), fun h w => optUndef h, fun zβ za zw zc => ?_⟩, ?_⟩
    · exact wp_move rfl (zc.kn.ev rfl) ⟨_, rfl, Below.refl _ _, optDef zβ rfl⟩
    refine ⟨⟨(true && !(decide ((((q.length : Nat) : Int) : Int) < (1 : Int)))), .no (c := (decide ((((q.length : Nat) : Int) : Int) < (1 : Int)))) (d := true) rfl (fun v w h => h), fun h w => optUndef h, fun zβ za zw zc => ?_⟩, ?_⟩
    · exact len_30 rfl ((show za.eval (.tmp 11) = za.tmps.getD 11 undef from rfl).trans (optVal (zc.dep 4 11 (by kernel_rfl)) rfl zβ)) ⟨_, rfl, Below.refl _ _, optDef zβ rfl⟩
    refine ⟨⟨(true && !(decide ((((q.length : Nat) : Int) : Int) < (1 : Int)))), .no (c := (decide ((((q.length : Nat) : Int) : Int) < (1 : Int)))) (d := true) rfl (fun v w h => h), fun h w => optUndef h, fun zβ za zw zc => ?_⟩, ?_⟩
    · exact gtr_3 rfl ((show za.eval (.tmp 12) = za.tmps.getD 12 undef from rfl).trans (optVal (zc.dep 5 12 (by kernel_rfl)) rfl zβ)) (zc.kn.ev rfl) ⟨_, rfl, Below.refl _ _, optDef zβ rfl⟩
    refine ⟨⟨true, .none rfl, fun h w => optUndef h, fun zβ za zw zc => ?_⟩, ?_⟩
    · exact wp_or rfl ((show za.eval (.tmp 10) = za.tmps.getD 10 undef from rfl).trans (optVal (zc.dep 3 10 (by kernel_rfl)) rfl rfl)) (fun hp => ((show za.eval (.tmp 13) = za.tmps.getD 13 undef from rfl).trans (optVal (zc.dep 6 13 (by kernel_rfl)) rfl (bMkN zβ hp)))) ⟨_, rfl, Below.refl _ _, optDef zβ rfl⟩
    exact trivial
  · intro za w1 zh hb2 zu
    have zh := zh.cons (d := 14) (v := .bool (((decide ((((q.length : Nat) : Int) : Int) < (1 : Int))) || (decide ((8 : Int) < (((q.length : Nat) : Int) : Int)))))) (optVal (zu 7 14 (by kernel_rfl)) rfl rfl)
    clear zu
    refine (show WE _ [(0, .slice a q.length c), (2, .pointer none), (3, .int .i64 0), (14, .bool (((decide ((((q.length : Nat) : Int) : Int) < (1 : Int))) || (decide ((8 : Int) < (((q.length : Nat) : Int) : Int))))))] w1 _ .normal from ?_) za (zh.sub ⟨rfl, rfl, rfl, rfl, trivial⟩)
    refine WE.next ?_
    refine WC.cond rfl (fun h3 => ?_) (fun h3 => ?_)
    · have h3 : ((((q.length : Nat) : Int) : Int) < (1 : Int)) ∨ ((8 : Int) < (((q.length : Nat) : Int) : Int)) := by simpa using h3
      have hbad : qsOk q = false := by unfold qsOk; rw [Bool.and_eq_false_iff, Bool.and_eq_false_iff, decide_eq_false_iff_not, decide_eq_false_iff_not]; omega
      refine WC.seq ?_
      refine WC.region ?_
      refine WL.val (.pointer none) rfl rfl rfl (fun za zC zh zk => wp_assign rfl (zh.ev rfl) zk) ?_
      refine WL.val (.int .i64 2) rfl rfl rfl (fun za zC zh zk => wp_assign rfl (zh.ev rfl) zk) ?_
      refine WL.nil (WE.sub (K' := [(0, .slice a q.length c), (2, .pointer none), (3, .int .i64 2), (14, .bool (((decide ((((q.length : Nat) : Int) : Int) < (1 : Int))) || (decide ((8 : Int) < (((q.length : Nat) : Int) : Int))))))]) ⟨rfl, rfl, rfl, rfl, trivial⟩ ?_)
      refine WE.next ?_
      refine WC.ret ?_
      refine WE.thenRet ?_
      refine WE.ret2 rfl rfl rfl ?_
      exact ⟨_, rfl, .inl ⟨hbad, rfl, hb2⟩⟩
    · have h3 : ¬ (((((q.length : Nat) : Int) : Int) < (1 : Int)) ∨ ((8 : Int) < (((q.length : Nat) : Int) : Int))) := by simpa using h3
      have hq1 : 1 ≤ q.length := by omega
      have hq8 : q.length ≤ 8 := by omega
      have hqne : q ≠ [] := fun e => by rw [e] at hq1; simp at hq1
      refine WC.skip ?_
      refine WE.next ?_
      refine WC.seq ?_
      refine WC.region ?_
      refine WL.step (post := NewRow w1 38 #[] 0) rfl rfl rfl (fun za zC zh zk => row_30_0 rfl  (zk _ _ (newRow _ _ _ _))) ?_
      rintro _ w4 ⟨g5, rfl, hg6, hB7, hb8, hz9⟩
      have hl10 : w.heap.size ≤ g5 := by have z2 := (hb2).size; omega
      have hr11 : Own w4 (fun b => w.heap.size ≤ b) 38 2 (some ⟨g5, 0, none⟩) 0 0 [] := own_empty hB7 (by have z := (Nat.le_trans hb2.size hb8.size); omega)
      refine WL.val (.slice a q.length c) rfl rfl rfl (fun za zC zh zk => wp_move rfl (zh.ev rfl) zk) ?_
      have hb12 : Below w.heap.size w w4 := (bstep hb2 hb8)
      refine WL.step (post := fun v w' => ∃ ra rc, v = .slice ra (0 + q.length) rc ∧ Own w' (fun b => w.heap.size ≤ b) 38 2 ra rc (0 + q.length) ([] ++ (qsC q)) ∧ Chg (fun b => w.heap.size ≤ b) w4 w') rfl rfl rfl (fun za zC zh zk => app_30 (S := (fun b => w.heap.size ≤ b)) (xs := []) (news := (qsC q)) rfl (zh.ev rfl) (zh.ev rfl) hr11 (IsQs.src (IsQs.below hq hb12) hcap hqne) (qsC_len q) (qsC_one q) (by omega) (by omega) (by have z1 := hb12.size; (try dsimp only at *); omega) (fun ra rc w' h1 h2 => zk _ _ ⟨ra, rc, rfl, h1, h2⟩)) ?_
      rintro _ w13 ⟨ra14, rc15, rfl, hr16, hc17⟩
      have hb18 := chg_below hb12 hc17 (fun b hb => (by (try dsimp only at *); omega))
      refine WL.step (post := NewMap w13) rfl rfl rfl (fun za zC zh zk => wp_makeMap_im rfl zk) ?_
      rintro _ w19 ⟨g20, rfl, hg21, hM22, hb23, hz24⟩
      have ho2 : Own w13 (fun b => w.heap.size ≤ b) 38 2 ra14 rc15 q.length (qsC q) := by have z := hr16; rw [Nat.zero_add, List.nil_append] at z; exact z
      obtain ⟨gq, cq, rfl, hgq, hBq, hQ⟩ := IsQs.own ho2 (by omega)
      have hQB : QB w13 gq q := ⟨⟨cq, hBq⟩, fun k hk => by obtain ⟨b, o, z1, z2⟩ := hQ; have e := z1 k hk; simp only [Option.some.injEq, Addr.mk.injEq, and_true] at e; obtain ⟨rfl, rfl⟩ := e; exact z2 k hk⟩
      have hl25 : gq < g20 := by have z1 := hQB.lt; omega
      have hl26 : w.heap.size ≤ g20 := by have z2 := (hb18).size; omega
      refine WL.val (.agg #[.slice ((some ⟨gq, 0, none⟩)) ((0 + q.length)) rc15, .slice none 0 0, .map ((some g20)), .int .i64 0, .int .i64 0, .int .i64 0]) rfl rfl rfl (fun za zC zh zk => build_72_0_2 rfl (zh.ev rfl) (zh.ev rfl) zk) ?_
      refine WL.step (post := NewBlk w19 72 #[.slice ((some ⟨gq, 0, none⟩)) ((0 + q.length)) rc15, .slice none 0 0, .map ((some g20)), .int .i64 0, .int .i64 0, .int .i64 0]) rfl rfl rfl (fun za zC zh zk => box_72 rfl (zh.ev rfl) (zk _ _ (newBlk _ _ _))) ?_
      rintro _ w27 ⟨g28, rfl, hg29, hB30, hb31, hz32⟩
      have hl33 : gq < g28 := by have z1 := hQB.lt; have z2 := (hb23).size; omega
      have hl34 : g20 < g28 := by have z1 := hM22.lt; omega
      have hb35 : Below w.heap.size w w19 := (bstep hb18 hb23)
      have hl36 : w.heap.size ≤ g28 := by have z2 := (hb35).size; omega
      refine WL.val (.pointer (some ⟨g28, 0, none⟩)) rfl rfl rfl (fun za zC zh zk => wp_assign rfl (zh.ev rfl) zk) ?_
      refine WL.nil (WE.sub (K' := [(0, .slice a q.length c), (2, .pointer none), (3, .int .i64 0), (4, .pointer (some ⟨g28, 0, none⟩)), (14, .bool (((decide ((((q.length : Nat) : Int) : Int) < (1 : Int))) || (decide ((8 : Int) < (((q.length : Nat) : Int) : Int))))))]) ⟨rfl, rfl, rfl, rfl, rfl, trivial⟩ ?_)
      refine WE.next ?_
      refine WC.seq ?_
      refine WC.seq ?_
      refine WC.region ?_
      refine WL.val (.slice a q.length c) rfl rfl rfl (fun za zC zh zk => wp_move rfl (zh.ev rfl) zk) ?_
      refine WL.val (.int .i64 (((q.length : Nat) : Int))) rfl rfl rfl (fun za zC zh zk => len_30 rfl (zh.ev rfl) zk) ?_
      refine WL.val (.int .i64 0) rfl rfl rfl (fun za zC zh zk => wp_move rfl (zh.ev rfl) zk) ?_
      refine WL.nil (WE.sub (K' := [(0, .slice a q.length c), (2, .pointer none), (3, .int .i64 0), (4, .pointer (some ⟨g28, 0, none⟩)), (14, .bool (((decide ((((q.length : Nat) : Int) : Int) < (1 : Int))) || (decide ((8 : Int) < (((q.length : Nat) : Int) : Int)))))), (21, .slice a q.length c), (22, .int .i64 (((q.length : Nat) : Int))), (23, .int .i64 0)]) ⟨rfl, rfl, rfl, rfl, rfl, rfl, rfl, rfl, trivial⟩ ?_)
      refine WE.next ?_
      refine WC.block ?_
      have hB37 : Blk w27 g28 72 #[.slice ((some ⟨gq, 0, none⟩)) q.length rc15, .slice none 0 0, .map ((some g20)), .int .i64 0, .int .i64 0, .int .i64 0] := by have z := hB30; rw [Nat.zero_add] at z; exact z
      have hnhs := NHs.nil w w27
      refine WC.loop (X := List Nat × Option Addr × Nat) (fun y => q.length - y.1.length) (fun y => [(0, .slice a q.length c), (4, .pointer (some ⟨g28, 0, none⟩)), (14, .bool (((decide ((((q.length : Nat) : Int) : Int) < (1 : Int))) || (decide ((8 : Int) < (((q.length : Nat) : Int) : Int)))))), (21, .slice a q.length c), (22, .int .i64 (((q.length : Nat) : Int))), (23, .int .i64 (((y.1.length : Nat) : Int)))]) (fun y w38 => y.1.length ≤ q.length ∧ (∀ k, k < y.1.length → quOk (qget q k) = true) ∧ Below w.heap.size w w38 ∧ Blk w38 g28 72 #[.slice ((some ⟨gq, 0, none⟩)) q.length rc15, .slice y.2.1 y.1.length y.2.2, .map ((some g20)), .int .i64 0, .int .i64 0, .int .i64 0] ∧ QB (w38) gq q ∧ ObjAt (w38) g20 (.map #[] 0) ∧ NHs w (w38) y.1 y.2.1 y.2.2) (⟨[], none, 0⟩) ⟨rfl, rfl, rfl, rfl, rfl, rfl, trivial⟩ ?_ ?_
      · have hb39 : Below w.heap.size w w27 := (bstep hb35 hb31)
        have hb41 : Below w13.heap.size w13 w27 := (bstep hb23 hb31)
        have ho40 := hQB.below hb41
        have ho42 := hM22.below hb31
        exact ⟨Nat.zero_le _, fun k hk => by simp at hk, hb39, by have z := hB37; simpa using z, ho40, ho42, hnhs⟩
      · rintro y w38 ⟨hk, hgs, hb43, hB44, ho45, ho46, ho47⟩
        refine WC.seq ?_
        refine WC.region ?_
        refine WL.val (.bool ((decide ((((y.1.length : Nat) : Int) : Int) < (((q.length : Nat) : Int) : Int))))) rfl rfl rfl (fun za zC zh zk => lss_3 rfl (zh.ev rfl) (zh.ev rfl) zk) ?_
        refine WL.nil (WE.sub (K' := [(0, .slice a q.length c), (4, .pointer (some ⟨g28, 0, none⟩)), (14, .bool (((decide ((((q.length : Nat) : Int) : Int) < (1 : Int))) || (decide ((8 : Int) < (((q.length : Nat) : Int) : Int)))))), (21, .slice a q.length c), (22, .int .i64 (((q.length : Nat) : Int))), (23, .int .i64 (((y.1.length : Nat) : Int))), (24, .bool ((decide ((((y.1.length : Nat) : Int) : Int) < (((q.length : Nat) : Int) : Int)))))]) ⟨rfl, rfl, rfl, rfl, rfl, rfl, rfl, trivial⟩ ?_)
        refine WE.next ?_
        refine WC.seq ?_
        refine WC.cond rfl (fun h48 => ?_) (fun h48 => ?_)
        · have h48 : (((y.1.length : Nat) : Int) : Int) < (((q.length : Nat) : Int) : Int) := by simpa using h48
          refine WC.skip ?_
          refine WE.next ?_
          refine WC.seq ?_
          refine WC.block ?_
          refine WC.seq ?_
          refine WC.region ?_
          obtain ⟨b49, o50, ha51, hc52⟩ := hq
          refine WL.val (.pointer (some ⟨b49, o50 + y.1.length * 2, none⟩)) rfl rfl rfl (fun za zC zh zk => ix_30 (k := y.1.length) rfl (zh.ev rfl) (ha51 y.1.length (by first | omega | (simp; omega))) (zh.ev rfl) (by first | omega | (simp; omega)) zk) ?_
          refine WL.val (.agg #[.int .i64 ((qget q y.1.length).by_), .int .i64 ((qget q y.1.length).take)]) rfl rfl rfl (fun za zC zh zk => ld_38 rfl (zh.ev rfl) (bkeeps hb43 _ _ (hc52 y.1.length (by first | omega | (simp; omega))).1) (bkeeps hb43 _ _ (hc52 y.1.length (by first | omega | (simp; omega))).2) zk) ?_
          refine WL.step (post := NewBlk w38 38 #[.int .i64 0, .int .i64 0]) rfl rfl rfl (fun za zC zh zk => alloc_38 rfl (zk _ _ (newBlk _ _ _))) ?_
          rintro _ w53 ⟨g54, rfl, hg55, hB56, hb57, hz58⟩
          have hl59 : g28 < g54 := by have z1 := hB44.lt; omega
          have hl60 : gq < g54 := by have z1 := ho45.lt; omega
          have hl61 : g20 < g54 := by have z1 := ho46.lt; omega
          have hl62 : w.heap.size ≤ g54 := by have z2 := (hb43).size; omega
          have ho63 := ho47.below hb57
          refine WL.step (post := fun _ w' => Upd g54 w53 w' ∧ Blk w' g54 38 #[.int .i64 ((qget q y.1.length).by_), .int .i64 ((qget q y.1.length).take)]) rfl rfl rfl (fun za zC zh zk => st_38 rfl (zh.ev rfl) (zh.ev rfl) rfl rfl hB56 (by first | decide | simp) (fun v => zk v _ ⟨(Upd.at_ _ _ _ _).trans (Upd.at_ _ _ _ _), (hB56.set_ 0 _).set_ 1 _⟩)) ?_
          rintro v67 w64 ⟨hu65, hB66⟩
          have hb68 : Below w.heap.size w w53 := (bstep hb43 hb57)
          have hb69 := upd_below hb68 hu65 (by omega)
          have hB70 := hB44.below hb57
          have hB71 := upd_blk hB70 hu65 (by omega)
          have ho72 := ho45.below hb57
          have ho73 := ho72.upd hu65 (by omega)
          have ho74 := ho46.below hb57
          have ho75 := ho74.upd hu65 (by omega)
          have ho76 := ho63.upd hu65 (⟨_, _, hB56, by decide, by decide⟩)
          refine WL.nil (WE.sub (K' := [(0, .slice a q.length c), (4, .pointer (some ⟨g28, 0, none⟩)), (6, .pointer (some ⟨g54, 0, none⟩)), (14, .bool (((decide ((((q.length : Nat) : Int) : Int) < (1 : Int))) || (decide ((8 : Int) < (((q.length : Nat) : Int) : Int)))))), (21, .slice a q.length c), (22, .int .i64 (((q.length : Nat) : Int))), (23, .int .i64 (((y.1.length : Nat) : Int))), (24, .bool ((decide ((((y.1.length : Nat) : Int) : Int) < (((q.length : Nat) : Int) : Int)))))]) ⟨rfl, rfl, rfl, rfl, rfl, rfl, rfl, rfl, trivial⟩ ?_)
          refine WE.next ?_
          refine WC.seq ?_
          refine WC.seq ?_
          refine WC.opt [(true, .val (.pointer (some ⟨g54, 0, none⟩))), (true, .val (.int .i64 ((qget q y.1.length).by_))), (true, .val (.bool ((decide (((qget q y.1.length).by_ : Int) < (0 : Int)))))), (true, .val (.bool ((decide (((qget q y.1.length).by_ : Int) < (0 : Int)))))), ((true && !(decide (((qget q y.1.length).by_ : Int) < (0 : Int)))), .val (.pointer (some ⟨g54, 0, none⟩))), ((true && !(decide (((qget q y.1.length).by_ : Int) < (0 : Int)))), .val (.int .i64 ((qget q y.1.length).by_))), ((true && !(decide (((qget q y.1.length).by_ : Int) < (0 : Int)))), .val (.bool ((decide ((4 : Int) < ((qget q y.1.length).by_ : Int)))))), (true, .val (.bool (((decide (((qget q y.1.length).by_ : Int) < (0 : Int))) || (decide ((4 : Int) < ((qget q y.1.length).by_ : Int))))))), (true, .val (.bool (((decide (((qget q y.1.length).by_ : Int) < (0 : Int))) || (decide ((4 : Int) < ((qget q y.1.length).by_ : Int))))))), ((true && !((decide (((qget q y.1.length).by_ : Int) < (0 : Int))) || (decide ((4 : Int) < ((qget q y.1.length).by_ : Int))))), .val (.pointer (some ⟨g54, 1, none⟩))), ((true && !((decide (((qget q y.1.length).by_ : Int) < (0 : Int))) || (decide ((4 : Int) < ((qget q y.1.length).by_ : Int))))), .val (.int .i64 ((qget q y.1.length).take))), ((true && !((decide (((qget q y.1.length).by_ : Int) < (0 : Int))) || (decide ((4 : Int) < ((qget q y.1.length).by_ : Int))))), .val (.bool ((decide (((qget q y.1.length).take : Int) < (1 : Int)))))), (true, .val (.bool ((((decide (((qget q y.1.length).by_ : Int) < (0 : Int))) || (decide ((4 : Int) < ((qget q y.1.length).by_ : Int)))) || (decide (((qget q y.1.length).take : Int) < (1 : Int))))))), (true, .val (.bool ((((decide (((qget q y.1.length).by_ : Int) < (0 : Int))) || (decide ((4 : Int) < ((qget q y.1.length).by_ : Int)))) || (decide (((qget q y.1.length).take : Int) < (1 : Int))))))), ((true && !(((decide (((qget q y.1.length).by_ : Int) < (0 : Int))) || (decide ((4 : Int) < ((qget q y.1.length).by_ : Int)))) || (decide (((qget q y.1.length).take : Int) < (1 : Int))))), .val (.pointer (some ⟨g54, 1, none⟩))), ((true && !(((decide (((qget q y.1.length).by_ : Int) < (0 : Int))) || (decide ((4 : Int) < ((qget q y.1.length).by_ : Int)))) || (decide (((qget q y.1.length).take : Int) < (1 : Int))))), .val (.int .i64 ((qget q y.1.length).take))), ((true && !(((decide (((qget q y.1.length).by_ : Int) < (0 : Int))) || (decide ((4 : Int) < ((qget q y.1.length).by_ : Int)))) || (decide (((qget q y.1.length).take : Int) < (1 : Int))))), .val (.bool ((decide ((1000 : Int) < ((qget q y.1.length).take : Int)))))), (true, .val (.bool (((((decide (((qget q y.1.length).by_ : Int) < (0 : Int))) || (decide ((4 : Int) < ((qget q y.1.length).by_ : Int)))) || (decide (((qget q y.1.length).take : Int) < (1 : Int)))) || (decide ((1000 : Int) < ((qget q y.1.length).take : Int)))))))] [(0, .slice a q.length c), (4, .pointer (some ⟨g28, 0, none⟩)), (6, .pointer (some ⟨g54, 0, none⟩)), (14, .bool (((decide ((((q.length : Nat) : Int) : Int) < (1 : Int))) || (decide ((8 : Int) < (((q.length : Nat) : Int) : Int)))))), (21, .slice a q.length c), (22, .int .i64 (((q.length : Nat) : Int))), (23, .int .i64 (((y.1.length : Nat) : Int))), (24, .bool ((decide ((((y.1.length : Nat) : Int) : Int) < (((q.length : Nat) : Int) : Int)))))] ⟨rfl, rfl, rfl, rfl, rfl, rfl, rfl, rfl, trivial⟩ (by kernel_rfl) (by kernel_rfl) (by kernel_rfl) ?_ ?_
          · refine ⟨⟨true, .none rfl, fun h w => optUndef h, fun zβ za zw zc => ?_⟩, ?_⟩
            · exact fld_38_0 rfl (zc.kn.ev rfl) ⟨_, rfl, Below.refl _ _, optDef zβ rfl⟩
            refine ⟨⟨true, .none rfl, fun h w => optUndef h, fun zβ za zw zc => ?_⟩, ?_⟩
            · exact ld_22 rfl ((show za.eval (.tmp 27) = za.tmps.getD 27 undef from rfl).trans (optVal (zc.dep 0 27 (by kernel_rfl)) rfl rfl)) (bkeeps zc.below _ _ ((hB66.cell 0).trans rfl)) ⟨_, rfl, Below.refl _ _, optDef zβ rfl⟩
            refine ⟨⟨true, .none rfl, fun h w => optUndef h, fun zβ za zw zc => ?_⟩, ?_⟩
            · exact lss_22 rfl ((show za.eval (.tmp 28) = za.tmps.getD 28 undef from rfl).trans (optVal (zc.dep 1 28 (by kernel_rfl)) rfl rfl)) (zc.kn.ev rfl) ⟨_, rfl, Below.refl _ _, optDef zβ rfl⟩
            refine ⟨⟨true, .none rfl, fun h w => optUndef h, fun zβ za zw zc => ?_⟩, ?_⟩
            · exact wp_move rfl ((show za.eval (.tmp 29) = za.tmps.getD 29 undef from rfl).trans (optVal (zc.dep 2 29 (by kernel_rfl)) rfl rfl)) ⟨_, rfl, Below.refl _ _, optDef zβ rfl⟩
            refine ⟨⟨(true && !(decide (((qget q y.1.length).by_ : Int) < (0 : Int)))), .no (c := (decide (((qget q y.1.length).by_ : Int) < (0 : Int)))) (d := true) rfl (fun v w h => h), fun h w => optUndef h, fun zβ za zw zc => ?_⟩, ?_⟩
            · exact fld_38_0 rfl (zc.kn.ev rfl) ⟨_, rfl, Below.refl _ _, optDef zβ rfl⟩
            refine ⟨⟨(true && !(decide (((qget q y.1.length).by_ : Int) < (0 : Int)))), .no (c := (decide (((qget q y.1.length).by_ : Int) < (0 : Int)))) (d := true) rfl (fun v w h => h), fun h w => optUndef h, fun zβ za zw zc => ?_⟩, ?_⟩
            · exact ld_22 rfl ((show za.eval (.tmp 31) = za.tmps.getD 31 undef from rfl).trans (optVal (zc.dep 4 31 (by kernel_rfl)) rfl zβ)) (bkeeps zc.below _ _ ((hB66.cell 0).trans rfl)) ⟨_, rfl, Below.refl _ _, optDef zβ rfl⟩
            refine ⟨⟨(true && !(decide (((qget q y.1.length).by_ : Int) < (0 : Int)))), .no (c := (decide (((qget q y.1.length).by_ : Int) < (0 : Int)))) (d := true) rfl (fun v w h => h), fun h w => optUndef h, fun zβ za zw zc => ?_⟩, ?_⟩
            · exact gtr_22 rfl ((show za.eval (.tmp 32) = za.tmps.getD 32 undef from rfl).trans (optVal (zc.dep 5 32 (by kernel_rfl)) rfl zβ)) (zc.kn.ev rfl) ⟨_, rfl, Below.refl _ _, optDef zβ rfl⟩
            refine ⟨⟨true, .none rfl, fun h w => optUndef h, fun zβ za zw zc => ?_⟩, ?_⟩
            · exact wp_or rfl ((show za.eval (.tmp 30) = za.tmps.getD 30 undef from rfl).trans (optVal (zc.dep 3 30 (by kernel_rfl)) rfl rfl)) (fun hp => ((show za.eval (.tmp 33) = za.tmps.getD 33 undef from rfl).trans (optVal (zc.dep 6 33 (by kernel_rfl)) rfl (bMkN zβ hp)))) ⟨_, rfl, Below.refl _ _, optDef zβ rfl⟩
            refine ⟨⟨true, .none rfl, fun h w => optUndef h, fun zβ za zw zc => ?_⟩, ?_⟩
            · exact wp_move rfl ((show za.eval (.tmp 34) = za.tmps.getD 34 undef from rfl).trans (optVal (zc.dep 7 34 (by kernel_rfl)) rfl rfl)) ⟨_, rfl, Below.refl _ _, optDef zβ rfl⟩
            refine ⟨⟨(true && !((decide (((qget q y.1.length).by_ : Int) < (0 : Int))) || (decide ((4 : Int) < ((qget q y.1.length).by_ : Int))))), .no (c := ((decide (((qget q y.1.length).by_ : Int) < (0 : Int))) || (decide ((4 : Int) < ((qget q y.1.length).by_ : Int))))) (d := true) rfl (fun v w h => h), fun h w => optUndef h, fun zβ za zw zc => ?_⟩, ?_⟩
            · exact fld_38_1 rfl (zc.kn.ev rfl) ⟨_, rfl, Below.refl _ _, optDef zβ rfl⟩
            refine ⟨⟨(true && !((decide (((qget q y.1.length).by_ : Int) < (0 : Int))) || (decide ((4 : Int) < ((qget q y.1.length).by_ : Int))))), .no (c := ((decide (((qget q y.1.length).by_ : Int) < (0 : Int))) || (decide ((4 : Int) < ((qget q y.1.length).by_ : Int))))) (d := true) rfl (fun v w h => h), fun h w => optUndef h, fun zβ za zw zc => ?_⟩, ?_⟩
            · exact ld_3 rfl ((show za.eval (.tmp 36) = za.tmps.getD 36 undef from rfl).trans (optVal (zc.dep 9 36 (by kernel_rfl)) rfl zβ)) (bkeeps zc.below _ _ ((hB66.cell 1).trans rfl)) ⟨_, rfl, Below.refl _ _, optDef zβ rfl⟩
            refine ⟨⟨(true && !((decide (((qget q y.1.length).by_ : Int) < (0 : Int))) || (decide ((4 : Int) < ((qget q y.1.length).by_ : Int))))), .no (c := ((decide (((qget q y.1.length).by_ : Int) < (0 : Int))) || (decide ((4 : Int) < ((qget q y.1.length).by_ : Int))))) (d := true) rfl (fun v w h => h), fun h w => optUndef h, fun zβ za zw zc => ?_⟩, ?_⟩
            · exact lss_3 rfl ((show za.eval (.tmp 37) = za.tmps.getD 37 undef from rfl).trans (optVal (zc.dep 10 37 (by kernel_rfl)) rfl zβ)) (zc.kn.ev rfl) ⟨_, rfl, Below.refl _ _, optDef zβ rfl⟩
            refine ⟨⟨true, .none rfl, fun h w => optUndef h, fun zβ za zw zc => ?_⟩, ?_⟩
            · exact wp_or rfl ((show za.eval (.tmp 35) = za.tmps.getD 35 undef from rfl).trans (optVal (zc.dep 8 35 (by kernel_rfl)) rfl rfl)) (fun hp => ((show za.eval (.tmp 38) = za.tmps.getD 38 undef from rfl).trans (optVal (zc.dep 11 38 (by kernel_rfl)) rfl (bMkN zβ hp)))) ⟨_, rfl, Below.refl _ _, optDef zβ rfl⟩
            refine ⟨⟨true, .none rfl, fun h w => optUndef h, fun zβ za zw zc => ?_⟩, ?_⟩
            · exact wp_move rfl ((show za.eval (.tmp 39) = za.tmps.getD 39 undef from rfl).trans (optVal (zc.dep 12 39 (by kernel_rfl)) rfl rfl)) ⟨_, rfl, Below.refl _ _, optDef zβ rfl⟩
            refine ⟨⟨(true && !(((decide (((qget q y.1.length).by_ : Int) < (0 : Int))) || (decide ((4 : Int) < ((qget q y.1.length).by_ : Int)))) || (decide (((qget q y.1.length).take : Int) < (1 : Int))))), .no (c := (((decide (((qget q y.1.length).by_ : Int) < (0 : Int))) || (decide ((4 : Int) < ((qget q y.1.length).by_ : Int)))) || (decide (((qget q y.1.length).take : Int) < (1 : Int))))) (d := true) rfl (fun v w h => h), fun h w => optUndef h, fun zβ za zw zc => ?_⟩, ?_⟩
            · exact fld_38_1 rfl (zc.kn.ev rfl) ⟨_, rfl, Below.refl _ _, optDef zβ rfl⟩
            refine ⟨⟨(true && !(((decide (((qget q y.1.length).by_ : Int) < (0 : Int))) || (decide ((4 : Int) < ((qget q y.1.length).by_ : Int)))) || (decide (((qget q y.1.length).take : Int) < (1 : Int))))), .no (c := (((decide (((qget q y.1.length).by_ : Int) < (0 : Int))) || (decide ((4 : Int) < ((qget q y.1.length).by_ : Int)))) || (decide (((qget q y.1.length).take : Int) < (1 : Int))))) (d := true) rfl (fun v w h => h), fun h w => optUndef h, fun zβ za zw zc => ?_⟩, ?_⟩
            · exact ld_3 rfl ((show za.eval (.tmp 41) = za.tmps.getD 41 undef from rfl).trans (optVal (zc.dep 14 41 (by kernel_rfl)) rfl zβ)) (bkeeps zc.below _ _ ((hB66.cell 1).trans rfl)) ⟨_, rfl, Below.refl _ _, optDef zβ rfl⟩
            refine ⟨⟨(true && !(((decide (((qget q y.1.length).by_ : Int) < (0 : Int))) || (decide ((4 : Int) < ((qget q y.1.length).by_ : Int)))) || (decide (((qget q y.1.length).take : Int) < (1 : Int))))), .no (c := (((decide (((qget q y.1.length).by_ : Int) < (0 : Int))) || (decide ((4 : Int) < ((qget q y.1.length).by_ : Int)))) || (decide (((qget q y.1.length).take : Int) < (1 : Int))))) (d := true) rfl (fun v w h => h), fun h w => optUndef h, fun zβ za zw zc => ?_⟩, ?_⟩
            · exact gtr_3 rfl ((show za.eval (.tmp 42) = za.tmps.getD 42 undef from rfl).trans (optVal (zc.dep 15 42 (by kernel_rfl)) rfl zβ)) (zc.kn.ev rfl) ⟨_, rfl, Below.refl _ _, optDef zβ rfl⟩
            refine ⟨⟨true, .none rfl, fun h w => optUndef h, fun zβ za zw zc => ?_⟩, ?_⟩
            · exact wp_or rfl ((show za.eval (.tmp 40) = za.tmps.getD 40 undef from rfl).trans (optVal (zc.dep 13 40 (by kernel_rfl)) rfl rfl)) (fun hp => ((show za.eval (.tmp 43) = za.tmps.getD 43 undef from rfl).trans (optVal (zc.dep 16 43 (by kernel_rfl)) rfl (bMkN zβ hp)))) ⟨_, rfl, Below.refl _ _, optDef zβ rfl⟩
            exact trivial
          · intro za w77 zh hb78 zu
            have zh := zh.cons (d := 44) (v := .bool (((((decide (((qget q y.1.length).by_ : Int) < (0 : Int))) || (decide ((4 : Int) < ((qget q y.1.length).by_ : Int)))) || (decide (((qget q y.1.length).take : Int) < (1 : Int)))) || (decide ((1000 : Int) < ((qget q y.1.length).take : Int)))))) (optVal (zu 17 44 (by kernel_rfl)) rfl rfl)
            clear zu
            refine (show WE _ [(0, .slice a q.length c), (4, .pointer (some ⟨g28, 0, none⟩)), (6, .pointer (some ⟨g54, 0, none⟩)), (14, .bool (((decide ((((q.length : Nat) : Int) : Int) < (1 : Int))) || (decide ((8 : Int) < (((q.length : Nat) : Int) : Int)))))), (21, .slice a q.length c), (22, .int .i64 (((q.length : Nat) : Int))), (23, .int .i64 (((y.1.length : Nat) : Int))), (24, .bool ((decide ((((y.1.length : Nat) : Int) : Int) < (((q.length : Nat) : Int) : Int))))), (44, .bool (((((decide (((qget q y.1.length).by_ : Int) < (0 : Int))) || (decide ((4 : Int) < ((qget q y.1.length).by_ : Int)))) || (decide (((qget q y.1.length).take : Int) < (1 : Int)))) || (decide ((1000 : Int) < ((qget q y.1.length).take : Int))))))] w77 _ .normal from ?_) za (zh.sub ⟨rfl, rfl, rfl, rfl, rfl, rfl, rfl, rfl, rfl, trivial⟩)
            refine WE.next ?_
            refine WC.cond rfl (fun h79 => ?_) (fun h79 => ?_)
            · have h79 : (((((qget q y.1.length).by_ : Int) < (0 : Int)) ∨ ((4 : Int) < ((qget q y.1.length).by_ : Int))) ∨ (((qget q y.1.length).take : Int) < (1 : Int))) ∨ ((1000 : Int) < ((qget q y.1.length).take : Int)) := by simpa using h79
              have hbad : qsOk q = false := qsOk_bad (k := y.1.length) (by omega) (by unfold quOk; simp only [Bool.not_eq_false', Bool.or_eq_true, decide_eq_true_eq]; omega)
              refine WC.seq ?_
              refine WC.region ?_
              refine WL.val (.pointer none) rfl rfl rfl (fun za zC zh zk => wp_assign rfl (zh.ev rfl) zk) ?_
              refine WL.val (.int .i64 2) rfl rfl rfl (fun za zC zh zk => wp_assign rfl (zh.ev rfl) zk) ?_
              refine WL.nil (WE.sub (K' := [(0, .slice a q.length c), (2, .pointer none), (3, .int .i64 2), (4, .pointer (some ⟨g28, 0, none⟩)), (6, .pointer (some ⟨g54, 0, none⟩)), (14, .bool (((decide ((((q.length : Nat) : Int) : Int) < (1 : Int))) || (decide ((8 : Int) < (((q.length : Nat) : Int) : Int)))))), (21, .slice a q.length c), (22, .int .i64 (((q.length : Nat) : Int))), (23, .int .i64 (((y.1.length : Nat) : Int))), (24, .bool ((decide ((((y.1.length : Nat) : Int) : Int) < (((q.length : Nat) : Int) : Int))))), (44, .bool (((((decide (((qget q y.1.length).by_ : Int) < (0 : Int))) || (decide ((4 : Int) < ((qget q y.1.length).by_ : Int)))) || (decide (((qget q y.1.length).take : Int) < (1 : Int)))) || (decide ((1000 : Int) < ((qget q y.1.length).take : Int))))))]) ⟨rfl, rfl, rfl, rfl, rfl, rfl, rfl, rfl, rfl, rfl, rfl, trivial⟩ ?_)
              refine WE.next ?_
              refine WC.ret ?_
              refine WE.thenRet ?_
              refine WE.blockRet ?_
              refine WE.thenRet ?_
              refine WE.thenRet ?_
              refine WE.blockRet ?_
              refine WE.thenRet ?_
              refine WE.ret2 rfl rfl rfl ?_
              have hb80 : Below w.heap.size w w77 := (bstep hb69 hb78)
              exact ⟨_, rfl, .inl ⟨hbad, rfl, hb80⟩⟩
            · have h79 : ¬ ((((((qget q y.1.length).by_ : Int) < (0 : Int)) ∨ ((4 : Int) < ((qget q y.1.length).by_ : Int))) ∨ (((qget q y.1.length).take : Int) < (1 : Int))) ∨ ((1000 : Int) < ((qget q y.1.length).take : Int))) := by simpa using h79
              have hgood : quOk (qget q y.1.length) = true := by unfold quOk; simp only [Bool.not_eq_true', Bool.or_eq_false_iff, decide_eq_false_iff_not]; omega
              refine WC.skip ?_
              refine WE.next ?_
              have ho81 := ho76.below hb78
              have hnl0 := ho81.lt
              refine WC.region ?_
              refine WL.val (.pointer (some ⟨g28, 0, none⟩)) rfl rfl rfl (fun za zC zh zk => wp_move rfl (zh.ev rfl) zk) ?_
              refine WL.val (.pointer (some ⟨g28, 0, none⟩)) rfl rfl rfl (fun za zC zh zk => wp_move rfl (zh.ev rfl) zk) ?_
              refine WL.val (.pointer (some ⟨g28, 0, none⟩)) rfl rfl rfl (fun za zC zh zk => nilCheck_ rfl (zh.ev rfl) zk) ?_
              refine WL.val (.pointer (some ⟨g28, 1, none⟩)) rfl rfl rfl (fun za zC zh zk => fld_72_1 rfl (zh.ev rfl) zk) ?_
              have hB82 := hB71.below hb78
              refine WL.val (.slice y.2.1 y.1.length y.2.2) rfl rfl rfl (fun za zC zh zk => ld_70 rfl (zh.ev rfl) ((hB82.cell 1).trans rfl) zk) ?_
              refine WL.val (.agg #[.slice none 0 0, .func (.func 25) #[] #[]]) rfl rfl rfl (fun za zC zh zk => build_81_1 rfl (zh.ev rfl) zk) ?_
              refine WL.step (post := NewBlk w77 81 #[.slice none 0 0, .func (.func 25) #[] #[]]) rfl rfl rfl (fun za zC zh zk => box_81 rfl (zh.ev rfl) (zk _ _ (newBlk _ _ _))) ?_
              rintro _ w83 ⟨g84, rfl, hg85, hB86, hb87, hz88⟩
              have hl89 : g28 < g84 := by have z1 := hB82.lt; omega
              have hl90 : g54 < g84 := by have z1 := hB66.lt; have z2 := (hb78).size; omega
              have hl91 : gq < g84 := by have z1 := ho73.lt; have z2 := (hb78).size; omega
              have hl92 : g20 < g84 := by have z1 := ho75.lt; have z2 := (hb78).size; omega
              have hb93 : Below w.heap.size w w77 := (bstep hb69 hb78)
              have hl94 : w.heap.size ≤ g84 := by have z2 := (hb93).size; omega
              refine WL.step (post := NewRow w83 73 #[.pointer (some ⟨g84, 0, none⟩)] 1) rfl rfl rfl (fun za zC zh zk => row_70_1 rfl (zh.ev rfl) (zk _ _ (newRow _ _ _ _))) ?_
              rintro _ w95 ⟨g96, rfl, hg97, hB98, hb99, hz100⟩
              have hl101 : g28 < g96 := by have z1 := hB82.lt; have z2 := (hb87).size; omega
              have hb102 : Below w64.heap.size w64 w83 := (bstep hb78 hb87)
              have hl103 : g54 < g96 := by have z1 := hB66.lt; have z2 := (hb102).size; omega
              have hl104 : g84 < g96 := by have z1 := hB86.lt; omega
              have hl105 : gq < g96 := by have z1 := ho73.lt; have z2 := (hb102).size; omega
              have hl106 : g20 < g96 := by have z1 := ho75.lt; have z2 := (hb102).size; omega
              have hb107 : Below w.heap.size w w83 := (bstep hb69 hb102)
              have hl108 : w.heap.size ≤ g96 := by have z2 := (hb107).size; omega
              have hB109 := hB86.below hb99
              have hb111 : Below w77.heap.size w77 w95 := (bstep hb87 hb99)
              have ho110 := ho81.below hb111
              have hB112 := hB82.below hb111
              have hb120 : Below w64.heap.size w64 w95 := (bstep hb78 hb111)
              have ho119 := ho73.below hb120
              have ho121 := ho75.below hb120
              have hnr := ho110.rb hB112 (by decide)
              have hnn := ho110.rb hB109 (by decide)
              obtain ⟨cq9, hcq9⟩ := ho119.blk
              have hnq := ho110.rb hcq9 (by decide)
              have hnm : ¬ (rbOf y.2.1 y.1.length y.2.2 g20 ∨ w95.heap.size ≤ g20) := by
                rintro (u | u)
                · obtain ⟨_, cur, hc⟩ := own_blk ho110.own u; exact ho121.neBlk hc rfl
                · have := ho121.lt; omega
              have hnx : ∀ x ∈ y.1, x < g84 := fun x hx => by have z := hnl0 x hx; omega
              refine WL.step (post := fun v w' => ∃ ra rc, v = .slice ra (y.1.length + 1) rc ∧ Own w' (fun b => rbOf y.2.1 y.1.length y.2.2 b ∨ w95.heap.size ≤ b) 73 1 ra rc (y.1.length + 1) (y.1.map ptrV ++ [.pointer (some ⟨g84, 0, none⟩)]) ∧ Chg (fun b => rbOf y.2.1 y.1.length y.2.2 b ∨ w95.heap.size ≤ b) w95 w') rfl rfl rfl (fun za zC zh zk => app_70 (S := (fun b => rbOf y.2.1 y.1.length y.2.2 b ∨ w95.heap.size ≤ b)) (xs := y.1.map ptrV) (news := [.pointer (some ⟨g84, 0, none⟩)]) rfl (zh.ev rfl) (zh.ev rfl) (ho110.own.mono (fun b h _ => .inl h)) (SrcIs.ofBlk hB98) (by simp) (by simp [Value.oneCell']) (by omega) (by omega) (.inr (Nat.le_refl _)) (fun ra rc w' h1 h2 => zk _ _ ⟨ra, rc, rfl, h1, h2⟩)) ?_
              rintro _ w113 ⟨ra114, rc115, rfl, hr116, hc117⟩
              have hz122 : w.heap.size ≤ w95.heap.size := (Nat.le_trans hb69.size hb120.size)
              have hhn : w.heap.size ≤ g84 := by omega
              have hb123 : Below w.heap.size w w95 := (bstep hb69 hb120)
              have hb124 := chg_below hb123 hc117 (fun b hb => (by first | exact hnr | exact hnn | exact hnq | exact hnm | (intro u; rcases u with u | u <;> first | (have z := ho110.new _ u; omega) | omega)))
              have hB125 := chg_blk hB112 hc117 (by first | exact hnr | exact hnn | exact hnq | exact hnm | (intro u; rcases u with u | u <;> first | (have z := ho110.new _ u; omega) | omega))
              have hB126 := chg_blk hB109 hc117 (by first | exact hnr | exact hnn | exact hnq | exact hnm | (intro u; rcases u with u | u <;> first | (have z := ho110.new _ u; omega) | omega))
              have ho127 := ho119.chg hc117 (by first | exact hnr | exact hnn | exact hnq | exact hnm | (intro u; rcases u with u | u <;> first | (have z := ho110.new _ u; omega) | omega))
              have ho128 := ho121.chg hc117 (by first | exact hnr | exact hnn | exact hnq | exact hnm | (intro u; rcases u with u | u <;> first | (have z := ho110.new _ u; omega) | omega))
              have hN118 := ho110.add hB109 hz122 hhn hnx hr116 hc117
              refine WL.val (.pointer (some ⟨g28, 0, none⟩)) rfl rfl rfl (fun za zC zh zk => nilCheck_ rfl (zh.ev rfl) zk) ?_
              refine WL.val (.pointer (some ⟨g28, 1, none⟩)) rfl rfl rfl (fun za zC zh zk => fld_72_1 rfl (zh.ev rfl) zk) ?_
              refine WL.step (post := fun _ w' => Upd g28 w113 w' ∧ Blk w' g28 72 #[.slice ((some ⟨gq, 0, none⟩)) q.length rc15, .slice ra114 ((y.1.length + 1)) rc115, .map ((some g20)), .int .i64 0, .int .i64 0, .int .i64 0]) rfl rfl rfl (fun za zC zh zk => st_70 rfl (zh.ev rfl) (zh.ev rfl) hB125 (by first | decide | simp) (fun v => zk v _ ⟨Upd.at_ _ _ _ _, hB125.set_ 1 _⟩)) ?_
              rintro v132 w129 ⟨hu130, hB131⟩
              have hb133 := upd_below hb124 hu130 (by omega)
              have hB134 := upd_blk hB126 hu130 (by omega)
              have ho135 := ho127.upd hu130 (by omega)
              have ho136 := ho128.upd hu130 (by omega)
              have ho137 := hN118.upd hu130 (⟨_, _, hB125, by decide, by decide⟩)
              refine WL.nil (WE.sub (K' := [(0, .slice a q.length c), (4, .pointer (some ⟨g28, 0, none⟩)), (6, .pointer (some ⟨g54, 0, none⟩)), (14, .bool (((decide ((((q.length : Nat) : Int) : Int) < (1 : Int))) || (decide ((8 : Int) < (((q.length : Nat) : Int) : Int)))))), (21, .slice a q.length c), (22, .int .i64 (((q.length : Nat) : Int))), (23, .int .i64 (((y.1.length : Nat) : Int))), (24, .bool ((decide ((((y.1.length : Nat) : Int) : Int) < (((q.length : Nat) : Int) : Int))))), (44, .bool (((((decide (((qget q y.1.length).by_ : Int) < (0 : Int))) || (decide ((4 : Int) < ((qget q y.1.length).by_ : Int)))) || (decide (((qget q y.1.length).take : Int) < (1 : Int)))) || (decide ((1000 : Int) < ((qget q y.1.length).take : Int))))))]) ⟨rfl, rfl, rfl, rfl, rfl, rfl, rfl, rfl, rfl, trivial⟩ ?_)
              refine WE.blockNormal ?_
              refine WE.next ?_
              refine WC.region ?_
              refine WL.val (.int .i64 ((((y.1 ++ [g84]).length : Nat) : Int))) rfl rfl rfl (fun za zC zh zk => addb_3 rfl (zh.ev rfl) (zh.ev rfl) (wrap_eq (by simp) (by omega) (by simp; omega)) zk) ?_
              refine WL.val (.int .i64 ((((y.1 ++ [g84]).length : Nat) : Int))) rfl rfl rfl (fun za zC zh zk => wp_move rfl (zh.ev rfl) zk) ?_
              refine WL.nil (WE.sub (K' := [(0, .slice a q.length c), (4, .pointer (some ⟨g28, 0, none⟩)), (6, .pointer (some ⟨g54, 0, none⟩)), (14, .bool (((decide ((((q.length : Nat) : Int) : Int) < (1 : Int))) || (decide ((8 : Int) < (((q.length : Nat) : Int) : Int)))))), (21, .slice a q.length c), (22, .int .i64 (((q.length : Nat) : Int))), (23, .int .i64 ((((y.1 ++ [g84]).length : Nat) : Int))), (24, .bool ((decide ((((y.1.length : Nat) : Int) : Int) < (((q.length : Nat) : Int) : Int))))), (44, .bool (((((decide (((qget q y.1.length).by_ : Int) < (0 : Int))) || (decide ((4 : Int) < ((qget q y.1.length).by_ : Int)))) || (decide (((qget q y.1.length).take : Int) < (1 : Int)))) || (decide ((1000 : Int) < ((qget q y.1.length).take : Int))))))]) ⟨rfl, rfl, rfl, rfl, rfl, rfl, rfl, rfl, rfl, trivial⟩ ?_)
              refine WE.round (⟨y.1 ++ [g84], ra114, rc115⟩) ⟨rfl, rfl, rfl, rfl, rfl, rfl, trivial⟩ ?_ ?_
              · exact ⟨by simp; omega, fun k hk2 => by
                    by_cases e : k = y.1.length
                    · rw [e]; exact hgood
                    · exact hgs k (by simp at hk2; omega), hb133, by have z := hB131; simpa using z, ho135, ho136, ho137⟩
              · simp; omega
        · have h48 : ¬ ((((y.1.length : Nat) : Int) : Int) < (((q.length : Nat) : Int) : Int)) := by simpa using h48
          refine WC.exit ?_
          refine WE.thenExit ?_
          refine WE.thenExit ?_
          refine WE.blockIs rfl ?_
          refine WE.next ?_
          refine WC.seq ?_
          refine WC.region ?_
          refine WL.val (.pointer (some ⟨g28, 0, none⟩)) rfl rfl rfl (fun za zC zh zk => wp_move rfl (zh.ev rfl) zk) ?_
          refine WL.val (.pointer (some ⟨g28, 0, none⟩)) rfl rfl rfl (fun za zC zh zk => wp_assign rfl (zh.ev rfl) zk) ?_
          refine WL.val (.int .i64 0) rfl rfl rfl (fun za zC zh zk => wp_assign rfl (zh.ev rfl) zk) ?_
          refine WL.nil (WE.sub (K' := [(0, .slice a q.length c), (2, .pointer (some ⟨g28, 0, none⟩)), (3, .int .i64 0), (4, .pointer (some ⟨g28, 0, none⟩)), (14, .bool (((decide ((((q.length : Nat) : Int) : Int) < (1 : Int))) || (decide ((8 : Int) < (((q.length : Nat) : Int) : Int)))))), (21, .slice a q.length c), (22, .int .i64 (((q.length : Nat) : Int))), (23, .int .i64 (((y.1.length : Nat) : Int))), (24, .bool ((decide ((((y.1.length : Nat) : Int) : Int) < (((q.length : Nat) : Int) : Int)))))]) ⟨rfl, rfl, rfl, rfl, rfl, rfl, rfl, rfl, rfl, trivial⟩ ?_)
          refine WE.next ?_
          refine WC.ret ?_
          refine WE.ret2 rfl rfl rfl ?_
          have hln : y.1.length = q.length := by omega
          have hqs : qsOk q = true := qsOk_good hq1 hq8 (fun k hk2 => hgs k (by omega))
          obtain ⟨gh, hra, hgh, hHB⟩ := ho47.row (by omega)
          obtain ⟨cq9, hcq9⟩ := ho45.blk
          have hHp := ho47.hps hB44 ho46 hcq9 hHB
          have hB9 := hB44
          rw [hra, hln] at hB9
          rw [hln] at hHB hHp
          refine ⟨_, rfl, .inr ⟨hqs, ⟨_, rfl, ⟨⟨_, _, _, _, _, _, _, _, _, _, hB9, ho45, hHB, ho46, ImE.nil, hHp, ⟨by omega, by omega, hgq, hgh, fun k hk => ?_, fun _ _ _ e => e.elim⟩, fun k hk => Rel.nil⟩, WsOk.nil, hqs, by omega, by omega⟩⟩, hb43⟩⟩
          have hm9 : y.1.getD k 0 ∈ y.1 := by rw [List.getD_eq_getElem?_getD, List.getElem?_eq_getElem (by omega)]; exact List.getElem_mem _
          exact (ho47.box _ hm9).2

end Go.Proofs.Ytjhkoiggeepajaa
