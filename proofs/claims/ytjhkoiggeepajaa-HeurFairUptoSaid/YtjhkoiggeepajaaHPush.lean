/- A heap: putting in, taking the first. -/
import Derived.Test.YtjhkoiggeepajaaHHeap
namespace Go.Proofs.Ytjhkoiggeepajaa
open Go.RowKit Go
set_option linter.unusedVariables false
set_option linter.unusedSimpArgs false

set_option maxRecDepth 100000 in
theorem push_any (x : It) (L : List It) (w : World) (h : Nat) (Z : Nat → Prop) (hH : HeapAt w h Z L) (hp : IsHeap L) (hZh : ¬ Z h) (hz : L.length ≤ 1000000000) : Calls Try.prog 28 #[.pointer (some ⟨h, 0, none⟩), .agg #[.int .i64 x.b0, .int .i64 x.b1, .int .i64 x.id, .int .i64 x.tm]] w (Ret fun v' w' => v' = .tuple #[] ∧ ∃ L', L'.Perm (L ++ [x]) ∧ IsHeap L' ∧ HeapAt w' h (fun b => Z b ∨ w.heap.size ≤ b) L' ∧ Chg (fun b => b = h ∨ Z b) w w') := by
  have hlt := hH.lt
  obtain ⟨ra, rc, hB, hO⟩ := hH.ex
  refine Calls.walk (l := [.pointer (some ⟨h, 0, none⟩), .agg #[.int .i64 x.b0, .int .i64 x.b1, .int .i64 x.id, .int .i64 x.tm]]) Try.func28 rfl (by kernel_rfl) ?_
  refine WC.sub (K' := [(0, .pointer (some ⟨h, 0, none⟩)), (1, .agg #[.int .i64 x.b0, .int .i64 x.b1, .int .i64 x.id, .int .i64 x.tm])]) ⟨rfl, rfl, trivial⟩ ?_
  refine WC.seq ?_
  refine WC.region ?_
  refine WL.step (post := NewBlk w 75 #[.int .i64 x.b0, .int .i64 x.b1, .int .i64 x.id, .int .i64 x.tm]) rfl rfl rfl (fun za zC zh zk => box_75 rfl (zh.ev rfl) (zk _ _ (newBlk _ _ _))) ?_
  rintro _ w1 ⟨g2, rfl, hg3, hB4, hb5, hz6⟩
  have hl7 : h < g2 := by have z1 := hB.lt; omega
  have hl8 : w.heap.size ≤ g2 := by omega
  refine WL.nil (WE.sub (K' := [(0, .pointer (some ⟨h, 0, none⟩)), (1, .agg #[.int .i64 x.b0, .int .i64 x.b1, .int .i64 x.id, .int .i64 x.tm]), (3, .pointer (some ⟨g2, 0, none⟩))]) ⟨rfl, rfl, rfl, trivial⟩ ?_)
  refine WE.next ?_
  refine WC.seq ?_
  have hB10 := hB.below hb5
  have hO1 : Own w1 (fun b => (Z b ∧ b < w.heap.size) ∨ w1.heap.size ≤ b) 75 4 ra rc L.length (itsC L) := (hO.mono (fun b h1 h2 => .inl ⟨h1, h2⟩)).below hb5
  have hsz1 : w.heap.size ≤ w1.heap.size := (hb5).size
  have hh1 : h < w1.heap.size := by omega
  have hSh : ¬ (fun b => (Z b ∧ b < w.heap.size) ∨ w1.heap.size ≤ b) h := by rintro (⟨q1, q2⟩ | q) <;> first | exact hZh q1 | omega
  refine WC.seqV (S := ((fun b => (fun b => (Z b ∧ b < w.heap.size) ∨ w1.heap.size ≤ b) b ∨ b = h))) [(true, .val (.pointer (some ⟨h, 0, none⟩))), (true, .val (.pointer (some ⟨h, 0, none⟩))), (true, .val (.pointer (some ⟨h, 0, none⟩))), (true, .val (.pointer (some ⟨h, 0, none⟩))), (true, .val (.slice ra L.length rc)), (true, .val (.agg #[.int .i64 x.b0, .int .i64 x.b1, .int .i64 x.id, .int .i64 x.tm])), (true, .val undef), (true, .val undef), (true, .val (.pointer (some ⟨h, 0, none⟩))), (true, .val (.pointer (some ⟨h, 0, none⟩))), (true, .val undef)] [(0, .pointer (some ⟨h, 0, none⟩)), (1, .agg #[.int .i64 x.b0, .int .i64 x.b1, .int .i64 x.id, .int .i64 x.tm]), (3, .pointer (some ⟨g2, 0, none⟩))] [6, 7, 10] [none, none, none] (PushV h (fun b => (Z b ∧ b < w.heap.size) ∨ w1.heap.size ≤ b) x L ra rc) PushV.below (by decide) ⟨rfl, rfl, rfl, trivial⟩ (by kernel_rfl) (by kernel_rfl) (by kernel_rfl) (by kernel_rfl) (⟨hB10, hO1⟩) ?_ ?_
  · refine ⟨.inl ⟨rfl, true, .none rfl, (fun gg b h => by cases h), fun h w => optUndef h, fun zβ za zw zc => ?_⟩, ?_⟩
    · exact wp_move rfl (zc.kn.ev rfl) ⟨_, rfl, Below.refl _ _, optDef zβ rfl⟩
    refine ⟨.inl ⟨rfl, true, .none rfl, (fun gg b h => by cases h), fun h w => optUndef h, fun zβ za zw zc => ?_⟩, ?_⟩
    · exact wp_move rfl (zc.kn.ev rfl) ⟨_, rfl, Below.refl _ _, optDef zβ rfl⟩
    refine ⟨.inl ⟨rfl, true, .none rfl, (fun gg b h => by cases h), fun h w => optUndef h, fun zβ za zw zc => ?_⟩, ?_⟩
    · exact nilCheck_ rfl ((show za.eval (.tmp 7) = za.tmps.getD 7 undef from rfl).trans (optSVal (zc.dep 1 7 (by kernel_rfl) (by decide)) rfl rfl)) ⟨_, rfl, Below.refl _ _, optDef zβ rfl⟩
    refine ⟨.inl ⟨rfl, true, .none rfl, (fun gg b h => by cases h), fun h w => optUndef h, fun zβ za zw zc => ?_⟩, ?_⟩
    · exact fld_81_0 rfl ((show za.eval (.tmp 8) = za.tmps.getD 8 undef from rfl).trans (optSVal (zc.dep 2 8 (by kernel_rfl) (by decide)) rfl rfl)) ⟨_, rfl, Below.refl _ _, optDef zβ rfl⟩
    refine ⟨.inl ⟨rfl, true, .none rfl, (fun gg b h => by cases h), fun h w => optUndef h, fun zβ za zw zc => ?_⟩, ?_⟩
    · obtain ⟨vals, hle, hgv, _⟩ := zc.early 1 7 rfl (by kernel_rfl)
      have zB : HBox zw h ra L.length rc := by
        match vals, hle, hgv with
        | [], _, hg => exact hg.1
        | [_], _, hg => exact hg.1
      exact ld_79 rfl ((show za.eval (.tmp 9) = za.tmps.getD 9 undef from rfl).trans (optSVal (zc.dep 3 9 (by kernel_rfl) (by decide)) rfl rfl)) ((zB.cell 0).trans rfl) ⟨_, rfl, Below.refl _ _, optDef zβ rfl⟩
    refine ⟨.inl ⟨rfl, true, .none rfl, (fun gg b h => by cases h), fun h w => optUndef h, fun zβ za zw zc => ?_⟩, ?_⟩
    · exact ld_75 rfl (zc.kn.ev rfl) (chg_cell zc.chg (by (rintro ((⟨q1, q2⟩ | q) | q) <;> omega)) ((hB4.cell 0).trans rfl)) (chg_cell zc.chg (by (rintro ((⟨q1, q2⟩ | q) | q) <;> omega)) ((hB4.cell 1).trans rfl)) (chg_cell zc.chg (by (rintro ((⟨q1, q2⟩ | q) | q) <;> omega)) ((hB4.cell 2).trans rfl)) (chg_cell zc.chg (by (rintro ((⟨q1, q2⟩ | q) | q) <;> omega)) ((hB4.cell 3).trans rfl)) ⟨_, rfl, Below.refl _ _, optDef zβ rfl⟩
    refine ⟨.inr ⟨0, rfl, by kernel_rfl, true, .none rfl, (fun gg b h => by cases h), (fun h => (nomatch h)), fun zβ za zw zvals zc => ?_⟩, ?_⟩
    · obtain rfl := vlen0 zc.len
      have zn := zc.now
      obtain ⟨k1, k2⟩ : HBox zw h ra L.length rc ∧ Own zw (fun b => (Z b ∧ b < w.heap.size) ∨ w1.heap.size ≤ b) 75 4 ra rc L.length (itsC L) := zn
      exact row_79_1 rfl ((show za.eval (.tmp 11) = za.tmps.getD 11 undef from rfl).trans (optSVal (zc.dep 5 11 (by kernel_rfl) (by decide)) rfl rfl)) ⟨_, rfl, .ofBelow (balloc _ _), ⟨k1.below (balloc _ _), k2.below (balloc _ _), _, rfl, Blk.new' rfl⟩, fun b x e _ => by cases e⟩
    refine ⟨.inr ⟨1, rfl, by kernel_rfl, true, .none rfl, (fun gg b h => by cases h), (fun h => (nomatch h)), fun zβ za zw zvals zc => ?_⟩, ?_⟩
    · obtain ⟨z0, rfl⟩ := vlen1 zc.len
      have zn := zc.now
      obtain ⟨k1, k2, g1, rfl, k3⟩ : HBox zw h ra L.length rc ∧ Own zw (fun b => (Z b ∧ b < w.heap.size) ∨ w1.heap.size ≤ b) 75 4 ra rc L.length (itsC L) ∧ ∃ g, z0 = .slice (some ⟨g, 0, none⟩) 1 1 ∧ Blk zw g 75 #[.int .i64 x.b0, .int .i64 x.b1, .int .i64 x.id, .int .i64 x.tm] := zn
      have e1 := Option.some.inj (zc.val 0 6 12 rfl (by kernel_rfl))
      exact app_79 (S := (fun b => (Z b ∧ b < w.heap.size) ∨ w1.heap.size ≤ b)) (xs := itsC L) (news := [.int .i64 x.b0, .int .i64 x.b1, .int .i64 x.id, .int .i64 x.tm]) rfl ((show za.eval (.tmp 10) = za.tmps.getD 10 undef from rfl).trans (optSVal (zc.dep 4 10 (by kernel_rfl) (by decide)) rfl rfl)) ((show za.eval (.tmp 12) = za.tmps.getD 12 undef from rfl).trans e1.symm) k2 (SrcIs.ofBlk k3) (by simp) (by simp [Value.oneCell']) (by omega) (by omega) (.inr (by have z3 := zc.chg.size; omega)) (fun ra2 rc2 w2 h1 h2 => ⟨_, rfl, h2.mono (fun _ q => .inl q), ⟨chg_blk k1 h2 hSh, ra2, rc2, rfl, by rw [itsC_app, itsC_one]; exact h1⟩, fun b x e _ => by cases e⟩)
    refine ⟨.inl ⟨rfl, true, .none rfl, (fun gg b h => by cases h), fun h w => optUndef h, fun zβ za zw zc => ?_⟩, ?_⟩
    · exact nilCheck_ rfl ((show za.eval (.tmp 6) = za.tmps.getD 6 undef from rfl).trans (optSVal (zc.dep 0 6 (by kernel_rfl) (by decide)) rfl rfl)) ⟨_, rfl, Below.refl _ _, optDef zβ rfl⟩
    refine ⟨.inl ⟨rfl, true, .none rfl, (fun gg b h => by cases h), fun h w => optUndef h, fun zβ za zw zc => ?_⟩, ?_⟩
    · exact fld_81_0 rfl ((show za.eval (.tmp 14) = za.tmps.getD 14 undef from rfl).trans (optSVal (zc.dep 8 14 (by kernel_rfl) (by decide)) rfl rfl)) ⟨_, rfl, Below.refl _ _, optDef zβ rfl⟩
    refine ⟨.inr ⟨2, rfl, by kernel_rfl, true, .none rfl, (fun gg b h => by cases h), (fun h => (nomatch h)), fun zβ za zw zvals zc => ?_⟩, ?_⟩
    · obtain ⟨z0, z1, rfl⟩ := vlen2 zc.len
      have zn := zc.now
      obtain ⟨k1, ra2, rc2, rfl, k2⟩ : HBox zw h ra L.length rc ∧ ∃ ra' rc', z1 = .slice ra' (L.length + 1) rc' ∧ Own zw (fun b => (Z b ∧ b < w.heap.size) ∨ w1.heap.size ≤ b) 75 4 ra' rc' (L.length + 1) (itsC (L ++ [x])) := zn
      have e1 := Option.some.inj (zc.val 1 7 13 rfl (by kernel_rfl))
      exact st_79 rfl ((show za.eval (.tmp 15) = za.tmps.getD 15 undef from rfl).trans (optSVal (zc.dep 9 15 (by kernel_rfl) (by decide)) rfl rfl)) ((show za.eval (.tmp 13) = za.tmps.getD 13 undef from rfl).trans e1.symm) k1 (by simp) (fun v => ⟨v, rfl, .ofUpd (Upd.at_ _ _ _ _) (.inr rfl), ⟨ra2, rc2, k1.set_ 0 _, k2.upd (Upd.at_ _ _ _ _) hSh⟩, fun b x e _ => by cases e⟩)
    exact trivial
  · intro za w11 zvals zh zl hG12 hc13 zu zw zk
    obtain ⟨z0, z1, z2, rfl⟩ := vlen3 zl
    obtain ⟨ra14, rc15, hB2, ho2⟩ : ∃ ra' rc', HBox w11 h ra' (L.length + 1) rc' ∧ Own w11 (fun b => (Z b ∧ b < w.heap.size) ∨ w1.heap.size ≤ b) 75 4 ra' rc' (L.length + 1) (itsC (L ++ [x])) := hG12
    rw [show L.length + 1 = (L ++ [x]).length from by simp] at ho2
    have hcg : Chg (fun b => b = h ∨ Z b) w w11 := Chg.trans2 (.ofBelow hb5) hc13 (by rintro i hi ((⟨q1, q2⟩ | q) | q) <;> first | exact .inr q1 | omega | exact .inl q)
    obtain ⟨gr, rfl, hgr, hHR⟩ := HR.of ho2 (by simp)
    have hne := hHR.ne hB2 (by decide)
    have hgZ : gr < w.heap.size → Z gr := fun q => Or.elim hgr (fun z => z.1) (fun z => by omega)
    clear zu zw zk
    refine (show WE _ [(0, .pointer (some ⟨h, 0, none⟩))] w11 _ .normal from ?_) za (zh.sub ⟨rfl, trivial⟩)
    refine WE.next ?_
    refine WC.seq ?_
    refine WC.region ?_
    refine WL.val (.pointer (some ⟨h, 0, none⟩)) rfl rfl rfl (fun za zC zh zk => wp_move rfl (zh.ev rfl) zk) ?_
    refine WL.val (.pointer (some ⟨h, 0, none⟩)) rfl rfl rfl (fun za zC zh zk => nilCheck_ rfl (zh.ev rfl) zk) ?_
    refine WL.val (.pointer (some ⟨h, 0, none⟩)) rfl rfl rfl (fun za zC zh zk => fld_81_0 rfl (zh.ev rfl) zk) ?_
    refine WL.val (.slice ((some ⟨gr, 0, none⟩)) ((L.length + 1)) rc15) rfl rfl rfl (fun za zC zh zk => ld_79 rfl (zh.ev rfl) ((hB2.cell 0).trans rfl) zk) ?_
    refine WL.val (.int .i64 ((((L.length + 1) : Nat) : Int))) rfl rfl rfl (fun za zC zh zk => len_79 rfl (zh.ev rfl) zk) ?_
    refine WL.val (.int .i64 (((L.length : Nat) : Int))) rfl rfl rfl (fun za zC zh zk => subb_3 rfl (zh.ev rfl) (zh.ev rfl) (wrap_eq (by omega) (by omega) (by omega)) zk) ?_
    refine WL.val (.int .i64 (((L.length : Nat) : Int))) rfl rfl rfl (fun za zC zh zk => wp_assign rfl (zh.ev rfl) zk) ?_
    refine WL.nil (WE.sub (K' := [(0, .pointer (some ⟨h, 0, none⟩)), (4, .int .i64 (((L.length : Nat) : Int)))]) ⟨rfl, rfl, trivial⟩ ?_)
    refine WE.next ?_
    refine WC.block ?_
    refine WC.loop (X := Nat × List It) (fun y => y.1) (fun y => [(0, .pointer (some ⟨h, 0, none⟩)), (4, .int .i64 (((y.1 : Nat) : Int)))]) (fun y w16 => UpTo y.2 y.1 ∧ y.2.Perm (L ++ [x]) ∧ y.2.length = L.length + 1 ∧ Chg (fun b => b = h ∨ Z b) w w16 ∧ Blk w16 h 81 #[.slice ((some ⟨gr, 0, none⟩)) ((L.length + 1)) rc15, .func (.func 25) #[] #[]] ∧ HR (w16) gr rc15 y.2) (⟨L.length, (L ++ [x])⟩) ⟨rfl, rfl, trivial⟩ ?_ ?_
    · exact ⟨UpTo.start hp, .refl _, by simp, hcg, hB2, hHR⟩
    · rintro y w16 ⟨hU, hP, hL, hC, hB17, ho18⟩
      have hli := hU.lt
      refine WC.seq ?_
      refine WC.seq ?_
      refine WC.region ?_
      refine WL.val (.int .i64 (((y.1 : Nat) : Int))) rfl rfl rfl (fun za zC zh zk => wp_move rfl (zh.ev rfl) zk) ?_
      refine WL.val (.bool ((decide ((0 : Int) < (((y.1 : Nat) : Int) : Int))))) rfl rfl rfl (fun za zC zh zk => gtr_3 rfl (zh.ev rfl) (zh.ev rfl) zk) ?_
      refine WL.nil (WE.sub (K' := [(0, .pointer (some ⟨h, 0, none⟩)), (4, .int .i64 (((y.1 : Nat) : Int))), (23, .bool ((decide ((0 : Int) < (((y.1 : Nat) : Int) : Int)))))]) ⟨rfl, rfl, rfl, trivial⟩ ?_)
      refine WE.next ?_
      refine WC.cond rfl (fun h19 => ?_) (fun h19 => ?_)
      · have h19 : (0 : Int) < (((y.1 : Nat) : Int) : Int) := by simpa using h19
        refine WC.skip ?_
        refine WE.next ?_
        refine WC.block ?_
        refine WC.seq ?_
        refine WC.region ?_
        refine WL.val (.int .i64 (((y.1 : Nat) : Int))) rfl rfl rfl (fun za zC zh zk => wp_move rfl (zh.ev rfl) zk) ?_
        refine WL.val (.int .i64 ((((y.1 - 1) : Nat) : Int))) rfl rfl rfl (fun za zC zh zk => subb_3 rfl (zh.ev rfl) (zh.ev rfl) (wrap_eq (by omega) (by omega) (by omega)) zk) ?_
        refine WL.val (.int .i64 (((((y.1 - 1) / 2) : Nat) : Int))) rfl rfl rfl (fun za zC zh zk => quob_3 rfl (zh.ev rfl) (zh.ev rfl) (by decide) (wrap_eq (tdiv2 _) (by omega) (by omega)) zk) ?_
        refine WL.val (.int .i64 (((((y.1 - 1) / 2) : Nat) : Int))) rfl rfl rfl (fun za zC zh zk => wp_assign rfl (zh.ev rfl) zk) ?_
        refine WL.nil (WE.sub (K' := [(0, .pointer (some ⟨h, 0, none⟩)), (4, .int .i64 (((y.1 : Nat) : Int))), (5, .int .i64 (((((y.1 - 1) / 2) : Nat) : Int))), (23, .bool ((decide ((0 : Int) < (((y.1 : Nat) : Int) : Int)))))]) ⟨rfl, rfl, rfl, rfl, trivial⟩ ?_)
        refine WE.next ?_
        refine WC.seq ?_
        refine WC.seq ?_
        refine WC.opt [(true, .val (.pointer (some ⟨h, 0, none⟩))), (true, .val (.pointer (some ⟨h, 0, none⟩))), (true, .val (.pointer (some ⟨h, 1, none⟩))), (true, .val (.func (.func 25) #[] #[])), (true, .val (.pointer (some ⟨h, 0, none⟩))), (true, .val (.pointer (some ⟨h, 0, none⟩))), (true, .val (.pointer (some ⟨h, 0, none⟩))), (true, .val (.slice ((some ⟨gr, 0, none⟩)) ((L.length + 1)) rc15)), (true, .val (.int .i64 (((y.1 : Nat) : Int)))), (true, .val (.pointer (some ⟨gr, 0 + y.1 * 4, none⟩))), (true, .val (.agg #[.int .i64 ((hget y.2 y.1).b0), .int .i64 ((hget y.2 y.1).b1), .int .i64 ((hget y.2 y.1).id), .int .i64 ((hget y.2 y.1).tm)])), (true, .val (.pointer (some ⟨h, 0, none⟩))), (true, .val (.pointer (some ⟨h, 0, none⟩))), (true, .val (.pointer (some ⟨h, 0, none⟩))), (true, .val (.slice ((some ⟨gr, 0, none⟩)) ((L.length + 1)) rc15)), (true, .val (.int .i64 (((((y.1 - 1) / 2) : Nat) : Int)))), (true, .val (.pointer (some ⟨gr, 0 + (((y.1 - 1) / 2)) * 4, none⟩))), (true, .val (.agg #[.int .i64 ((hget y.2 (((y.1 - 1) / 2))).b0), .int .i64 ((hget y.2 (((y.1 - 1) / 2))).b1), .int .i64 ((hget y.2 (((y.1 - 1) / 2))).id), .int .i64 ((hget y.2 (((y.1 - 1) / 2))).tm)])), (true, .val (.int .i64 ((itc (hget y.2 y.1) (hget y.2 (((y.1 - 1) / 2))))))), (true, .val (.bool ((decide ((0 : Int) ≤ ((itc (hget y.2 y.1) (hget y.2 (((y.1 - 1) / 2)))) : Int))))))] [(0, .pointer (some ⟨h, 0, none⟩)), (4, .int .i64 (((y.1 : Nat) : Int))), (5, .int .i64 (((((y.1 - 1) / 2) : Nat) : Int))), (23, .bool ((decide ((0 : Int) < (((y.1 : Nat) : Int) : Int)))))] ⟨rfl, rfl, rfl, rfl, trivial⟩ (by kernel_rfl) (by kernel_rfl) (by kernel_rfl) ?_ ?_
        · refine ⟨⟨true, .none rfl, fun h w => optUndef h, fun zβ za zw zc => ?_⟩, ?_⟩
          · exact wp_move rfl (zc.kn.ev rfl) ⟨_, rfl, Below.refl _ _, optDef zβ rfl⟩
          refine ⟨⟨true, .none rfl, fun h w => optUndef h, fun zβ za zw zc => ?_⟩, ?_⟩
          · exact nilCheck_ rfl ((show za.eval (.tmp 27) = za.tmps.getD 27 undef from rfl).trans (optVal (zc.dep 0 27 (by kernel_rfl)) rfl rfl)) ⟨_, rfl, Below.refl _ _, optDef zβ rfl⟩
          refine ⟨⟨true, .none rfl, fun h w => optUndef h, fun zβ za zw zc => ?_⟩, ?_⟩
          · exact fld_81_1 rfl ((show za.eval (.tmp 28) = za.tmps.getD 28 undef from rfl).trans (optVal (zc.dep 1 28 (by kernel_rfl)) rfl rfl)) ⟨_, rfl, Below.refl _ _, optDef zβ rfl⟩
          refine ⟨⟨true, .none rfl, fun h w => optUndef h, fun zβ za zw zc => ?_⟩, ?_⟩
          · exact ld_78 rfl ((show za.eval (.tmp 29) = za.tmps.getD 29 undef from rfl).trans (optVal (zc.dep 2 29 (by kernel_rfl)) rfl rfl)) (bkeeps zc.below _ _ ((hB17.cell 1).trans rfl)) ⟨_, rfl, Below.refl _ _, optDef zβ rfl⟩
          refine ⟨⟨true, .none rfl, fun h w => optUndef h, fun zβ za zw zc => ?_⟩, ?_⟩
          · exact wp_move rfl (zc.kn.ev rfl) ⟨_, rfl, Below.refl _ _, optDef zβ rfl⟩
          refine ⟨⟨true, .none rfl, fun h w => optUndef h, fun zβ za zw zc => ?_⟩, ?_⟩
          · exact nilCheck_ rfl ((show za.eval (.tmp 31) = za.tmps.getD 31 undef from rfl).trans (optVal (zc.dep 4 31 (by kernel_rfl)) rfl rfl)) ⟨_, rfl, Below.refl _ _, optDef zβ rfl⟩
          refine ⟨⟨true, .none rfl, fun h w => optUndef h, fun zβ za zw zc => ?_⟩, ?_⟩
          · exact fld_81_0 rfl ((show za.eval (.tmp 32) = za.tmps.getD 32 undef from rfl).trans (optVal (zc.dep 5 32 (by kernel_rfl)) rfl rfl)) ⟨_, rfl, Below.refl _ _, optDef zβ rfl⟩
          refine ⟨⟨true, .none rfl, fun h w => optUndef h, fun zβ za zw zc => ?_⟩, ?_⟩
          · exact ld_79 rfl ((show za.eval (.tmp 33) = za.tmps.getD 33 undef from rfl).trans (optVal (zc.dep 6 33 (by kernel_rfl)) rfl rfl)) (bkeeps zc.below _ _ ((hB17.cell 0).trans rfl)) ⟨_, rfl, Below.refl _ _, optDef zβ rfl⟩
          refine ⟨⟨true, .none rfl, fun h w => optUndef h, fun zβ za zw zc => ?_⟩, ?_⟩
          · exact wp_move rfl (zc.kn.ev rfl) ⟨_, rfl, Below.refl _ _, optDef zβ rfl⟩
          refine ⟨⟨true, .none rfl, fun h w => optUndef h, fun zβ za zw zc => ?_⟩, ?_⟩
          · exact ix_79 (k := y.1) rfl ((show za.eval (.tmp 34) = za.tmps.getD 34 undef from rfl).trans (optVal (zc.dep 7 34 (by kernel_rfl)) rfl rfl)) rfl ((show za.eval (.tmp 35) = za.tmps.getD 35 undef from rfl).trans (optVal (zc.dep 8 35 (by kernel_rfl)) rfl rfl)) (by first | omega | (simp; omega)) ⟨_, rfl, Below.refl _ _, optDef zβ rfl⟩
          refine ⟨⟨true, .none rfl, fun h w => optUndef h, fun zβ za zw zc => ?_⟩, ?_⟩
          · exact ld_75 rfl ((show za.eval (.tmp 36) = za.tmps.getD 36 undef from rfl).trans (optVal (zc.dep 9 36 (by kernel_rfl)) rfl rfl)) (bkeeps zc.below _ _ (HR.cells ho18 y.1 (by first | omega | (simp; omega))).1) (bkeeps zc.below _ _ (HR.cells ho18 y.1 (by first | omega | (simp; omega))).2.1) (bkeeps zc.below _ _ (HR.cells ho18 y.1 (by first | omega | (simp; omega))).2.2.1) (bkeeps zc.below _ _ (HR.cells ho18 y.1 (by first | omega | (simp; omega))).2.2.2) ⟨_, rfl, Below.refl _ _, optDef zβ rfl⟩
          refine ⟨⟨true, .none rfl, fun h w => optUndef h, fun zβ za zw zc => ?_⟩, ?_⟩
          · exact wp_move rfl (zc.kn.ev rfl) ⟨_, rfl, Below.refl _ _, optDef zβ rfl⟩
          refine ⟨⟨true, .none rfl, fun h w => optUndef h, fun zβ za zw zc => ?_⟩, ?_⟩
          · exact nilCheck_ rfl ((show za.eval (.tmp 38) = za.tmps.getD 38 undef from rfl).trans (optVal (zc.dep 11 38 (by kernel_rfl)) rfl rfl)) ⟨_, rfl, Below.refl _ _, optDef zβ rfl⟩
          refine ⟨⟨true, .none rfl, fun h w => optUndef h, fun zβ za zw zc => ?_⟩, ?_⟩
          · exact fld_81_0 rfl ((show za.eval (.tmp 39) = za.tmps.getD 39 undef from rfl).trans (optVal (zc.dep 12 39 (by kernel_rfl)) rfl rfl)) ⟨_, rfl, Below.refl _ _, optDef zβ rfl⟩
          refine ⟨⟨true, .none rfl, fun h w => optUndef h, fun zβ za zw zc => ?_⟩, ?_⟩
          · exact ld_79 rfl ((show za.eval (.tmp 40) = za.tmps.getD 40 undef from rfl).trans (optVal (zc.dep 13 40 (by kernel_rfl)) rfl rfl)) (bkeeps zc.below _ _ ((hB17.cell 0).trans rfl)) ⟨_, rfl, Below.refl _ _, optDef zβ rfl⟩
          refine ⟨⟨true, .none rfl, fun h w => optUndef h, fun zβ za zw zc => ?_⟩, ?_⟩
          · exact wp_move rfl (zc.kn.ev rfl) ⟨_, rfl, Below.refl _ _, optDef zβ rfl⟩
          refine ⟨⟨true, .none rfl, fun h w => optUndef h, fun zβ za zw zc => ?_⟩, ?_⟩
          · exact ix_79 (k := ((y.1 - 1) / 2)) rfl ((show za.eval (.tmp 41) = za.tmps.getD 41 undef from rfl).trans (optVal (zc.dep 14 41 (by kernel_rfl)) rfl rfl)) rfl ((show za.eval (.tmp 42) = za.tmps.getD 42 undef from rfl).trans (optVal (zc.dep 15 42 (by kernel_rfl)) rfl rfl)) (by first | omega | (simp; omega)) ⟨_, rfl, Below.refl _ _, optDef zβ rfl⟩
          refine ⟨⟨true, .none rfl, fun h w => optUndef h, fun zβ za zw zc => ?_⟩, ?_⟩
          · exact ld_75 rfl ((show za.eval (.tmp 43) = za.tmps.getD 43 undef from rfl).trans (optVal (zc.dep 16 43 (by kernel_rfl)) rfl rfl)) (bkeeps zc.below _ _ (HR.cells ho18 (((y.1 - 1) / 2)) (by first | omega | (simp; omega))).1) (bkeeps zc.below _ _ (HR.cells ho18 (((y.1 - 1) / 2)) (by first | omega | (simp; omega))).2.1) (bkeeps zc.below _ _ (HR.cells ho18 (((y.1 - 1) / 2)) (by first | omega | (simp; omega))).2.2.1) (bkeeps zc.below _ _ (HR.cells ho18 (((y.1 - 1) / 2)) (by first | omega | (simp; omega))).2.2.2) ⟨_, rfl, Below.refl _ _, optDef zβ rfl⟩
          refine ⟨⟨true, .none rfl, fun h w => optUndef h, fun zβ za zw zc => ?_⟩, ?_⟩
          · exact wp_callv (by kernel_rfl) rfl ((show za.eval (.tmp 30) = za.tmps.getD 30 undef from rfl).trans (optVal (zc.dep 3 30 (by kernel_rfl)) rfl rfl)) (hv2 ((show za.eval (.tmp 37) = za.tmps.getD 37 undef from rfl).trans (optVal (zc.dep 10 37 (by kernel_rfl)) rfl rfl)) ((show za.eval (.tmp 44) = za.tmps.getD 44 undef from rfl).trans (optVal (zc.dep 17 44 (by kernel_rfl)) rfl rfl))) (itc_any (hget y.2 y.1) (hget y.2 (((y.1 - 1) / 2))) _) (fun v w' h => ⟨v, rfl, h.2, optDef zβ h.1⟩)
          refine ⟨⟨true, .none rfl, fun h w => optUndef h, fun zβ za zw zc => ?_⟩, ?_⟩
          · exact geq_3 rfl ((show za.eval (.tmp 45) = za.tmps.getD 45 undef from rfl).trans (optVal (zc.dep 18 45 (by kernel_rfl)) rfl rfl)) (zc.kn.ev rfl) ⟨_, rfl, Below.refl _ _, optDef zβ rfl⟩
          exact trivial
        · intro za w21 zh hb22 zu
          have zh := zh.cons (d := 46) (v := .bool ((decide ((0 : Int) ≤ ((itc (hget y.2 y.1) (hget y.2 (((y.1 - 1) / 2)))) : Int))))) (optVal (zu 19 46 (by kernel_rfl)) rfl rfl)
          clear zu
          refine (show WE _ [(0, .pointer (some ⟨h, 0, none⟩)), (4, .int .i64 (((y.1 : Nat) : Int))), (5, .int .i64 (((((y.1 - 1) / 2) : Nat) : Int))), (23, .bool ((decide ((0 : Int) < (((y.1 : Nat) : Int) : Int))))), (46, .bool ((decide ((0 : Int) ≤ ((itc (hget y.2 y.1) (hget y.2 (((y.1 - 1) / 2)))) : Int)))))] w21 _ .normal from ?_) za (zh.sub ⟨rfl, rfl, rfl, rfl, rfl, trivial⟩)
          refine WE.next ?_
          refine WC.cond rfl (fun h23 => ?_) (fun h23 => ?_)
          · have h23 : (0 : Int) ≤ ((itc (hget y.2 y.1) (hget y.2 (((y.1 - 1) / 2)))) : Int) := by simpa using h23
            refine WC.ret ?_
            refine WE.thenRet ?_
            refine WE.blockRet ?_
            refine WE.thenRet ?_
            refine WE.blockRet ?_
            refine WE.ret0 rfl ?_
            have ho24 := ho18.below hb22
            have hB25 := hB17.below hb22
            exact ⟨_, rfl, rfl, y.2, hP, hU.done (.inr ((itc_ge _ _).1 h23)), ⟨⟨_, _, by rw [hL]; exact hB25, ho24.own (Or.elim hgr (fun q => .inl q.1) (fun q => .inr (by omega)))⟩⟩, hC.trans (.ofBelow hb22)⟩
          · have h23 : ¬ ((0 : Int) ≤ ((itc (hget y.2 y.1) (hget y.2 (((y.1 - 1) / 2)))) : Int)) := by simpa using h23
            have hnle : ¬ (hget y.2 ((y.1 - 1) / 2)).le (hget y.2 y.1) := fun q => h23 ((itc_ge _ _).2 q)
            refine WC.skip ?_
            refine WE.next ?_
            refine WC.seq ?_
            have hB26 := hB17.below hb22
            have ho27 := ho18.below hb22
            refine WC.seqV (S := ((fun b => b = gr))) [(true, .val (.pointer (some ⟨h, 0, none⟩))), (true, .val (.pointer (some ⟨h, 0, none⟩))), (true, .val (.pointer (some ⟨h, 0, none⟩))), (true, .val (.slice ((some ⟨gr, 0, none⟩)) ((L.length + 1)) rc15)), (true, .val (.int .i64 (((y.1 : Nat) : Int)))), (true, .val (.pointer (some ⟨h, 0, none⟩))), (true, .val (.pointer (some ⟨h, 0, none⟩))), (true, .val (.pointer (some ⟨h, 0, none⟩))), (true, .val (.slice ((some ⟨gr, 0, none⟩)) ((L.length + 1)) rc15)), (true, .val (.int .i64 (((((y.1 - 1) / 2) : Nat) : Int)))), (true, .val (.pointer (some ⟨h, 0, none⟩))), (true, .val (.pointer (some ⟨h, 0, none⟩))), (true, .val (.pointer (some ⟨h, 0, none⟩))), (true, .val (.slice ((some ⟨gr, 0, none⟩)) ((L.length + 1)) rc15)), (true, .val (.int .i64 (((((y.1 - 1) / 2) : Nat) : Int)))), (true, .val (.pointer (some ⟨gr, 0 + (((y.1 - 1) / 2)) * 4, none⟩))), (true, .val (.agg #[.int .i64 ((hget y.2 (((y.1 - 1) / 2))).b0), .int .i64 ((hget y.2 (((y.1 - 1) / 2))).b1), .int .i64 ((hget y.2 (((y.1 - 1) / 2))).id), .int .i64 ((hget y.2 (((y.1 - 1) / 2))).tm)])), (true, .val (.pointer (some ⟨h, 0, none⟩))), (true, .val (.pointer (some ⟨h, 0, none⟩))), (true, .val (.pointer (some ⟨h, 0, none⟩))), (true, .val (.slice ((some ⟨gr, 0, none⟩)) ((L.length + 1)) rc15)), (true, .val (.int .i64 (((y.1 : Nat) : Int)))), (true, .val (.pointer (some ⟨gr, 0 + y.1 * 4, none⟩))), (true, .val (.agg #[.int .i64 ((hget y.2 y.1).b0), .int .i64 ((hget y.2 y.1).b1), .int .i64 ((hget y.2 y.1).id), .int .i64 ((hget y.2 y.1).tm)])), (true, .val (.pointer (some ⟨gr, 0 + y.1 * 4, none⟩))), (true, .val undef), (true, .val (.pointer (some ⟨gr, 0 + (((y.1 - 1) / 2)) * 4, none⟩))), (true, .val undef)] [(0, .pointer (some ⟨h, 0, none⟩)), (4, .int .i64 (((y.1 : Nat) : Int))), (5, .int .i64 (((((y.1 - 1) / 2) : Nat) : Int))), (23, .bool ((decide ((0 : Int) < (((y.1 : Nat) : Int) : Int))))), (46, .bool ((decide ((0 : Int) ≤ ((itc (hget y.2 y.1) (hget y.2 (((y.1 - 1) / 2)))) : Int)))))] [25, 27] [none, none] (HV gr rc15 [y.2, (y.2.set y.1 (hget y.2 (((y.1 - 1) / 2)))), (swp y.2 y.1 (((y.1 - 1) / 2)))]) HV.below (by decide) ⟨rfl, rfl, rfl, rfl, rfl, trivial⟩ (by kernel_rfl) (by kernel_rfl) (by kernel_rfl) (by kernel_rfl) ho27 ?_ ?_
            · refine ⟨.inl ⟨rfl, true, .none rfl, (fun gg b h => by cases h), fun h w => optUndef h, fun zβ za zw zc => ?_⟩, ?_⟩
              · exact wp_move rfl (zc.kn.ev rfl) ⟨_, rfl, Below.refl _ _, optDef zβ rfl⟩
              refine ⟨.inl ⟨rfl, true, .none rfl, (fun gg b h => by cases h), fun h w => optUndef h, fun zβ za zw zc => ?_⟩, ?_⟩
              · exact nilCheck_ rfl ((show za.eval (.tmp 47) = za.tmps.getD 47 undef from rfl).trans (optSVal (zc.dep 0 47 (by kernel_rfl) (by decide)) rfl rfl)) ⟨_, rfl, Below.refl _ _, optDef zβ rfl⟩
              refine ⟨.inl ⟨rfl, true, .none rfl, (fun gg b h => by cases h), fun h w => optUndef h, fun zβ za zw zc => ?_⟩, ?_⟩
              · exact fld_81_0 rfl ((show za.eval (.tmp 48) = za.tmps.getD 48 undef from rfl).trans (optSVal (zc.dep 1 48 (by kernel_rfl) (by decide)) rfl rfl)) ⟨_, rfl, Below.refl _ _, optDef zβ rfl⟩
              refine ⟨.inl ⟨rfl, true, .none rfl, (fun gg b h => by cases h), fun h w => optUndef h, fun zβ za zw zc => ?_⟩, ?_⟩
              · exact ld_79 rfl ((show za.eval (.tmp 49) = za.tmps.getD 49 undef from rfl).trans (optSVal (zc.dep 2 49 (by kernel_rfl) (by decide)) rfl rfl)) (chg_cell zc.chg (by (try dsimp only at *); omega) ((hB26.cell 0).trans rfl)) ⟨_, rfl, Below.refl _ _, optDef zβ rfl⟩
              refine ⟨.inl ⟨rfl, true, .none rfl, (fun gg b h => by cases h), fun h w => optUndef h, fun zβ za zw zc => ?_⟩, ?_⟩
              · exact wp_move rfl (zc.kn.ev rfl) ⟨_, rfl, Below.refl _ _, optDef zβ rfl⟩
              refine ⟨.inl ⟨rfl, true, .none rfl, (fun gg b h => by cases h), fun h w => optUndef h, fun zβ za zw zc => ?_⟩, ?_⟩
              · exact wp_move rfl (zc.kn.ev rfl) ⟨_, rfl, Below.refl _ _, optDef zβ rfl⟩
              refine ⟨.inl ⟨rfl, true, .none rfl, (fun gg b h => by cases h), fun h w => optUndef h, fun zβ za zw zc => ?_⟩, ?_⟩
              · exact nilCheck_ rfl ((show za.eval (.tmp 52) = za.tmps.getD 52 undef from rfl).trans (optSVal (zc.dep 5 52 (by kernel_rfl) (by decide)) rfl rfl)) ⟨_, rfl, Below.refl _ _, optDef zβ rfl⟩
              refine ⟨.inl ⟨rfl, true, .none rfl, (fun gg b h => by cases h), fun h w => optUndef h, fun zβ za zw zc => ?_⟩, ?_⟩
              · exact fld_81_0 rfl ((show za.eval (.tmp 53) = za.tmps.getD 53 undef from rfl).trans (optSVal (zc.dep 6 53 (by kernel_rfl) (by decide)) rfl rfl)) ⟨_, rfl, Below.refl _ _, optDef zβ rfl⟩
              refine ⟨.inl ⟨rfl, true, .none rfl, (fun gg b h => by cases h), fun h w => optUndef h, fun zβ za zw zc => ?_⟩, ?_⟩
              · exact ld_79 rfl ((show za.eval (.tmp 54) = za.tmps.getD 54 undef from rfl).trans (optSVal (zc.dep 7 54 (by kernel_rfl) (by decide)) rfl rfl)) (chg_cell zc.chg (by (try dsimp only at *); omega) ((hB26.cell 0).trans rfl)) ⟨_, rfl, Below.refl _ _, optDef zβ rfl⟩
              refine ⟨.inl ⟨rfl, true, .none rfl, (fun gg b h => by cases h), fun h w => optUndef h, fun zβ za zw zc => ?_⟩, ?_⟩
              · exact wp_move rfl (zc.kn.ev rfl) ⟨_, rfl, Below.refl _ _, optDef zβ rfl⟩
              refine ⟨.inl ⟨rfl, true, .none rfl, (fun gg b h => by cases h), fun h w => optUndef h, fun zβ za zw zc => ?_⟩, ?_⟩
              · exact wp_move rfl (zc.kn.ev rfl) ⟨_, rfl, Below.refl _ _, optDef zβ rfl⟩
              refine ⟨.inl ⟨rfl, true, .none rfl, (fun gg b h => by cases h), fun h w => optUndef h, fun zβ za zw zc => ?_⟩, ?_⟩
              · exact nilCheck_ rfl ((show za.eval (.tmp 57) = za.tmps.getD 57 undef from rfl).trans (optSVal (zc.dep 10 57 (by kernel_rfl) (by decide)) rfl rfl)) ⟨_, rfl, Below.refl _ _, optDef zβ rfl⟩
              refine ⟨.inl ⟨rfl, true, .none rfl, (fun gg b h => by cases h), fun h w => optUndef h, fun zβ za zw zc => ?_⟩, ?_⟩
              · exact fld_81_0 rfl ((show za.eval (.tmp 58) = za.tmps.getD 58 undef from rfl).trans (optSVal (zc.dep 11 58 (by kernel_rfl) (by decide)) rfl rfl)) ⟨_, rfl, Below.refl _ _, optDef zβ rfl⟩
              refine ⟨.inl ⟨rfl, true, .none rfl, (fun gg b h => by cases h), fun h w => optUndef h, fun zβ za zw zc => ?_⟩, ?_⟩
              · exact ld_79 rfl ((show za.eval (.tmp 59) = za.tmps.getD 59 undef from rfl).trans (optSVal (zc.dep 12 59 (by kernel_rfl) (by decide)) rfl rfl)) (chg_cell zc.chg (by (try dsimp only at *); omega) ((hB26.cell 0).trans rfl)) ⟨_, rfl, Below.refl _ _, optDef zβ rfl⟩
              refine ⟨.inl ⟨rfl, true, .none rfl, (fun gg b h => by cases h), fun h w => optUndef h, fun zβ za zw zc => ?_⟩, ?_⟩
              · exact wp_move rfl (zc.kn.ev rfl) ⟨_, rfl, Below.refl _ _, optDef zβ rfl⟩
              refine ⟨.inl ⟨rfl, true, .none rfl, (fun gg b h => by cases h), fun h w => optUndef h, fun zβ za zw zc => ?_⟩, ?_⟩
              · exact ix_79 (k := ((y.1 - 1) / 2)) rfl ((show za.eval (.tmp 60) = za.tmps.getD 60 undef from rfl).trans (optSVal (zc.dep 13 60 (by kernel_rfl) (by decide)) rfl rfl)) rfl ((show za.eval (.tmp 61) = za.tmps.getD 61 undef from rfl).trans (optSVal (zc.dep 14 61 (by kernel_rfl) (by decide)) rfl rfl)) (by first | omega | (simp; omega)) ⟨_, rfl, Below.refl _ _, optDef zβ rfl⟩
              refine ⟨.inl ⟨rfl, true, .none rfl, (fun gg b h => by cases h), fun h w => optUndef h, fun zβ za zw zc => ?_⟩, ?_⟩
              · obtain ⟨vals, hle, hgv, _⟩ := zc.early 0 25 rfl (by kernel_rfl)
                have zn2 : HR zw gr rc15 y.2 := by
                  match vals, hle, hgv with
                  | [], _, hg => exact hg
                exact ld_75 rfl ((show za.eval (.tmp 62) = za.tmps.getD 62 undef from rfl).trans (optSVal (zc.dep 15 62 (by kernel_rfl) (by decide)) rfl rfl)) (HR.cells zn2 (((y.1 - 1) / 2)) (by first | omega | (simp; omega))).1 (HR.cells zn2 (((y.1 - 1) / 2)) (by first | omega | (simp; omega))).2.1 (HR.cells zn2 (((y.1 - 1) / 2)) (by first | omega | (simp; omega))).2.2.1 (HR.cells zn2 (((y.1 - 1) / 2)) (by first | omega | (simp; omega))).2.2.2 ⟨_, rfl, Below.refl _ _, optDef zβ rfl⟩
              refine ⟨.inl ⟨rfl, true, .none rfl, (fun gg b h => by cases h), fun h w => optUndef h, fun zβ za zw zc => ?_⟩, ?_⟩
              · exact wp_move rfl (zc.kn.ev rfl) ⟨_, rfl, Below.refl _ _, optDef zβ rfl⟩
              refine ⟨.inl ⟨rfl, true, .none rfl, (fun gg b h => by cases h), fun h w => optUndef h, fun zβ za zw zc => ?_⟩, ?_⟩
              · exact nilCheck_ rfl ((show za.eval (.tmp 64) = za.tmps.getD 64 undef from rfl).trans (optSVal (zc.dep 17 64 (by kernel_rfl) (by decide)) rfl rfl)) ⟨_, rfl, Below.refl _ _, optDef zβ rfl⟩
              refine ⟨.inl ⟨rfl, true, .none rfl, (fun gg b h => by cases h), fun h w => optUndef h, fun zβ za zw zc => ?_⟩, ?_⟩
              · exact fld_81_0 rfl ((show za.eval (.tmp 65) = za.tmps.getD 65 undef from rfl).trans (optSVal (zc.dep 18 65 (by kernel_rfl) (by decide)) rfl rfl)) ⟨_, rfl, Below.refl _ _, optDef zβ rfl⟩
              refine ⟨.inl ⟨rfl, true, .none rfl, (fun gg b h => by cases h), fun h w => optUndef h, fun zβ za zw zc => ?_⟩, ?_⟩
              · exact ld_79 rfl ((show za.eval (.tmp 66) = za.tmps.getD 66 undef from rfl).trans (optSVal (zc.dep 19 66 (by kernel_rfl) (by decide)) rfl rfl)) (chg_cell zc.chg (by (try dsimp only at *); omega) ((hB26.cell 0).trans rfl)) ⟨_, rfl, Below.refl _ _, optDef zβ rfl⟩
              refine ⟨.inl ⟨rfl, true, .none rfl, (fun gg b h => by cases h), fun h w => optUndef h, fun zβ za zw zc => ?_⟩, ?_⟩
              · exact wp_move rfl (zc.kn.ev rfl) ⟨_, rfl, Below.refl _ _, optDef zβ rfl⟩
              refine ⟨.inl ⟨rfl, true, .none rfl, (fun gg b h => by cases h), fun h w => optUndef h, fun zβ za zw zc => ?_⟩, ?_⟩
              · exact ix_79 (k := y.1) rfl ((show za.eval (.tmp 67) = za.tmps.getD 67 undef from rfl).trans (optSVal (zc.dep 20 67 (by kernel_rfl) (by decide)) rfl rfl)) rfl ((show za.eval (.tmp 68) = za.tmps.getD 68 undef from rfl).trans (optSVal (zc.dep 21 68 (by kernel_rfl) (by decide)) rfl rfl)) (by first | omega | (simp; omega)) ⟨_, rfl, Below.refl _ _, optDef zβ rfl⟩
              refine ⟨.inl ⟨rfl, true, .none rfl, (fun gg b h => by cases h), fun h w => optUndef h, fun zβ za zw zc => ?_⟩, ?_⟩
              · obtain ⟨vals, hle, hgv, _⟩ := zc.early 0 25 rfl (by kernel_rfl)
                have zn2 : HR zw gr rc15 y.2 := by
                  match vals, hle, hgv with
                  | [], _, hg => exact hg
                exact ld_75 rfl ((show za.eval (.tmp 69) = za.tmps.getD 69 undef from rfl).trans (optSVal (zc.dep 22 69 (by kernel_rfl) (by decide)) rfl rfl)) (HR.cells zn2 y.1 (by first | omega | (simp; omega))).1 (HR.cells zn2 y.1 (by first | omega | (simp; omega))).2.1 (HR.cells zn2 y.1 (by first | omega | (simp; omega))).2.2.1 (HR.cells zn2 y.1 (by first | omega | (simp; omega))).2.2.2 ⟨_, rfl, Below.refl _ _, optDef zβ rfl⟩
              refine ⟨.inl ⟨rfl, true, .none rfl, (fun gg b h => by cases h), fun h w => optUndef h, fun zβ za zw zc => ?_⟩, ?_⟩
              · exact ix_79 (k := y.1) rfl ((show za.eval (.tmp 50) = za.tmps.getD 50 undef from rfl).trans (optSVal (zc.dep 3 50 (by kernel_rfl) (by decide)) rfl rfl)) rfl ((show za.eval (.tmp 51) = za.tmps.getD 51 undef from rfl).trans (optSVal (zc.dep 4 51 (by kernel_rfl) (by decide)) rfl rfl)) (by first | omega | (simp; omega)) ⟨_, rfl, Below.refl _ _, optDef zβ rfl⟩
              refine ⟨.inr ⟨0, rfl, by kernel_rfl, true, .none rfl, (fun gg b h => by cases h), (fun h => (nomatch h)), fun zβ za zw zvals zc => ?_⟩, ?_⟩
              · obtain rfl := vlen0 zc.len
                have zn := zc.now
                have zn2 : HR zw gr rc15 y.2 := zn
                obtain ⟨cc, hcB, hcS⟩ := zn2.size (i := y.1) (by (try simp); omega)
                exact st_75 rfl ((show za.eval (.tmp 71) = za.tmps.getD 71 undef from rfl).trans (optSVal (zc.dep 24 71 (by kernel_rfl) (by decide)) rfl rfl)) ((show za.eval (.tmp 63) = za.tmps.getD 63 undef from rfl).trans (optSVal (zc.dep 16 63 (by kernel_rfl) (by decide)) rfl rfl)) rfl rfl rfl rfl hcB hcS (fun v => ⟨v, rfl, .ofUpd ((((Upd.at_ _ _ _ _).trans (Upd.at_ _ _ _ _)).trans (Upd.at_ _ _ _ _)).trans (Upd.at_ _ _ _ _)) rfl, HR.set zn2 (i := y.1) (hget y.2 (((y.1 - 1) / 2))) (by (try simp); omega), fun b x e _ => by cases e⟩)
              refine ⟨.inl ⟨rfl, true, .none rfl, (fun gg b h => by cases h), fun h w => optUndef h, fun zβ za zw zc => ?_⟩, ?_⟩
              · exact ix_79 (k := ((y.1 - 1) / 2)) rfl ((show za.eval (.tmp 55) = za.tmps.getD 55 undef from rfl).trans (optSVal (zc.dep 8 55 (by kernel_rfl) (by decide)) rfl rfl)) rfl ((show za.eval (.tmp 56) = za.tmps.getD 56 undef from rfl).trans (optSVal (zc.dep 9 56 (by kernel_rfl) (by decide)) rfl rfl)) (by first | omega | (simp; omega)) ⟨_, rfl, Below.refl _ _, optDef zβ rfl⟩
              refine ⟨.inr ⟨1, rfl, by kernel_rfl, true, .none rfl, (fun gg b h => by cases h), (fun h => (nomatch h)), fun zβ za zw zvals zc => ?_⟩, ?_⟩
              · obtain ⟨z0, rfl⟩ := vlen1 zc.len
                have zn := zc.now
                have zn2 : HR zw gr rc15 ((y.2.set y.1 (hget y.2 (((y.1 - 1) / 2))))) := zn
                obtain ⟨cc, hcB, hcS⟩ := zn2.size (i := ((y.1 - 1) / 2)) (by (try simp); omega)
                exact st_75 rfl ((show za.eval (.tmp 72) = za.tmps.getD 72 undef from rfl).trans (optSVal (zc.dep 26 72 (by kernel_rfl) (by decide)) rfl rfl)) ((show za.eval (.tmp 70) = za.tmps.getD 70 undef from rfl).trans (optSVal (zc.dep 23 70 (by kernel_rfl) (by decide)) rfl rfl)) rfl rfl rfl rfl hcB hcS (fun v => ⟨v, rfl, .ofUpd ((((Upd.at_ _ _ _ _).trans (Upd.at_ _ _ _ _)).trans (Upd.at_ _ _ _ _)).trans (Upd.at_ _ _ _ _)) rfl, HR.set zn2 (i := ((y.1 - 1) / 2)) (hget y.2 y.1) (by (try simp); omega), fun b x e _ => by cases e⟩)
              exact trivial
            · intro za w28 zvals zh zl hG29 hc30 zu zw zk
              obtain ⟨z0, z1, rfl⟩ := vlen2 zl
              have hB31 := chg_blk hB26 hc30 (by (try dsimp only at *); omega)
              have ho32 : HR w28 gr rc15 ((swp y.2 y.1 (((y.1 - 1) / 2)))) := hG29
              clear zu zw zk
              refine (show WE _ [(0, .pointer (some ⟨h, 0, none⟩)), (4, .int .i64 (((y.1 : Nat) : Int))), (5, .int .i64 (((((y.1 - 1) / 2) : Nat) : Int))), (23, .bool ((decide ((0 : Int) < (((y.1 : Nat) : Int) : Int))))), (46, .bool ((decide ((0 : Int) ≤ ((itc (hget y.2 y.1) (hget y.2 (((y.1 - 1) / 2)))) : Int)))))] w28 _ .normal from ?_) za (zh.sub ⟨rfl, rfl, rfl, rfl, rfl, trivial⟩)
              refine WE.next ?_
              refine WC.region ?_
              refine WL.val (.int .i64 (((((y.1 - 1) / 2) : Nat) : Int))) rfl rfl rfl (fun za zC zh zk => wp_move rfl (zh.ev rfl) zk) ?_
              refine WL.val (.int .i64 (((((y.1 - 1) / 2) : Nat) : Int))) rfl rfl rfl (fun za zC zh zk => wp_assign rfl (zh.ev rfl) zk) ?_
              refine WL.nil (WE.sub (K' := [(0, .pointer (some ⟨h, 0, none⟩)), (4, .int .i64 (((((y.1 - 1) / 2) : Nat) : Int))), (5, .int .i64 (((((y.1 - 1) / 2) : Nat) : Int))), (23, .bool ((decide ((0 : Int) < (((y.1 : Nat) : Int) : Int))))), (46, .bool ((decide ((0 : Int) ≤ ((itc (hget y.2 y.1) (hget y.2 (((y.1 - 1) / 2)))) : Int)))))]) ⟨rfl, rfl, rfl, rfl, rfl, trivial⟩ ?_)
              refine WE.blockNormal ?_
              refine WE.round (⟨(y.1 - 1) / 2, swp y.2 y.1 ((y.1 - 1) / 2)⟩) ⟨rfl, rfl, trivial⟩ ?_ ?_
              · exact ⟨UpTo.step hU (by omega) hnle, (swp_perm (by omega) (by omega)).trans hP, by (try dsimp only); rw [swp_len]; exact hL, Chg.trans2 hC (Chg.trans2 (.ofBelow hb22) hc30 (fun i _ q => q)) (fun i hi q => .inr (q ▸ hgZ (by omega))), hB31, ho32⟩
              · (try dsimp only); omega
      · have h19 : ¬ ((0 : Int) < (((y.1 : Nat) : Int) : Int)) := by simpa using h19
        refine WC.exit ?_
        refine WE.thenExit ?_
        refine WE.thenExit ?_
        refine WE.blockIs rfl ?_
        refine WE.end0 rfl ?_
        exact ⟨_, rfl, rfl, y.2, hP, hU.done (.inl (by omega)), ⟨⟨_, _, by rw [hL]; exact hB17, ho18.own (Or.elim hgr (fun q => .inl q.1) (fun q => .inr (by omega)))⟩⟩, hC.trans (.ofBelow (Below.refl _ _))⟩

set_option maxRecDepth 100000 in
theorem pop_any (L : List It) (w : World) (h : Nat) (Z : Nat → Prop) (hH : HeapAt w h Z L) (hp : IsHeap L) (hZh : ¬ Z h) (hz : L.length ≤ 1000000000) : Calls Try.prog 29 #[.pointer (some ⟨h, 0, none⟩)] w (Ret fun v' w' =>
    (L = [] ∧ v' = .tuple #[.agg #[.int .i64 0, .int .i64 0, .int .i64 0, .int .i64 0], .bool false] ∧ Below w.heap.size w w') ∨
    (0 < L.length ∧ v' = .tuple #[.agg #[.int .i64 ((hget L 0).b0), .int .i64 ((hget L 0).b1), .int .i64 ((hget L 0).id), .int .i64 ((hget L 0).tm)], .bool true] ∧ ∃ M, (hget L 0 :: M).Perm L ∧ IsHeap M ∧ HeapAt w' h Z M ∧ Chg (fun b => b = h ∨ Z b) w w')) := by
  have hlt := hH.lt
  obtain ⟨ra, rc, hB, hO⟩ := hH.ex
  refine Calls.walk (l := [.pointer (some ⟨h, 0, none⟩)]) Try.func29 rfl (by kernel_rfl) ?_
  refine WC.sub (K' := [(0, .pointer (some ⟨h, 0, none⟩))]) ⟨rfl, trivial⟩ ?_
  refine WC.seq ?_
  refine WC.region ?_
  refine WL.step (post := NewBlk w 75 #[.int .i64 0, .int .i64 0, .int .i64 0, .int .i64 0]) rfl rfl rfl (fun za zC zh zk => alloc_75 rfl (zk _ _ (newBlk _ _ _))) ?_
  rintro _ w1 ⟨g2, rfl, hg3, hB4, hb5, hz6⟩
  have hl7 : h < g2 := by have z1 := hB.lt; omega
  have hl8 : w.heap.size ≤ g2 := by omega
  refine WL.val (.bool false) rfl rfl rfl (fun za zC zh zk => wp_assign rfl (zh.ev rfl) zk) ?_
  refine WL.nil (WE.sub (K' := [(0, .pointer (some ⟨h, 0, none⟩)), (2, .pointer (some ⟨g2, 0, none⟩)), (3, .bool false)]) ⟨rfl, rfl, rfl, trivial⟩ ?_)
  refine WE.next ?_
  refine WC.seq ?_
  refine WC.seq ?_
  refine WC.region ?_
  refine WL.val (.pointer (some ⟨h, 0, none⟩)) rfl rfl rfl (fun za zC zh zk => wp_move rfl (zh.ev rfl) zk) ?_
  refine WL.val (.pointer (some ⟨h, 0, none⟩)) rfl rfl rfl (fun za zC zh zk => nilCheck_ rfl (zh.ev rfl) zk) ?_
  refine WL.val (.pointer (some ⟨h, 0, none⟩)) rfl rfl rfl (fun za zC zh zk => fld_81_0 rfl (zh.ev rfl) zk) ?_
  have hB9 := hB.below hb5
  refine WL.val (.slice ra L.length rc) rfl rfl rfl (fun za zC zh zk => ld_79 rfl (zh.ev rfl) ((hB9.cell 0).trans rfl) zk) ?_
  refine WL.val (.int .i64 (((L.length : Nat) : Int))) rfl rfl rfl (fun za zC zh zk => len_79 rfl (zh.ev rfl) zk) ?_
  refine WL.val (.bool (((((L.length : Nat) : Int) : Int) == (0 : Int)))) rfl rfl rfl (fun za zC zh zk => eql_3 rfl (zh.ev rfl) (zh.ev rfl) zk) ?_
  refine WL.nil (WE.sub (K' := [(0, .pointer (some ⟨h, 0, none⟩)), (2, .pointer (some ⟨g2, 0, none⟩)), (3, .bool false), (12, .bool (((((L.length : Nat) : Int) : Int) == (0 : Int))))]) ⟨rfl, rfl, rfl, rfl, trivial⟩ ?_)
  refine WE.next ?_
  refine WC.cond rfl (fun h10 => ?_) (fun h10 => ?_)
  · have h10 : (((L.length : Nat) : Int) : Int) = (0 : Int) := by simpa using h10
    refine WC.seq ?_
    refine WC.region ?_
    refine WL.val (.agg #[.int .i64 0, .int .i64 0, .int .i64 0, .int .i64 0]) rfl rfl rfl (fun za zC zh zk => ld_75 rfl (zh.ev rfl) ((hB4.cell 0).trans rfl) ((hB4.cell 1).trans rfl) ((hB4.cell 2).trans rfl) ((hB4.cell 3).trans rfl) zk) ?_
    refine WL.step (post := fun _ w' => Upd g2 w1 w' ∧ Blk w' g2 75 #[.int .i64 0, .int .i64 0, .int .i64 0, .int .i64 0]) rfl rfl rfl (fun za zC zh zk => st_75 rfl (zh.ev rfl) (zh.ev rfl) rfl rfl rfl rfl hB4 (by first | decide | simp) (fun v => zk v _ ⟨(((Upd.at_ _ _ _ _).trans (Upd.at_ _ _ _ _)).trans (Upd.at_ _ _ _ _)).trans (Upd.at_ _ _ _ _), (((hB4.set_ 0 _).set_ 1 _).set_ 2 _).set_ 3 _⟩)) ?_
    rintro v14 w11 ⟨hu12, hB13⟩
    have hb15 := upd_below hb5 hu12 (by omega)
    have hB16 := upd_blk hB9 hu12 (by omega)
    refine WL.val (.bool false) rfl rfl rfl (fun za zC zh zk => wp_assign rfl (zh.ev rfl) zk) ?_
    refine WL.nil (WE.sub (K' := [(0, .pointer (some ⟨h, 0, none⟩)), (2, .pointer (some ⟨g2, 0, none⟩)), (3, .bool false), (12, .bool (((((L.length : Nat) : Int) : Int) == (0 : Int))))]) ⟨rfl, rfl, rfl, rfl, trivial⟩ ?_)
    refine WE.next ?_
    refine WC.ret ?_
    refine WE.thenRet ?_
    refine WE.retAny (v := .tuple #[.agg #[.int .i64 0, .int .i64 0, .int .i64 0, .int .i64 0], .bool false]) (fun za zh => ?_) ?_
    · have z0 : za.tmps[2]?.getD undef = .pointer (some ⟨g2, 0, none⟩) := by rw [← Array.getD_eq_getD_getElem?]; exact zh.knows 2 _ rfl
      have y0_0 : w11.cell? ⟨g2, 0, none⟩ = some (.int .i64 0) := ((hB13.cell 0).trans rfl)
      have y0_1 : w11.cell? ⟨g2, 1, none⟩ = some (.int .i64 0) := ((hB13.cell 1).trans rfl)
      have y0_2 : w11.cell? ⟨g2, 2, none⟩ = some (.int .i64 0) := ((hB13.cell 2).trans rfl)
      have y0_3 : w11.cell? ⟨g2, 3, none⟩ = some (.int .i64 0) := ((hB13.cell 3).trans rfl)
      have z1 : za.tmps[3]?.getD undef = .bool false := by rw [← Array.getD_eq_getD_getElem?]; exact zh.knows 3 _ rfl
      simp [results, Try.results29, z0, y0_0, y0_1, y0_2, y0_3, z1, go_sem]
    · exact ⟨_, rfl, .inl ⟨List.eq_nil_of_length_eq_zero (by omega), rfl, hb15⟩⟩
  · have h10 : ¬ ((((L.length : Nat) : Int) : Int) = (0 : Int)) := by simpa using h10
    have hL0 : 0 < L.length := by omega
    obtain ⟨gr, rfl, hgr, hHR⟩ := HR.of hO hL0
    have hne := hHR.ne hB (by decide)
    have hglt := hHR.lt
    have hcap := hHR.cap
    refine WC.skip ?_
    refine WE.next ?_
    refine WC.seq ?_
    refine WC.region ?_
    refine WL.val (.pointer (some ⟨h, 0, none⟩)) rfl rfl rfl (fun za zC zh zk => wp_move rfl (zh.ev rfl) zk) ?_
    refine WL.val (.pointer (some ⟨h, 0, none⟩)) rfl rfl rfl (fun za zC zh zk => nilCheck_ rfl (zh.ev rfl) zk) ?_
    refine WL.val (.pointer (some ⟨h, 0, none⟩)) rfl rfl rfl (fun za zC zh zk => fld_81_0 rfl (zh.ev rfl) zk) ?_
    refine WL.val (.slice ((some ⟨gr, 0, none⟩)) L.length rc) rfl rfl rfl (fun za zC zh zk => ld_79 rfl (zh.ev rfl) ((hB9.cell 0).trans rfl) zk) ?_
    refine WL.val (.pointer (some ⟨gr, 0, none⟩)) rfl rfl rfl (fun za zC zh zk => ix_79 (k := 0) rfl (zh.ev rfl) rfl (zh.ev rfl) (by first | omega | (simp; omega)) zk) ?_
    have ho17 := hHR.below hb5
    refine WL.val (.agg #[.int .i64 ((hget L 0).b0), .int .i64 ((hget L 0).b1), .int .i64 ((hget L 0).id), .int .i64 ((hget L 0).tm)]) rfl rfl rfl (fun za zC zh zk => ld_75 rfl (zh.ev rfl) (HR.cells ho17 0 (by first | omega | (simp; omega))).1 (HR.cells ho17 0 (by first | omega | (simp; omega))).2.1 (HR.cells ho17 0 (by first | omega | (simp; omega))).2.2.1 (HR.cells ho17 0 (by first | omega | (simp; omega))).2.2.2 zk) ?_
    refine WL.step (post := fun _ w' => Upd g2 w1 w' ∧ Blk w' g2 75 #[.int .i64 ((hget L 0).b0), .int .i64 ((hget L 0).b1), .int .i64 ((hget L 0).id), .int .i64 ((hget L 0).tm)]) rfl rfl rfl (fun za zC zh zk => st_75 rfl (zh.ev rfl) (zh.ev rfl) rfl rfl rfl rfl hB4 (by first | decide | simp) (fun v => zk v _ ⟨(((Upd.at_ _ _ _ _).trans (Upd.at_ _ _ _ _)).trans (Upd.at_ _ _ _ _)).trans (Upd.at_ _ _ _ _), (((hB4.set_ 0 _).set_ 1 _).set_ 2 _).set_ 3 _⟩)) ?_
    rintro v21 w18 ⟨hu19, hB20⟩
    have hb22 := upd_below hb5 hu19 (by omega)
    have hB23 := upd_blk hB9 hu19 (by omega)
    have ho24 := ho17.upd hu19 (by omega)
    refine WL.nil (WE.sub (K' := [(0, .pointer (some ⟨h, 0, none⟩)), (2, .pointer (some ⟨g2, 0, none⟩)), (3, .bool false), (12, .bool (((((L.length : Nat) : Int) : Int) == (0 : Int))))]) ⟨rfl, rfl, rfl, rfl, trivial⟩ ?_)
    refine WE.next ?_
    refine WC.seq ?_
    refine WC.region ?_
    refine WL.val (.pointer (some ⟨h, 0, none⟩)) rfl rfl rfl (fun za zC zh zk => wp_move rfl (zh.ev rfl) zk) ?_
    refine WL.val (.pointer (some ⟨h, 0, none⟩)) rfl rfl rfl (fun za zC zh zk => nilCheck_ rfl (zh.ev rfl) zk) ?_
    refine WL.val (.pointer (some ⟨h, 0, none⟩)) rfl rfl rfl (fun za zC zh zk => fld_81_0 rfl (zh.ev rfl) zk) ?_
    refine WL.val (.slice ((some ⟨gr, 0, none⟩)) L.length rc) rfl rfl rfl (fun za zC zh zk => ld_79 rfl (zh.ev rfl) ((hB23.cell 0).trans rfl) zk) ?_
    refine WL.val (.int .i64 (((L.length : Nat) : Int))) rfl rfl rfl (fun za zC zh zk => len_79 rfl (zh.ev rfl) zk) ?_
    refine WL.val (.int .i64 ((((L.length - 1) : Nat) : Int))) rfl rfl rfl (fun za zC zh zk => subb_3 rfl (zh.ev rfl) (zh.ev rfl) (wrap_eq (by omega) (by omega) (by omega)) zk) ?_
    refine WL.val (.int .i64 ((((L.length - 1) : Nat) : Int))) rfl rfl rfl (fun za zC zh zk => wp_assign rfl (zh.ev rfl) zk) ?_
    refine WL.nil (WE.sub (K' := [(0, .pointer (some ⟨h, 0, none⟩)), (2, .pointer (some ⟨g2, 0, none⟩)), (3, .bool false), (4, .int .i64 ((((L.length - 1) : Nat) : Int))), (12, .bool (((((L.length : Nat) : Int) : Int) == (0 : Int))))]) ⟨rfl, rfl, rfl, rfl, rfl, trivial⟩ ?_)
    refine WE.next ?_
    refine WC.seq ?_
    refine WC.seqV (S := ((fun b => b = gr))) [(true, .val (.pointer (some ⟨h, 0, none⟩))), (true, .val (.pointer (some ⟨h, 0, none⟩))), (true, .val (.pointer (some ⟨h, 0, none⟩))), (true, .val (.slice ((some ⟨gr, 0, none⟩)) L.length rc)), (true, .val (.pointer (some ⟨h, 0, none⟩))), (true, .val (.pointer (some ⟨h, 0, none⟩))), (true, .val (.pointer (some ⟨h, 0, none⟩))), (true, .val (.slice ((some ⟨gr, 0, none⟩)) L.length rc)), (true, .val (.int .i64 ((((L.length - 1) : Nat) : Int)))), (true, .val (.pointer (some ⟨gr, 0 + ((L.length - 1)) * 4, none⟩))), (true, .val (.agg #[.int .i64 ((hget L ((L.length - 1))).b0), .int .i64 ((hget L ((L.length - 1))).b1), .int .i64 ((hget L ((L.length - 1))).id), .int .i64 ((hget L ((L.length - 1))).tm)])), (true, .val (.pointer (some ⟨gr, 0, none⟩))), (true, .val undef)] [(0, .pointer (some ⟨h, 0, none⟩)), (2, .pointer (some ⟨g2, 0, none⟩)), (3, .bool false), (4, .int .i64 ((((L.length - 1) : Nat) : Int))), (12, .bool (((((L.length : Nat) : Int) : Int) == (0 : Int))))] [12] [none] (HV gr rc [L, (L.set 0 (hget L (L.length - 1)))]) HV.below (by decide) ⟨rfl, rfl, rfl, rfl, rfl, trivial⟩ (by kernel_rfl) (by kernel_rfl) (by kernel_rfl) (by kernel_rfl) ho24 ?_ ?_
    · refine ⟨.inl ⟨rfl, true, .none rfl, (fun gg b h => by cases h), fun h w => optUndef h, fun zβ za zw zc => ?_⟩, ?_⟩
      · exact wp_move rfl (zc.kn.ev rfl) ⟨_, rfl, Below.refl _ _, optDef zβ rfl⟩
      refine ⟨.inl ⟨rfl, true, .none rfl, (fun gg b h => by cases h), fun h w => optUndef h, fun zβ za zw zc => ?_⟩, ?_⟩
      · exact nilCheck_ rfl ((show za.eval (.tmp 26) = za.tmps.getD 26 undef from rfl).trans (optSVal (zc.dep 0 26 (by kernel_rfl) (by decide)) rfl rfl)) ⟨_, rfl, Below.refl _ _, optDef zβ rfl⟩
      refine ⟨.inl ⟨rfl, true, .none rfl, (fun gg b h => by cases h), fun h w => optUndef h, fun zβ za zw zc => ?_⟩, ?_⟩
      · exact fld_81_0 rfl ((show za.eval (.tmp 27) = za.tmps.getD 27 undef from rfl).trans (optSVal (zc.dep 1 27 (by kernel_rfl) (by decide)) rfl rfl)) ⟨_, rfl, Below.refl _ _, optDef zβ rfl⟩
      refine ⟨.inl ⟨rfl, true, .none rfl, (fun gg b h => by cases h), fun h w => optUndef h, fun zβ za zw zc => ?_⟩, ?_⟩
      · exact ld_79 rfl ((show za.eval (.tmp 28) = za.tmps.getD 28 undef from rfl).trans (optSVal (zc.dep 2 28 (by kernel_rfl) (by decide)) rfl rfl)) (chg_cell zc.chg (by (try dsimp only at *); omega) ((hB23.cell 0).trans rfl)) ⟨_, rfl, Below.refl _ _, optDef zβ rfl⟩
      refine ⟨.inl ⟨rfl, true, .none rfl, (fun gg b h => by cases h), fun h w => optUndef h, fun zβ za zw zc => ?_⟩, ?_⟩
      · exact wp_move rfl (zc.kn.ev rfl) ⟨_, rfl, Below.refl _ _, optDef zβ rfl⟩
      refine ⟨.inl ⟨rfl, true, .none rfl, (fun gg b h => by cases h), fun h w => optUndef h, fun zβ za zw zc => ?_⟩, ?_⟩
      · exact nilCheck_ rfl ((show za.eval (.tmp 30) = za.tmps.getD 30 undef from rfl).trans (optSVal (zc.dep 4 30 (by kernel_rfl) (by decide)) rfl rfl)) ⟨_, rfl, Below.refl _ _, optDef zβ rfl⟩
      refine ⟨.inl ⟨rfl, true, .none rfl, (fun gg b h => by cases h), fun h w => optUndef h, fun zβ za zw zc => ?_⟩, ?_⟩
      · exact fld_81_0 rfl ((show za.eval (.tmp 31) = za.tmps.getD 31 undef from rfl).trans (optSVal (zc.dep 5 31 (by kernel_rfl) (by decide)) rfl rfl)) ⟨_, rfl, Below.refl _ _, optDef zβ rfl⟩
      refine ⟨.inl ⟨rfl, true, .none rfl, (fun gg b h => by cases h), fun h w => optUndef h, fun zβ za zw zc => ?_⟩, ?_⟩
      · exact ld_79 rfl ((show za.eval (.tmp 32) = za.tmps.getD 32 undef from rfl).trans (optSVal (zc.dep 6 32 (by kernel_rfl) (by decide)) rfl rfl)) (chg_cell zc.chg (by (try dsimp only at *); omega) ((hB23.cell 0).trans rfl)) ⟨_, rfl, Below.refl _ _, optDef zβ rfl⟩
      refine ⟨.inl ⟨rfl, true, .none rfl, (fun gg b h => by cases h), fun h w => optUndef h, fun zβ za zw zc => ?_⟩, ?_⟩
      · exact wp_move rfl (zc.kn.ev rfl) ⟨_, rfl, Below.refl _ _, optDef zβ rfl⟩
      refine ⟨.inl ⟨rfl, true, .none rfl, (fun gg b h => by cases h), fun h w => optUndef h, fun zβ za zw zc => ?_⟩, ?_⟩
      · exact ix_79 (k := (L.length - 1)) rfl ((show za.eval (.tmp 33) = za.tmps.getD 33 undef from rfl).trans (optSVal (zc.dep 7 33 (by kernel_rfl) (by decide)) rfl rfl)) rfl ((show za.eval (.tmp 34) = za.tmps.getD 34 undef from rfl).trans (optSVal (zc.dep 8 34 (by kernel_rfl) (by decide)) rfl rfl)) (by first | omega | (simp; omega)) ⟨_, rfl, Below.refl _ _, optDef zβ rfl⟩
      refine ⟨.inl ⟨rfl, true, .none rfl, (fun gg b h => by cases h), fun h w => optUndef h, fun zβ za zw zc => ?_⟩, ?_⟩
      · obtain ⟨vals, hle, hgv, _⟩ := zc.early 0 12 rfl (by kernel_rfl)
        have zn2 : HR zw gr rc L := by
          match vals, hle, hgv with
          | [], _, hg => exact hg
        exact ld_75 rfl ((show za.eval (.tmp 35) = za.tmps.getD 35 undef from rfl).trans (optSVal (zc.dep 9 35 (by kernel_rfl) (by decide)) rfl rfl)) (HR.cells zn2 ((L.length - 1)) (by first | omega | (simp; omega))).1 (HR.cells zn2 ((L.length - 1)) (by first | omega | (simp; omega))).2.1 (HR.cells zn2 ((L.length - 1)) (by first | omega | (simp; omega))).2.2.1 (HR.cells zn2 ((L.length - 1)) (by first | omega | (simp; omega))).2.2.2 ⟨_, rfl, Below.refl _ _, optDef zβ rfl⟩
      refine ⟨.inl ⟨rfl, true, .none rfl, (fun gg b h => by cases h), fun h w => optUndef h, fun zβ za zw zc => ?_⟩, ?_⟩
      · exact ix_79 (k := 0) rfl ((show za.eval (.tmp 29) = za.tmps.getD 29 undef from rfl).trans (optSVal (zc.dep 3 29 (by kernel_rfl) (by decide)) rfl rfl)) rfl (zc.kn.ev rfl) (by first | omega | (simp; omega)) ⟨_, rfl, Below.refl _ _, optDef zβ rfl⟩
      refine ⟨.inr ⟨0, rfl, by kernel_rfl, true, .none rfl, (fun gg b h => by cases h), (fun h => (nomatch h)), fun zβ za zw zvals zc => ?_⟩, ?_⟩
      · obtain rfl := vlen0 zc.len
        have zn := zc.now
        have zn2 : HR zw gr rc L := zn
        obtain ⟨cc, hcB, hcS⟩ := zn2.size (i := 0) (by (try simp); omega)
        exact st_75 rfl ((show za.eval (.tmp 37) = za.tmps.getD 37 undef from rfl).trans (optSVal (zc.dep 11 37 (by kernel_rfl) (by decide)) rfl rfl)) ((show za.eval (.tmp 36) = za.tmps.getD 36 undef from rfl).trans (optSVal (zc.dep 10 36 (by kernel_rfl) (by decide)) rfl rfl)) rfl rfl rfl rfl hcB hcS (fun v => ⟨v, rfl, .ofUpd ((((Upd.at_ _ _ _ _).trans (Upd.at_ _ _ _ _)).trans (Upd.at_ _ _ _ _)).trans (Upd.at_ _ _ _ _)) rfl, HR.set zn2 (i := 0) (hget L (L.length - 1)) (by (try simp); omega), fun b x e _ => by cases e⟩)
      exact trivial
    · intro za w25 zvals zh zl hG26 hc27 zu zw zk
      obtain ⟨z0, rfl⟩ := vlen1 zl
      have hB28 := chg_blk hB23 hc27 (by (try dsimp only at *); omega)
      have hB29 := chg_blk hB20 hc27 (by (try dsimp only at *); omega)
      have ho30 : HR w25 gr rc ((L.set 0 (hget L (L.length - 1)))) := hG26
      clear zu zw zk
      refine (show WE _ [(0, .pointer (some ⟨h, 0, none⟩)), (2, .pointer (some ⟨g2, 0, none⟩)), (3, .bool false), (4, .int .i64 ((((L.length - 1) : Nat) : Int))), (12, .bool (((((L.length : Nat) : Int) : Int) == (0 : Int))))] w25 _ .normal from ?_) za (zh.sub ⟨rfl, rfl, rfl, rfl, rfl, trivial⟩)
      refine WE.next ?_
      refine WC.seq ?_
      refine WC.region ?_
      refine WL.val (.pointer (some ⟨h, 0, none⟩)) rfl rfl rfl (fun za zC zh zk => wp_move rfl (zh.ev rfl) zk) ?_
      refine WL.val (.pointer (some ⟨h, 0, none⟩)) rfl rfl rfl (fun za zC zh zk => wp_move rfl (zh.ev rfl) zk) ?_
      refine WL.val (.pointer (some ⟨h, 0, none⟩)) rfl rfl rfl (fun za zC zh zk => nilCheck_ rfl (zh.ev rfl) zk) ?_
      refine WL.val (.pointer (some ⟨h, 0, none⟩)) rfl rfl rfl (fun za zC zh zk => fld_81_0 rfl (zh.ev rfl) zk) ?_
      refine WL.val (.slice ((some ⟨gr, 0, none⟩)) L.length rc) rfl rfl rfl (fun za zC zh zk => ld_79 rfl (zh.ev rfl) ((hB28.cell 0).trans rfl) zk) ?_
      refine WL.val (.int .i64 ((((L.length - 1) : Nat) : Int))) rfl rfl rfl (fun za zC zh zk => wp_move rfl (zh.ev rfl) zk) ?_
      refine WL.val (.slice ((some ⟨gr, 0, none⟩)) ((L.length - 1)) rc) rfl rfl rfl (fun za zC zh zk => shi_79 (k := (L.length - 1)) rfl (zh.ev rfl) (zh.ev rfl) (by omega) zk) ?_
      refine WL.val (.pointer (some ⟨h, 0, none⟩)) rfl rfl rfl (fun za zC zh zk => nilCheck_ rfl (zh.ev rfl) zk) ?_
      refine WL.val (.pointer (some ⟨h, 0, none⟩)) rfl rfl rfl (fun za zC zh zk => fld_81_0 rfl (zh.ev rfl) zk) ?_
      refine WL.step (post := fun _ w' => Upd h w25 w' ∧ Blk w' h 81 #[.slice ((some ⟨gr, 0, none⟩)) ((L.length - 1)) rc, .func (.func 25) #[] #[]]) rfl rfl rfl (fun za zC zh zk => st_79 rfl (zh.ev rfl) (zh.ev rfl) hB28 (by first | decide | simp) (fun v => zk v _ ⟨Upd.at_ _ _ _ _, hB28.set_ 0 _⟩)) ?_
      rintro v34 w31 ⟨hu32, hB33⟩
      have hB35 := upd_blk hB29 hu32 (by omega)
      have ho36 := ho30.upd hu32 (by omega)
      refine WL.nil (WE.sub (K' := [(0, .pointer (some ⟨h, 0, none⟩)), (2, .pointer (some ⟨g2, 0, none⟩)), (3, .bool false), (4, .int .i64 ((((L.length - 1) : Nat) : Int))), (12, .bool (((((L.length : Nat) : Int) : Int) == (0 : Int))))]) ⟨rfl, rfl, rfl, rfl, rfl, trivial⟩ ?_)
      refine WE.next ?_
      refine WC.seq ?_
      refine WC.region ?_
      refine WL.val (.int .i64 0) rfl rfl rfl (fun za zC zh zk => wp_assign rfl (zh.ev rfl) zk) ?_
      refine WL.nil (WE.sub (K' := [(0, .pointer (some ⟨h, 0, none⟩)), (2, .pointer (some ⟨g2, 0, none⟩)), (3, .bool false), (4, .int .i64 ((((L.length - 1) : Nat) : Int))), (5, .int .i64 0), (12, .bool (((((L.length : Nat) : Int) : Int) == (0 : Int))))]) ⟨rfl, rfl, rfl, rfl, rfl, rfl, trivial⟩ ?_)
      refine WE.next ?_
      refine WC.block ?_
      have hcut : HR w31 gr rc (cutL L) := by have z := ho36.take (L.length - 1) (by simp); exact z
      have hcg : Chg (fun b => b = h ∨ Z b) w w31 := Chg.trans2 (Chg.trans2 (.ofBelow hb22) hc27 (fun i _ q => .inr (q ▸ hgr))) (.ofUpd (S := fun b => b = h) hu32 rfl) (fun i _ q => .inl q)
      refine WC.loop (X := Nat × List It) (fun y => L.length - y.1) (fun y => [(0, .pointer (some ⟨h, 0, none⟩)), (2, .pointer (some ⟨g2, 0, none⟩)), (4, .int .i64 ((((L.length - 1) : Nat) : Int))), (5, .int .i64 (((y.1 : Nat) : Int))), (12, .bool (((((L.length : Nat) : Int) : Int) == (0 : Int))))]) (fun y w37 => DownTo y.2 y.1 ∧ (hget L 0 :: y.2).Perm L ∧ y.2.length = L.length - 1 ∧ y.1 < L.length ∧ Chg (fun b => b = h ∨ Z b) w w37 ∧ Blk w37 h 81 #[.slice ((some ⟨gr, 0, none⟩)) ((L.length - 1)) rc, .func (.func 25) #[] #[]] ∧ Blk w37 g2 75 #[.int .i64 ((hget L 0).b0), .int .i64 ((hget L 0).b1), .int .i64 ((hget L 0).id), .int .i64 ((hget L 0).tm)] ∧ HR (w37) gr rc y.2) (⟨0, cutL L⟩) ⟨rfl, rfl, rfl, rfl, rfl, trivial⟩ ?_ ?_
      · exact ⟨cutL_down hp, cutL_perm hL0, cutL_len, hL0, hcg, hB33, hB35, hcut⟩
      · rintro y w37 ⟨hD, hP, hL, hy, hC, hB38, hB39, ho40⟩
        refine WC.block ?_
        refine WC.seq ?_
        refine WC.region ?_
        refine WL.val (.int .i64 (((y.1 : Nat) : Int))) rfl rfl rfl (fun za zC zh zk => wp_move rfl (zh.ev rfl) zk) ?_
        refine WL.val (.int .i64 ((((2 * y.1) : Nat) : Int))) rfl rfl rfl (fun za zC zh zk => mulb_3 rfl (zh.ev rfl) (zh.ev rfl) (wrap_eq (by omega) (by omega) (by omega)) zk) ?_
        refine WL.val (.int .i64 (((((2 * y.1) + 1) : Nat) : Int))) rfl rfl rfl (fun za zC zh zk => addb_3 rfl (zh.ev rfl) (zh.ev rfl) (wrap_eq (by omega) (by omega) (by omega)) zk) ?_
        refine WL.val (.int .i64 (((((2 * y.1) + 1) : Nat) : Int))) rfl rfl rfl (fun za zC zh zk => wp_assign rfl (zh.ev rfl) zk) ?_
        refine WL.nil (WE.sub (K' := [(0, .pointer (some ⟨h, 0, none⟩)), (2, .pointer (some ⟨g2, 0, none⟩)), (4, .int .i64 ((((L.length - 1) : Nat) : Int))), (5, .int .i64 (((y.1 : Nat) : Int))), (6, .int .i64 (((((2 * y.1) + 1) : Nat) : Int))), (12, .bool (((((L.length : Nat) : Int) : Int) == (0 : Int))))]) ⟨rfl, rfl, rfl, rfl, rfl, rfl, trivial⟩ ?_)
        refine WE.next ?_
        refine WC.seq ?_
        refine WC.seq ?_
        refine WC.region ?_
        refine WL.val (.int .i64 (((((2 * y.1) + 1) : Nat) : Int))) rfl rfl rfl (fun za zC zh zk => wp_move rfl (zh.ev rfl) zk) ?_
        refine WL.val (.int .i64 ((((L.length - 1) : Nat) : Int))) rfl rfl rfl (fun za zC zh zk => wp_move rfl (zh.ev rfl) zk) ?_
        refine WL.val (.bool ((decide (((((L.length - 1) : Nat) : Int) : Int) ≤ (((((2 * y.1) + 1) : Nat) : Int) : Int))))) rfl rfl rfl (fun za zC zh zk => geq_3 rfl (zh.ev rfl) (zh.ev rfl) zk) ?_
        refine WL.nil (WE.sub (K' := [(0, .pointer (some ⟨h, 0, none⟩)), (2, .pointer (some ⟨g2, 0, none⟩)), (4, .int .i64 ((((L.length - 1) : Nat) : Int))), (5, .int .i64 (((y.1 : Nat) : Int))), (6, .int .i64 (((((2 * y.1) + 1) : Nat) : Int))), (12, .bool (((((L.length : Nat) : Int) : Int) == (0 : Int)))), (52, .bool ((decide (((((L.length - 1) : Nat) : Int) : Int) ≤ (((((2 * y.1) + 1) : Nat) : Int) : Int)))))]) ⟨rfl, rfl, rfl, rfl, rfl, rfl, rfl, trivial⟩ ?_)
        refine WE.next ?_
        refine WC.cond rfl (fun h41 => ?_) (fun h41 => ?_)
        · have h41 : ((((L.length - 1) : Nat) : Int) : Int) ≤ (((((2 * y.1) + 1) : Nat) : Int) : Int) := by simpa using h41
          refine WC.seq ?_
          refine WC.region ?_
          refine WL.val (.agg #[.int .i64 ((hget L 0).b0), .int .i64 ((hget L 0).b1), .int .i64 ((hget L 0).id), .int .i64 ((hget L 0).tm)]) rfl rfl rfl (fun za zC zh zk => ld_75 rfl (zh.ev rfl) ((hB39.cell 0).trans rfl) ((hB39.cell 1).trans rfl) ((hB39.cell 2).trans rfl) ((hB39.cell 3).trans rfl) zk) ?_
          refine WL.step (post := fun _ w' => Upd g2 w37 w' ∧ Blk w' g2 75 #[.int .i64 ((hget L 0).b0), .int .i64 ((hget L 0).b1), .int .i64 ((hget L 0).id), .int .i64 ((hget L 0).tm)]) rfl rfl rfl (fun za zC zh zk => st_75 rfl (zh.ev rfl) (zh.ev rfl) rfl rfl rfl rfl hB39 (by first | decide | simp) (fun v => zk v _ ⟨(((Upd.at_ _ _ _ _).trans (Upd.at_ _ _ _ _)).trans (Upd.at_ _ _ _ _)).trans (Upd.at_ _ _ _ _), (((hB39.set_ 0 _).set_ 1 _).set_ 2 _).set_ 3 _⟩)) ?_
          rintro v45 w42 ⟨hu43, hB44⟩
          have hB46 := upd_blk hB38 hu43 (by omega)
          have ho47 := ho40.upd hu43 (by omega)
          refine WL.val (.bool true) rfl rfl rfl (fun za zC zh zk => wp_assign rfl (zh.ev rfl) zk) ?_
          refine WL.nil (WE.sub (K' := [(0, .pointer (some ⟨h, 0, none⟩)), (2, .pointer (some ⟨g2, 0, none⟩)), (3, .bool true), (4, .int .i64 ((((L.length - 1) : Nat) : Int))), (5, .int .i64 (((y.1 : Nat) : Int))), (6, .int .i64 (((((2 * y.1) + 1) : Nat) : Int))), (12, .bool (((((L.length : Nat) : Int) : Int) == (0 : Int)))), (52, .bool ((decide (((((L.length - 1) : Nat) : Int) : Int) ≤ (((((2 * y.1) + 1) : Nat) : Int) : Int)))))]) ⟨rfl, rfl, rfl, rfl, rfl, rfl, rfl, rfl, trivial⟩ ?_)
          refine WE.next ?_
          refine WC.ret ?_
          refine WE.thenRet ?_
          refine WE.blockRet ?_
          refine WE.thenRet ?_
          refine WE.blockRet ?_
          refine WE.retAny (v := .tuple #[.agg #[.int .i64 ((hget L 0).b0), .int .i64 ((hget L 0).b1), .int .i64 ((hget L 0).id), .int .i64 ((hget L 0).tm)], .bool true]) (fun za zh => ?_) ?_
          · have z0 : za.tmps[2]?.getD undef = .pointer (some ⟨g2, 0, none⟩) := by rw [← Array.getD_eq_getD_getElem?]; exact zh.knows 2 _ rfl
            have y0_0 : w42.cell? ⟨g2, 0, none⟩ = some (.int .i64 ((hget L 0).b0)) := ((hB44.cell 0).trans rfl)
            have y0_1 : w42.cell? ⟨g2, 1, none⟩ = some (.int .i64 ((hget L 0).b1)) := ((hB44.cell 1).trans rfl)
            have y0_2 : w42.cell? ⟨g2, 2, none⟩ = some (.int .i64 ((hget L 0).id)) := ((hB44.cell 2).trans rfl)
            have y0_3 : w42.cell? ⟨g2, 3, none⟩ = some (.int .i64 ((hget L 0).tm)) := ((hB44.cell 3).trans rfl)
            have z1 : za.tmps[3]?.getD undef = .bool true := by rw [← Array.getD_eq_getD_getElem?]; exact zh.knows 3 _ rfl
            simp [results, Try.results29, z0, y0_0, y0_1, y0_2, y0_3, z1, go_sem]
          · have hs48 : Chg ((fun b => b = g2)) w37 w42 := (Chg.trans2 (Chg.refl ((fun b => b = g2)) _) (Chg.ofUpd (S := fun k => k = g2) hu43 rfl) (fun i h1 h2 => by first | exact h2 | exact .inl ⟨h2, h1⟩ | exact .inl h2 | exact .inr h2 | exact .inr (.inl h2) | exact .inr (.inr h2) | ((try dsimp only at *); omega)))
            exact ⟨_, rfl, .inr ⟨hL0, rfl, y.2, hP, hD.done (fun j h1 h2 h3 => by omega), ⟨⟨_, _, by rw [hL]; exact hB46, ho47.own hgr⟩⟩, Chg.trans2 hC hs48 (fun i hi q => by (try dsimp only at q); omega)⟩⟩
        · have h41 : ¬ (((((L.length - 1) : Nat) : Int) : Int) ≤ (((((2 * y.1) + 1) : Nat) : Int) : Int)) := by simpa using h41
          refine WC.skip ?_
          refine WE.next ?_
          refine WC.seq ?_
          refine WC.seq ?_
          refine WC.opt [(true, .val (.int .i64 (((((2 * y.1) + 1) : Nat) : Int)))), (true, .val (.int .i64 ((((((2 * y.1) + 1) + 1) : Nat) : Int)))), (true, .val (.int .i64 ((((L.length - 1) : Nat) : Int)))), (true, .val (.bool ((decide (((((((2 * y.1) + 1) + 1) : Nat) : Int) : Int) < ((((L.length - 1) : Nat) : Int) : Int)))))), (true, .val (.bool ((decide (((((((2 * y.1) + 1) + 1) : Nat) : Int) : Int) < ((((L.length - 1) : Nat) : Int) : Int)))))), ((true && (decide (((((((2 * y.1) + 1) + 1) : Nat) : Int) : Int) < ((((L.length - 1) : Nat) : Int) : Int)))), .val (.pointer (some ⟨h, 0, none⟩))), ((true && (decide (((((((2 * y.1) + 1) + 1) : Nat) : Int) : Int) < ((((L.length - 1) : Nat) : Int) : Int)))), .val (.pointer (some ⟨h, 0, none⟩))), ((true && (decide (((((((2 * y.1) + 1) + 1) : Nat) : Int) : Int) < ((((L.length - 1) : Nat) : Int) : Int)))), .val (.pointer (some ⟨h, 1, none⟩))), ((true && (decide (((((((2 * y.1) + 1) + 1) : Nat) : Int) : Int) < ((((L.length - 1) : Nat) : Int) : Int)))), .val (.func (.func 25) #[] #[])), ((true && (decide (((((((2 * y.1) + 1) + 1) : Nat) : Int) : Int) < ((((L.length - 1) : Nat) : Int) : Int)))), .val (.pointer (some ⟨h, 0, none⟩))), ((true && (decide (((((((2 * y.1) + 1) + 1) : Nat) : Int) : Int) < ((((L.length - 1) : Nat) : Int) : Int)))), .val (.pointer (some ⟨h, 0, none⟩))), ((true && (decide (((((((2 * y.1) + 1) + 1) : Nat) : Int) : Int) < ((((L.length - 1) : Nat) : Int) : Int)))), .val (.pointer (some ⟨h, 0, none⟩))), ((true && (decide (((((((2 * y.1) + 1) + 1) : Nat) : Int) : Int) < ((((L.length - 1) : Nat) : Int) : Int)))), .val (.slice ((some ⟨gr, 0, none⟩)) ((L.length - 1)) rc)), ((true && (decide (((((((2 * y.1) + 1) + 1) : Nat) : Int) : Int) < ((((L.length - 1) : Nat) : Int) : Int)))), .val (.int .i64 (((((2 * y.1) + 1) : Nat) : Int)))), ((true && (decide (((((((2 * y.1) + 1) + 1) : Nat) : Int) : Int) < ((((L.length - 1) : Nat) : Int) : Int)))), .val (.int .i64 ((((((2 * y.1) + 1) + 1) : Nat) : Int)))), ((true && (decide (((((((2 * y.1) + 1) + 1) : Nat) : Int) : Int) < ((((L.length - 1) : Nat) : Int) : Int)))), .val (.pointer (some ⟨gr, 0 + ((((2 * y.1) + 1) + 1)) * 4, none⟩))), ((true && (decide (((((((2 * y.1) + 1) + 1) : Nat) : Int) : Int) < ((((L.length - 1) : Nat) : Int) : Int)))), .val (.agg #[.int .i64 ((hget y.2 ((((2 * y.1) + 1) + 1))).b0), .int .i64 ((hget y.2 ((((2 * y.1) + 1) + 1))).b1), .int .i64 ((hget y.2 ((((2 * y.1) + 1) + 1))).id), .int .i64 ((hget y.2 ((((2 * y.1) + 1) + 1))).tm)])), ((true && (decide (((((((2 * y.1) + 1) + 1) : Nat) : Int) : Int) < ((((L.length - 1) : Nat) : Int) : Int)))), .val (.pointer (some ⟨h, 0, none⟩))), ((true && (decide (((((((2 * y.1) + 1) + 1) : Nat) : Int) : Int) < ((((L.length - 1) : Nat) : Int) : Int)))), .val (.pointer (some ⟨h, 0, none⟩))), ((true && (decide (((((((2 * y.1) + 1) + 1) : Nat) : Int) : Int) < ((((L.length - 1) : Nat) : Int) : Int)))), .val (.pointer (some ⟨h, 0, none⟩))), ((true && (decide (((((((2 * y.1) + 1) + 1) : Nat) : Int) : Int) < ((((L.length - 1) : Nat) : Int) : Int)))), .val (.slice ((some ⟨gr, 0, none⟩)) ((L.length - 1)) rc)), ((true && (decide (((((((2 * y.1) + 1) + 1) : Nat) : Int) : Int) < ((((L.length - 1) : Nat) : Int) : Int)))), .val (.int .i64 (((((2 * y.1) + 1) : Nat) : Int)))), ((true && (decide (((((((2 * y.1) + 1) + 1) : Nat) : Int) : Int) < ((((L.length - 1) : Nat) : Int) : Int)))), .val (.pointer (some ⟨gr, 0 + (((2 * y.1) + 1)) * 4, none⟩))), ((true && (decide (((((((2 * y.1) + 1) + 1) : Nat) : Int) : Int) < ((((L.length - 1) : Nat) : Int) : Int)))), .val (.agg #[.int .i64 ((hget y.2 (((2 * y.1) + 1))).b0), .int .i64 ((hget y.2 (((2 * y.1) + 1))).b1), .int .i64 ((hget y.2 (((2 * y.1) + 1))).id), .int .i64 ((hget y.2 (((2 * y.1) + 1))).tm)])), ((true && (decide (((((((2 * y.1) + 1) + 1) : Nat) : Int) : Int) < ((((L.length - 1) : Nat) : Int) : Int)))), .val (.int .i64 ((itc (hget y.2 ((((2 * y.1) + 1) + 1))) (hget y.2 (((2 * y.1) + 1))))))), ((true && (decide (((((((2 * y.1) + 1) + 1) : Nat) : Int) : Int) < ((((L.length - 1) : Nat) : Int) : Int)))), .val (.bool ((decide (((itc (hget y.2 ((((2 * y.1) + 1) + 1))) (hget y.2 (((2 * y.1) + 1)))) : Int) < (0 : Int)))))), (true, .val (.bool (((decide (((((((2 * y.1) + 1) + 1) : Nat) : Int) : Int) < ((((L.length - 1) : Nat) : Int) : Int))) && (decide (((itc (hget y.2 ((((2 * y.1) + 1) + 1))) (hget y.2 (((2 * y.1) + 1)))) : Int) < (0 : Int)))))))] [(0, .pointer (some ⟨h, 0, none⟩)), (2, .pointer (some ⟨g2, 0, none⟩)), (4, .int .i64 ((((L.length - 1) : Nat) : Int))), (5, .int .i64 (((y.1 : Nat) : Int))), (6, .int .i64 (((((2 * y.1) + 1) : Nat) : Int))), (12, .bool (((((L.length : Nat) : Int) : Int) == (0 : Int)))), (52, .bool ((decide (((((L.length - 1) : Nat) : Int) : Int) ≤ (((((2 * y.1) + 1) : Nat) : Int) : Int)))))] ⟨rfl, rfl, rfl, rfl, rfl, rfl, rfl, trivial⟩ (by kernel_rfl) (by kernel_rfl) (by kernel_rfl) ?_ ?_
          · refine ⟨⟨true, .none rfl, fun h w => optUndef h, fun zβ za zw zc => ?_⟩, ?_⟩
            · exact wp_move rfl (zc.kn.ev rfl) ⟨_, rfl, Below.refl _ _, optDef zβ rfl⟩
            refine ⟨⟨true, .none rfl, fun h w => optUndef h, fun zβ za zw zc => ?_⟩, ?_⟩
            · exact addb_3 rfl ((show za.eval (.tmp 54) = za.tmps.getD 54 undef from rfl).trans (optVal (zc.dep 0 54 (by kernel_rfl)) rfl rfl)) (zc.kn.ev rfl) (wrap_eq (by omega) (by omega) (by omega)) ⟨_, rfl, Below.refl _ _, optDef zβ rfl⟩
            refine ⟨⟨true, .none rfl, fun h w => optUndef h, fun zβ za zw zc => ?_⟩, ?_⟩
            · exact wp_move rfl (zc.kn.ev rfl) ⟨_, rfl, Below.refl _ _, optDef zβ rfl⟩
            refine ⟨⟨true, .none rfl, fun h w => optUndef h, fun zβ za zw zc => ?_⟩, ?_⟩
            · exact lss_3 rfl ((show za.eval (.tmp 55) = za.tmps.getD 55 undef from rfl).trans (optVal (zc.dep 1 55 (by kernel_rfl)) rfl rfl)) ((show za.eval (.tmp 56) = za.tmps.getD 56 undef from rfl).trans (optVal (zc.dep 2 56 (by kernel_rfl)) rfl rfl)) ⟨_, rfl, Below.refl _ _, optDef zβ rfl⟩
            refine ⟨⟨true, .none rfl, fun h w => optUndef h, fun zβ za zw zc => ?_⟩, ?_⟩
            · exact wp_move rfl ((show za.eval (.tmp 57) = za.tmps.getD 57 undef from rfl).trans (optVal (zc.dep 3 57 (by kernel_rfl)) rfl rfl)) ⟨_, rfl, Below.refl _ _, optDef zβ rfl⟩
            refine ⟨⟨(true && (decide (((((((2 * y.1) + 1) + 1) : Nat) : Int) : Int) < ((((L.length - 1) : Nat) : Int) : Int)))), .yes (c := (decide (((((((2 * y.1) + 1) + 1) : Nat) : Int) : Int) < ((((L.length - 1) : Nat) : Int) : Int)))) (d := true) rfl (fun v w h => h), fun h w => optUndef h, fun zβ za zw zc => ?_⟩, ?_⟩
            · exact wp_move rfl (zc.kn.ev rfl) ⟨_, rfl, Below.refl _ _, optDef zβ rfl⟩
            refine ⟨⟨(true && (decide (((((((2 * y.1) + 1) + 1) : Nat) : Int) : Int) < ((((L.length - 1) : Nat) : Int) : Int)))), .yes (c := (decide (((((((2 * y.1) + 1) + 1) : Nat) : Int) : Int) < ((((L.length - 1) : Nat) : Int) : Int)))) (d := true) rfl (fun v w h => h), fun h w => optUndef h, fun zβ za zw zc => ?_⟩, ?_⟩
            · exact nilCheck_ rfl ((show za.eval (.tmp 59) = za.tmps.getD 59 undef from rfl).trans (optVal (zc.dep 5 59 (by kernel_rfl)) rfl zβ)) ⟨_, rfl, Below.refl _ _, optDef zβ rfl⟩
            refine ⟨⟨(true && (decide (((((((2 * y.1) + 1) + 1) : Nat) : Int) : Int) < ((((L.length - 1) : Nat) : Int) : Int)))), .yes (c := (decide (((((((2 * y.1) + 1) + 1) : Nat) : Int) : Int) < ((((L.length - 1) : Nat) : Int) : Int)))) (d := true) rfl (fun v w h => h), fun h w => optUndef h, fun zβ za zw zc => ?_⟩, ?_⟩
            · exact fld_81_1 rfl ((show za.eval (.tmp 60) = za.tmps.getD 60 undef from rfl).trans (optVal (zc.dep 6 60 (by kernel_rfl)) rfl zβ)) ⟨_, rfl, Below.refl _ _, optDef zβ rfl⟩
            refine ⟨⟨(true && (decide (((((((2 * y.1) + 1) + 1) : Nat) : Int) : Int) < ((((L.length - 1) : Nat) : Int) : Int)))), .yes (c := (decide (((((((2 * y.1) + 1) + 1) : Nat) : Int) : Int) < ((((L.length - 1) : Nat) : Int) : Int)))) (d := true) rfl (fun v w h => h), fun h w => optUndef h, fun zβ za zw zc => ?_⟩, ?_⟩
            · exact ld_78 rfl ((show za.eval (.tmp 61) = za.tmps.getD 61 undef from rfl).trans (optVal (zc.dep 7 61 (by kernel_rfl)) rfl zβ)) (bkeeps zc.below _ _ ((hB38.cell 1).trans rfl)) ⟨_, rfl, Below.refl _ _, optDef zβ rfl⟩
            refine ⟨⟨(true && (decide (((((((2 * y.1) + 1) + 1) : Nat) : Int) : Int) < ((((L.length - 1) : Nat) : Int) : Int)))), .yes (c := (decide (((((((2 * y.1) + 1) + 1) : Nat) : Int) : Int) < ((((L.length - 1) : Nat) : Int) : Int)))) (d := true) rfl (fun v w h => h), fun h w => optUndef h, fun zβ za zw zc => ?_⟩, ?_⟩
            · exact wp_move rfl (zc.kn.ev rfl) ⟨_, rfl, Below.refl _ _, optDef zβ rfl⟩
            refine ⟨⟨(true && (decide (((((((2 * y.1) + 1) + 1) : Nat) : Int) : Int) < ((((L.length - 1) : Nat) : Int) : Int)))), .yes (c := (decide (((((((2 * y.1) + 1) + 1) : Nat) : Int) : Int) < ((((L.length - 1) : Nat) : Int) : Int)))) (d := true) rfl (fun v w h => h), fun h w => optUndef h, fun zβ za zw zc => ?_⟩, ?_⟩
            · exact nilCheck_ rfl ((show za.eval (.tmp 63) = za.tmps.getD 63 undef from rfl).trans (optVal (zc.dep 9 63 (by kernel_rfl)) rfl zβ)) ⟨_, rfl, Below.refl _ _, optDef zβ rfl⟩
            refine ⟨⟨(true && (decide (((((((2 * y.1) + 1) + 1) : Nat) : Int) : Int) < ((((L.length - 1) : Nat) : Int) : Int)))), .yes (c := (decide (((((((2 * y.1) + 1) + 1) : Nat) : Int) : Int) < ((((L.length - 1) : Nat) : Int) : Int)))) (d := true) rfl (fun v w h => h), fun h w => optUndef h, fun zβ za zw zc => ?_⟩, ?_⟩
            · exact fld_81_0 rfl ((show za.eval (.tmp 64) = za.tmps.getD 64 undef from rfl).trans (optVal (zc.dep 10 64 (by kernel_rfl)) rfl zβ)) ⟨_, rfl, Below.refl _ _, optDef zβ rfl⟩
            refine ⟨⟨(true && (decide (((((((2 * y.1) + 1) + 1) : Nat) : Int) : Int) < ((((L.length - 1) : Nat) : Int) : Int)))), .yes (c := (decide (((((((2 * y.1) + 1) + 1) : Nat) : Int) : Int) < ((((L.length - 1) : Nat) : Int) : Int)))) (d := true) rfl (fun v w h => h), fun h w => optUndef h, fun zβ za zw zc => ?_⟩, ?_⟩
            · exact ld_79 rfl ((show za.eval (.tmp 65) = za.tmps.getD 65 undef from rfl).trans (optVal (zc.dep 11 65 (by kernel_rfl)) rfl zβ)) (bkeeps zc.below _ _ ((hB38.cell 0).trans rfl)) ⟨_, rfl, Below.refl _ _, optDef zβ rfl⟩
            refine ⟨⟨(true && (decide (((((((2 * y.1) + 1) + 1) : Nat) : Int) : Int) < ((((L.length - 1) : Nat) : Int) : Int)))), .yes (c := (decide (((((((2 * y.1) + 1) + 1) : Nat) : Int) : Int) < ((((L.length - 1) : Nat) : Int) : Int)))) (d := true) rfl (fun v w h => h), fun h w => optUndef h, fun zβ za zw zc => ?_⟩, ?_⟩
            · exact wp_move rfl (zc.kn.ev rfl) ⟨_, rfl, Below.refl _ _, optDef zβ rfl⟩
            refine ⟨⟨(true && (decide (((((((2 * y.1) + 1) + 1) : Nat) : Int) : Int) < ((((L.length - 1) : Nat) : Int) : Int)))), .yes (c := (decide (((((((2 * y.1) + 1) + 1) : Nat) : Int) : Int) < ((((L.length - 1) : Nat) : Int) : Int)))) (d := true) rfl (fun v w h => h), fun h w => optUndef h, fun zβ za zw zc => ?_⟩, ?_⟩
            · exact addb_3 rfl ((show za.eval (.tmp 67) = za.tmps.getD 67 undef from rfl).trans (optVal (zc.dep 13 67 (by kernel_rfl)) rfl zβ)) (zc.kn.ev rfl) (wrap_eq (by omega) (by omega) (by omega)) ⟨_, rfl, Below.refl _ _, optDef zβ rfl⟩
            refine ⟨⟨(true && (decide (((((((2 * y.1) + 1) + 1) : Nat) : Int) : Int) < ((((L.length - 1) : Nat) : Int) : Int)))), .yes (c := (decide (((((((2 * y.1) + 1) + 1) : Nat) : Int) : Int) < ((((L.length - 1) : Nat) : Int) : Int)))) (d := true) rfl (fun v w h => h), fun h w => optUndef h, fun zβ za zw zc => ?_⟩, ?_⟩
            · exact ix_79 (k := (((2 * y.1) + 1) + 1)) rfl ((show za.eval (.tmp 66) = za.tmps.getD 66 undef from rfl).trans (optVal (zc.dep 12 66 (by kernel_rfl)) rfl zβ)) rfl ((show za.eval (.tmp 68) = za.tmps.getD 68 undef from rfl).trans (optVal (zc.dep 14 68 (by kernel_rfl)) rfl zβ)) (by first | omega | (have zz := zβ; simp only [Bool.and_eq_true, Bool.or_eq_true, Bool.true_and, Bool.not_eq_true', Bool.or_eq_false_iff, Bool.and_eq_false_iff, beq_eq_false_iff_ne, ne_eq, beq_iff_eq, decide_eq_true_eq, decide_eq_false_iff_not, bne_iff_ne] at zz; omega)) ⟨_, rfl, Below.refl _ _, optDef zβ rfl⟩
            refine ⟨⟨(true && (decide (((((((2 * y.1) + 1) + 1) : Nat) : Int) : Int) < ((((L.length - 1) : Nat) : Int) : Int)))), .yes (c := (decide (((((((2 * y.1) + 1) + 1) : Nat) : Int) : Int) < ((((L.length - 1) : Nat) : Int) : Int)))) (d := true) rfl (fun v w h => h), fun h w => optUndef h, fun zβ za zw zc => ?_⟩, ?_⟩
            · exact ld_75 rfl ((show za.eval (.tmp 69) = za.tmps.getD 69 undef from rfl).trans (optVal (zc.dep 15 69 (by kernel_rfl)) rfl zβ)) (bkeeps zc.below _ _ (HR.cells ho40 ((((2 * y.1) + 1) + 1)) (by first | omega | (have zz := zβ; simp only [Bool.and_eq_true, Bool.or_eq_true, Bool.true_and, Bool.not_eq_true', Bool.or_eq_false_iff, Bool.and_eq_false_iff, beq_eq_false_iff_ne, ne_eq, beq_iff_eq, decide_eq_true_eq, decide_eq_false_iff_not, bne_iff_ne] at zz; omega))).1) (bkeeps zc.below _ _ (HR.cells ho40 ((((2 * y.1) + 1) + 1)) (by first | omega | (have zz := zβ; simp only [Bool.and_eq_true, Bool.or_eq_true, Bool.true_and, Bool.not_eq_true', Bool.or_eq_false_iff, Bool.and_eq_false_iff, beq_eq_false_iff_ne, ne_eq, beq_iff_eq, decide_eq_true_eq, decide_eq_false_iff_not, bne_iff_ne] at zz; omega))).2.1) (bkeeps zc.below _ _ (HR.cells ho40 ((((2 * y.1) + 1) + 1)) (by first | omega | (have zz := zβ; simp only [Bool.and_eq_true, Bool.or_eq_true, Bool.true_and, Bool.not_eq_true', Bool.or_eq_false_iff, Bool.and_eq_false_iff, beq_eq_false_iff_ne, ne_eq, beq_iff_eq, decide_eq_true_eq, decide_eq_false_iff_not, bne_iff_ne] at zz; omega))).2.2.1) (bkeeps zc.below _ _ (HR.cells ho40 ((((2 * y.1) + 1) + 1)) (by first | omega | (have zz := zβ; simp only [Bool.and_eq_true, Bool.or_eq_true, Bool.true_and, Bool.not_eq_true', Bool.or_eq_false_iff, Bool.and_eq_false_iff, beq_eq_false_iff_ne, ne_eq, beq_iff_eq, decide_eq_true_eq, decide_eq_false_iff_not, bne_iff_ne] at zz; omega))).2.2.2) ⟨_, rfl, Below.refl _ _, optDef zβ rfl⟩
            refine ⟨⟨(true && (decide (((((((2 * y.1) + 1) + 1) : Nat) : Int) : Int) < ((((L.length - 1) : Nat) : Int) : Int)))), .yes (c := (decide (((((((2 * y.1) + 1) + 1) : Nat) : Int) : Int) < ((((L.length - 1) : Nat) : Int) : Int)))) (d := true) rfl (fun v w h => h), fun h w => optUndef h, fun zβ za zw zc => ?_⟩, ?_⟩
            · exact wp_move rfl (zc.kn.ev rfl) ⟨_, rfl, Below.refl _ _, optDef zβ rfl⟩
            refine ⟨⟨(true && (decide (((((((2 * y.1) + 1) + 1) : Nat) : Int) : Int) < ((((L.length - 1) : Nat) : Int) : Int)))), .yes (c := (decide (((((((2 * y.1) + 1) + 1) : Nat) : Int) : Int) < ((((L.length - 1) : Nat) : Int) : Int)))) (d := true) rfl (fun v w h => h), fun h w => optUndef h, fun zβ za zw zc => ?_⟩, ?_⟩
            · exact nilCheck_ rfl ((show za.eval (.tmp 71) = za.tmps.getD 71 undef from rfl).trans (optVal (zc.dep 17 71 (by kernel_rfl)) rfl zβ)) ⟨_, rfl, Below.refl _ _, optDef zβ rfl⟩
            refine ⟨⟨(true && (decide (((((((2 * y.1) + 1) + 1) : Nat) : Int) : Int) < ((((L.length - 1) : Nat) : Int) : Int)))), .yes (c := (decide (((((((2 * y.1) + 1) + 1) : Nat) : Int) : Int) < ((((L.length - 1) : Nat) : Int) : Int)))) (d := true) rfl (fun v w h => h), fun h w => optUndef h, fun zβ za zw zc => ?_⟩, ?_⟩
            · exact fld_81_0 rfl ((show za.eval (.tmp 72) = za.tmps.getD 72 undef from rfl).trans (optVal (zc.dep 18 72 (by kernel_rfl)) rfl zβ)) ⟨_, rfl, Below.refl _ _, optDef zβ rfl⟩
            refine ⟨⟨(true && (decide (((((((2 * y.1) + 1) + 1) : Nat) : Int) : Int) < ((((L.length - 1) : Nat) : Int) : Int)))), .yes (c := (decide (((((((2 * y.1) + 1) + 1) : Nat) : Int) : Int) < ((((L.length - 1) : Nat) : Int) : Int)))) (d := true) rfl (fun v w h => h), fun h w => optUndef h, fun zβ za zw zc => ?_⟩, ?_⟩
            · exact ld_79 rfl ((show za.eval (.tmp 73) = za.tmps.getD 73 undef from rfl).trans (optVal (zc.dep 19 73 (by kernel_rfl)) rfl zβ)) (bkeeps zc.below _ _ ((hB38.cell 0).trans rfl)) ⟨_, rfl, Below.refl _ _, optDef zβ rfl⟩
            refine ⟨⟨(true && (decide (((((((2 * y.1) + 1) + 1) : Nat) : Int) : Int) < ((((L.length - 1) : Nat) : Int) : Int)))), .yes (c := (decide (((((((2 * y.1) + 1) + 1) : Nat) : Int) : Int) < ((((L.length - 1) : Nat) : Int) : Int)))) (d := true) rfl (fun v w h => h), fun h w => optUndef h, fun zβ za zw zc => ?_⟩, ?_⟩
            · exact wp_move rfl (zc.kn.ev rfl) ⟨_, rfl, Below.refl _ _, optDef zβ rfl⟩
            refine ⟨⟨(true && (decide (((((((2 * y.1) + 1) + 1) : Nat) : Int) : Int) < ((((L.length - 1) : Nat) : Int) : Int)))), .yes (c := (decide (((((((2 * y.1) + 1) + 1) : Nat) : Int) : Int) < ((((L.length - 1) : Nat) : Int) : Int)))) (d := true) rfl (fun v w h => h), fun h w => optUndef h, fun zβ za zw zc => ?_⟩, ?_⟩
            · exact ix_79 (k := ((2 * y.1) + 1)) rfl ((show za.eval (.tmp 74) = za.tmps.getD 74 undef from rfl).trans (optVal (zc.dep 20 74 (by kernel_rfl)) rfl zβ)) rfl ((show za.eval (.tmp 75) = za.tmps.getD 75 undef from rfl).trans (optVal (zc.dep 21 75 (by kernel_rfl)) rfl zβ)) (by first | omega | (have zz := zβ; simp only [Bool.and_eq_true, Bool.or_eq_true, Bool.true_and, Bool.not_eq_true', Bool.or_eq_false_iff, Bool.and_eq_false_iff, beq_eq_false_iff_ne, ne_eq, beq_iff_eq, decide_eq_true_eq, decide_eq_false_iff_not, bne_iff_ne] at zz; omega)) ⟨_, rfl, Below.refl _ _, optDef zβ rfl⟩
            refine ⟨⟨(true && (decide (((((((2 * y.1) + 1) + 1) : Nat) : Int) : Int) < ((((L.length - 1) : Nat) : Int) : Int)))), .yes (c := (decide (((((((2 * y.1) + 1) + 1) : Nat) : Int) : Int) < ((((L.length - 1) : Nat) : Int) : Int)))) (d := true) rfl (fun v w h => h), fun h w => optUndef h, fun zβ za zw zc => ?_⟩, ?_⟩
            · exact ld_75 rfl ((show za.eval (.tmp 76) = za.tmps.getD 76 undef from rfl).trans (optVal (zc.dep 22 76 (by kernel_rfl)) rfl zβ)) (bkeeps zc.below _ _ (HR.cells ho40 (((2 * y.1) + 1)) (by first | omega | (have zz := zβ; simp only [Bool.and_eq_true, Bool.or_eq_true, Bool.true_and, Bool.not_eq_true', Bool.or_eq_false_iff, Bool.and_eq_false_iff, beq_eq_false_iff_ne, ne_eq, beq_iff_eq, decide_eq_true_eq, decide_eq_false_iff_not, bne_iff_ne] at zz; omega))).1) (bkeeps zc.below _ _ (HR.cells ho40 (((2 * y.1) + 1)) (by first | omega | (have zz := zβ; simp only [Bool.and_eq_true, Bool.or_eq_true, Bool.true_and, Bool.not_eq_true', Bool.or_eq_false_iff, Bool.and_eq_false_iff, beq_eq_false_iff_ne, ne_eq, beq_iff_eq, decide_eq_true_eq, decide_eq_false_iff_not, bne_iff_ne] at zz; omega))).2.1) (bkeeps zc.below _ _ (HR.cells ho40 (((2 * y.1) + 1)) (by first | omega | (have zz := zβ; simp only [Bool.and_eq_true, Bool.or_eq_true, Bool.true_and, Bool.not_eq_true', Bool.or_eq_false_iff, Bool.and_eq_false_iff, beq_eq_false_iff_ne, ne_eq, beq_iff_eq, decide_eq_true_eq, decide_eq_false_iff_not, bne_iff_ne] at zz; omega))).2.2.1) (bkeeps zc.below _ _ (HR.cells ho40 (((2 * y.1) + 1)) (by first | omega | (have zz := zβ; simp only [Bool.and_eq_true, Bool.or_eq_true, Bool.true_and, Bool.not_eq_true', Bool.or_eq_false_iff, Bool.and_eq_false_iff, beq_eq_false_iff_ne, ne_eq, beq_iff_eq, decide_eq_true_eq, decide_eq_false_iff_not, bne_iff_ne] at zz; omega))).2.2.2) ⟨_, rfl, Below.refl _ _, optDef zβ rfl⟩
            refine ⟨⟨(true && (decide (((((((2 * y.1) + 1) + 1) : Nat) : Int) : Int) < ((((L.length - 1) : Nat) : Int) : Int)))), .yes (c := (decide (((((((2 * y.1) + 1) + 1) : Nat) : Int) : Int) < ((((L.length - 1) : Nat) : Int) : Int)))) (d := true) rfl (fun v w h => h), fun h w => optUndef h, fun zβ za zw zc => ?_⟩, ?_⟩
            · exact wp_callv (by kernel_rfl) rfl ((show za.eval (.tmp 62) = za.tmps.getD 62 undef from rfl).trans (optVal (zc.dep 8 62 (by kernel_rfl)) rfl zβ)) (hv2 ((show za.eval (.tmp 70) = za.tmps.getD 70 undef from rfl).trans (optVal (zc.dep 16 70 (by kernel_rfl)) rfl zβ)) ((show za.eval (.tmp 77) = za.tmps.getD 77 undef from rfl).trans (optVal (zc.dep 23 77 (by kernel_rfl)) rfl zβ))) (itc_any (hget y.2 ((((2 * y.1) + 1) + 1))) (hget y.2 (((2 * y.1) + 1))) _) (fun v w' h => ⟨v, rfl, h.2, optDef zβ h.1⟩)
            refine ⟨⟨(true && (decide (((((((2 * y.1) + 1) + 1) : Nat) : Int) : Int) < ((((L.length - 1) : Nat) : Int) : Int)))), .yes (c := (decide (((((((2 * y.1) + 1) + 1) : Nat) : Int) : Int) < ((((L.length - 1) : Nat) : Int) : Int)))) (d := true) rfl (fun v w h => h), fun h w => optUndef h, fun zβ za zw zc => ?_⟩, ?_⟩
            · exact lss_3 rfl ((show za.eval (.tmp 78) = za.tmps.getD 78 undef from rfl).trans (optVal (zc.dep 24 78 (by kernel_rfl)) rfl zβ)) (zc.kn.ev rfl) ⟨_, rfl, Below.refl _ _, optDef zβ rfl⟩
            refine ⟨⟨true, .none rfl, fun h w => optUndef h, fun zβ za zw zc => ?_⟩, ?_⟩
            · exact wp_and rfl ((show za.eval (.tmp 58) = za.tmps.getD 58 undef from rfl).trans (optVal (zc.dep 4 58 (by kernel_rfl)) rfl rfl)) (fun hp => ((show za.eval (.tmp 79) = za.tmps.getD 79 undef from rfl).trans (optVal (zc.dep 25 79 (by kernel_rfl)) rfl (bMk zβ hp)))) ⟨_, rfl, Below.refl _ _, optDef zβ rfl⟩
            exact trivial
          · intro za w50 zh hb51 zu
            have zh := zh.cons (d := 80) (v := .bool (((decide (((((((2 * y.1) + 1) + 1) : Nat) : Int) : Int) < ((((L.length - 1) : Nat) : Int) : Int))) && (decide (((itc (hget y.2 ((((2 * y.1) + 1) + 1))) (hget y.2 (((2 * y.1) + 1)))) : Int) < (0 : Int)))))) (optVal (zu 26 80 (by kernel_rfl)) rfl rfl)
            clear zu
            refine (show WE _ [(0, .pointer (some ⟨h, 0, none⟩)), (2, .pointer (some ⟨g2, 0, none⟩)), (4, .int .i64 ((((L.length - 1) : Nat) : Int))), (5, .int .i64 (((y.1 : Nat) : Int))), (6, .int .i64 (((((2 * y.1) + 1) : Nat) : Int))), (12, .bool (((((L.length : Nat) : Int) : Int) == (0 : Int)))), (52, .bool ((decide (((((L.length - 1) : Nat) : Int) : Int) ≤ (((((2 * y.1) + 1) : Nat) : Int) : Int))))), (80, .bool (((decide (((((((2 * y.1) + 1) + 1) : Nat) : Int) : Int) < ((((L.length - 1) : Nat) : Int) : Int))) && (decide (((itc (hget y.2 ((((2 * y.1) + 1) + 1))) (hget y.2 (((2 * y.1) + 1)))) : Int) < (0 : Int))))))] w50 _ .normal from ?_) za (zh.sub ⟨rfl, rfl, rfl, rfl, rfl, rfl, rfl, rfl, trivial⟩)
            refine WE.next ?_
            refine WC.cond rfl (fun h52 => ?_) (fun h52 => ?_)
            · have h52 : (((((((2 * y.1) + 1) + 1) : Nat) : Int) : Int) < ((((L.length - 1) : Nat) : Int) : Int)) ∧ (((itc (hget y.2 ((((2 * y.1) + 1) + 1))) (hget y.2 (((2 * y.1) + 1)))) : Int) < (0 : Int)) := by simpa using h52
              have hmin : ∀ j, j < y.2.length → (j - 1) / 2 = y.1 → 0 < j → (hget y.2 (2 * y.1 + 1 + 1)).le (hget y.2 j) := fun j h1 h2 h3 => by
                have hor : j = 2 * y.1 + 1 + 1 ∨ j = 2 * y.1 + 1 := by omega
                have hlt2 := (itc_lt _ _).1 h52.2
                rcases hor with e | e
                · rw [e]; exact It.le_refl _
                · rw [e]; exact (It.le_total _ _).resolve_left hlt2
              have hkl : 2 * y.1 + 1 + 1 < L.length - 1 := by have z := h52.1; omega
              refine WC.region ?_
              refine WL.val (.int .i64 (((((2 * y.1) + 1) : Nat) : Int))) rfl rfl rfl (fun za zC zh zk => wp_move rfl (zh.ev rfl) zk) ?_
              refine WL.val (.int .i64 ((((((2 * y.1) + 1) + 1) : Nat) : Int))) rfl rfl rfl (fun za zC zh zk => addb_3 rfl (zh.ev rfl) (zh.ev rfl) (wrap_eq (by omega) (by omega) (by omega)) zk) ?_
              refine WL.val (.int .i64 ((((((2 * y.1) + 1) + 1) : Nat) : Int))) rfl rfl rfl (fun za zC zh zk => wp_assign rfl (zh.ev rfl) zk) ?_
              refine WL.nil (WE.sub (K' := [(0, .pointer (some ⟨h, 0, none⟩)), (2, .pointer (some ⟨g2, 0, none⟩)), (4, .int .i64 ((((L.length - 1) : Nat) : Int))), (5, .int .i64 (((y.1 : Nat) : Int))), (6, .int .i64 ((((((2 * y.1) + 1) + 1) : Nat) : Int))), (12, .bool (((((L.length : Nat) : Int) : Int) == (0 : Int)))), (52, .bool ((decide (((((L.length - 1) : Nat) : Int) : Int) ≤ (((((2 * y.1) + 1) : Nat) : Int) : Int))))), (80, .bool (((decide (((((((2 * y.1) + 1) + 1) : Nat) : Int) : Int) < ((((L.length - 1) : Nat) : Int) : Int))) && (decide (((itc (hget y.2 ((((2 * y.1) + 1) + 1))) (hget y.2 (((2 * y.1) + 1)))) : Int) < (0 : Int))))))]) ⟨rfl, rfl, rfl, rfl, rfl, rfl, rfl, rfl, trivial⟩ ?_)
              refine WE.next ?_
              refine WC.seq ?_
              refine WC.seq ?_
              have hB53 := hB38.below hb51
              have ho54 := ho40.below hb51
              refine WC.opt [(true, .val (.pointer (some ⟨h, 0, none⟩))), (true, .val (.pointer (some ⟨h, 0, none⟩))), (true, .val (.pointer (some ⟨h, 1, none⟩))), (true, .val (.func (.func 25) #[] #[])), (true, .val (.pointer (some ⟨h, 0, none⟩))), (true, .val (.pointer (some ⟨h, 0, none⟩))), (true, .val (.pointer (some ⟨h, 0, none⟩))), (true, .val (.slice ((some ⟨gr, 0, none⟩)) ((L.length - 1)) rc)), (true, .val (.int .i64 (((y.1 : Nat) : Int)))), (true, .val (.pointer (some ⟨gr, 0 + y.1 * 4, none⟩))), (true, .val (.agg #[.int .i64 ((hget y.2 y.1).b0), .int .i64 ((hget y.2 y.1).b1), .int .i64 ((hget y.2 y.1).id), .int .i64 ((hget y.2 y.1).tm)])), (true, .val (.pointer (some ⟨h, 0, none⟩))), (true, .val (.pointer (some ⟨h, 0, none⟩))), (true, .val (.pointer (some ⟨h, 0, none⟩))), (true, .val (.slice ((some ⟨gr, 0, none⟩)) ((L.length - 1)) rc)), (true, .val (.int .i64 ((((((2 * y.1) + 1) + 1) : Nat) : Int)))), (true, .val (.pointer (some ⟨gr, 0 + ((((2 * y.1) + 1) + 1)) * 4, none⟩))), (true, .val (.agg #[.int .i64 ((hget y.2 ((((2 * y.1) + 1) + 1))).b0), .int .i64 ((hget y.2 ((((2 * y.1) + 1) + 1))).b1), .int .i64 ((hget y.2 ((((2 * y.1) + 1) + 1))).id), .int .i64 ((hget y.2 ((((2 * y.1) + 1) + 1))).tm)])), (true, .val (.int .i64 ((itc (hget y.2 y.1) (hget y.2 ((((2 * y.1) + 1) + 1))))))), (true, .val (.bool ((decide (((itc (hget y.2 y.1) (hget y.2 ((((2 * y.1) + 1) + 1)))) : Int) ≤ (0 : Int))))))] [(0, .pointer (some ⟨h, 0, none⟩)), (2, .pointer (some ⟨g2, 0, none⟩)), (4, .int .i64 ((((L.length - 1) : Nat) : Int))), (5, .int .i64 (((y.1 : Nat) : Int))), (6, .int .i64 ((((((2 * y.1) + 1) + 1) : Nat) : Int))), (12, .bool (((((L.length : Nat) : Int) : Int) == (0 : Int)))), (52, .bool ((decide (((((L.length - 1) : Nat) : Int) : Int) ≤ (((((2 * y.1) + 1) : Nat) : Int) : Int))))), (80, .bool (((decide (((((((2 * y.1) + 1) + 1) : Nat) : Int) : Int) < ((((L.length - 1) : Nat) : Int) : Int))) && (decide (((itc (hget y.2 ((((2 * y.1) + 1) + 1))) (hget y.2 (((2 * y.1) + 1)))) : Int) < (0 : Int))))))] ⟨rfl, rfl, rfl, rfl, rfl, rfl, rfl, rfl, trivial⟩ (by kernel_rfl) (by kernel_rfl) (by kernel_rfl) ?_ ?_
              · refine ⟨⟨true, .none rfl, fun h w => optUndef h, fun zβ za zw zc => ?_⟩, ?_⟩
                · exact wp_move rfl (zc.kn.ev rfl) ⟨_, rfl, Below.refl _ _, optDef zβ rfl⟩
                refine ⟨⟨true, .none rfl, fun h w => optUndef h, fun zβ za zw zc => ?_⟩, ?_⟩
                · exact nilCheck_ rfl ((show za.eval (.tmp 83) = za.tmps.getD 83 undef from rfl).trans (optVal (zc.dep 0 83 (by kernel_rfl)) rfl rfl)) ⟨_, rfl, Below.refl _ _, optDef zβ rfl⟩
                refine ⟨⟨true, .none rfl, fun h w => optUndef h, fun zβ za zw zc => ?_⟩, ?_⟩
                · exact fld_81_1 rfl ((show za.eval (.tmp 84) = za.tmps.getD 84 undef from rfl).trans (optVal (zc.dep 1 84 (by kernel_rfl)) rfl rfl)) ⟨_, rfl, Below.refl _ _, optDef zβ rfl⟩
                refine ⟨⟨true, .none rfl, fun h w => optUndef h, fun zβ za zw zc => ?_⟩, ?_⟩
                · exact ld_78 rfl ((show za.eval (.tmp 85) = za.tmps.getD 85 undef from rfl).trans (optVal (zc.dep 2 85 (by kernel_rfl)) rfl rfl)) (bkeeps zc.below _ _ ((hB53.cell 1).trans rfl)) ⟨_, rfl, Below.refl _ _, optDef zβ rfl⟩
                refine ⟨⟨true, .none rfl, fun h w => optUndef h, fun zβ za zw zc => ?_⟩, ?_⟩
                · exact wp_move rfl (zc.kn.ev rfl) ⟨_, rfl, Below.refl _ _, optDef zβ rfl⟩
                refine ⟨⟨true, .none rfl, fun h w => optUndef h, fun zβ za zw zc => ?_⟩, ?_⟩
                · exact nilCheck_ rfl ((show za.eval (.tmp 87) = za.tmps.getD 87 undef from rfl).trans (optVal (zc.dep 4 87 (by kernel_rfl)) rfl rfl)) ⟨_, rfl, Below.refl _ _, optDef zβ rfl⟩
                refine ⟨⟨true, .none rfl, fun h w => optUndef h, fun zβ za zw zc => ?_⟩, ?_⟩
                · exact fld_81_0 rfl ((show za.eval (.tmp 88) = za.tmps.getD 88 undef from rfl).trans (optVal (zc.dep 5 88 (by kernel_rfl)) rfl rfl)) ⟨_, rfl, Below.refl _ _, optDef zβ rfl⟩
                refine ⟨⟨true, .none rfl, fun h w => optUndef h, fun zβ za zw zc => ?_⟩, ?_⟩
                · exact ld_79 rfl ((show za.eval (.tmp 89) = za.tmps.getD 89 undef from rfl).trans (optVal (zc.dep 6 89 (by kernel_rfl)) rfl rfl)) (bkeeps zc.below _ _ ((hB53.cell 0).trans rfl)) ⟨_, rfl, Below.refl _ _, optDef zβ rfl⟩
                refine ⟨⟨true, .none rfl, fun h w => optUndef h, fun zβ za zw zc => ?_⟩, ?_⟩
                · exact wp_move rfl (zc.kn.ev rfl) ⟨_, rfl, Below.refl _ _, optDef zβ rfl⟩
                refine ⟨⟨true, .none rfl, fun h w => optUndef h, fun zβ za zw zc => ?_⟩, ?_⟩
                · exact ix_79 (k := y.1) rfl ((show za.eval (.tmp 90) = za.tmps.getD 90 undef from rfl).trans (optVal (zc.dep 7 90 (by kernel_rfl)) rfl rfl)) rfl ((show za.eval (.tmp 91) = za.tmps.getD 91 undef from rfl).trans (optVal (zc.dep 8 91 (by kernel_rfl)) rfl rfl)) (by first | omega | (simp; omega)) ⟨_, rfl, Below.refl _ _, optDef zβ rfl⟩
                refine ⟨⟨true, .none rfl, fun h w => optUndef h, fun zβ za zw zc => ?_⟩, ?_⟩
                · exact ld_75 rfl ((show za.eval (.tmp 92) = za.tmps.getD 92 undef from rfl).trans (optVal (zc.dep 9 92 (by kernel_rfl)) rfl rfl)) (bkeeps zc.below _ _ (HR.cells ho54 y.1 (by first | omega | (simp; omega))).1) (bkeeps zc.below _ _ (HR.cells ho54 y.1 (by first | omega | (simp; omega))).2.1) (bkeeps zc.below _ _ (HR.cells ho54 y.1 (by first | omega | (simp; omega))).2.2.1) (bkeeps zc.below _ _ (HR.cells ho54 y.1 (by first | omega | (simp; omega))).2.2.2) ⟨_, rfl, Below.refl _ _, optDef zβ rfl⟩
                refine ⟨⟨true, .none rfl, fun h w => optUndef h, fun zβ za zw zc => ?_⟩, ?_⟩
                · exact wp_move rfl (zc.kn.ev rfl) ⟨_, rfl, Below.refl _ _, optDef zβ rfl⟩
                refine ⟨⟨true, .none rfl, fun h w => optUndef h, fun zβ za zw zc => ?_⟩, ?_⟩
                · exact nilCheck_ rfl ((show za.eval (.tmp 94) = za.tmps.getD 94 undef from rfl).trans (optVal (zc.dep 11 94 (by kernel_rfl)) rfl rfl)) ⟨_, rfl, Below.refl _ _, optDef zβ rfl⟩
                refine ⟨⟨true, .none rfl, fun h w => optUndef h, fun zβ za zw zc => ?_⟩, ?_⟩
                · exact fld_81_0 rfl ((show za.eval (.tmp 95) = za.tmps.getD 95 undef from rfl).trans (optVal (zc.dep 12 95 (by kernel_rfl)) rfl rfl)) ⟨_, rfl, Below.refl _ _, optDef zβ rfl⟩
                refine ⟨⟨true, .none rfl, fun h w => optUndef h, fun zβ za zw zc => ?_⟩, ?_⟩
                · exact ld_79 rfl ((show za.eval (.tmp 96) = za.tmps.getD 96 undef from rfl).trans (optVal (zc.dep 13 96 (by kernel_rfl)) rfl rfl)) (bkeeps zc.below _ _ ((hB53.cell 0).trans rfl)) ⟨_, rfl, Below.refl _ _, optDef zβ rfl⟩
                refine ⟨⟨true, .none rfl, fun h w => optUndef h, fun zβ za zw zc => ?_⟩, ?_⟩
                · exact wp_move rfl (zc.kn.ev rfl) ⟨_, rfl, Below.refl _ _, optDef zβ rfl⟩
                refine ⟨⟨true, .none rfl, fun h w => optUndef h, fun zβ za zw zc => ?_⟩, ?_⟩
                · exact ix_79 (k := (((2 * y.1) + 1) + 1)) rfl ((show za.eval (.tmp 97) = za.tmps.getD 97 undef from rfl).trans (optVal (zc.dep 14 97 (by kernel_rfl)) rfl rfl)) rfl ((show za.eval (.tmp 98) = za.tmps.getD 98 undef from rfl).trans (optVal (zc.dep 15 98 (by kernel_rfl)) rfl rfl)) (by first | omega | (simp; omega)) ⟨_, rfl, Below.refl _ _, optDef zβ rfl⟩
                refine ⟨⟨true, .none rfl, fun h w => optUndef h, fun zβ za zw zc => ?_⟩, ?_⟩
                · exact ld_75 rfl ((show za.eval (.tmp 99) = za.tmps.getD 99 undef from rfl).trans (optVal (zc.dep 16 99 (by kernel_rfl)) rfl rfl)) (bkeeps zc.below _ _ (HR.cells ho54 ((((2 * y.1) + 1) + 1)) (by first | omega | (simp; omega))).1) (bkeeps zc.below _ _ (HR.cells ho54 ((((2 * y.1) + 1) + 1)) (by first | omega | (simp; omega))).2.1) (bkeeps zc.below _ _ (HR.cells ho54 ((((2 * y.1) + 1) + 1)) (by first | omega | (simp; omega))).2.2.1) (bkeeps zc.below _ _ (HR.cells ho54 ((((2 * y.1) + 1) + 1)) (by first | omega | (simp; omega))).2.2.2) ⟨_, rfl, Below.refl _ _, optDef zβ rfl⟩
                refine ⟨⟨true, .none rfl, fun h w => optUndef h, fun zβ za zw zc => ?_⟩, ?_⟩
                · exact wp_callv (by kernel_rfl) rfl ((show za.eval (.tmp 86) = za.tmps.getD 86 undef from rfl).trans (optVal (zc.dep 3 86 (by kernel_rfl)) rfl rfl)) (hv2 ((show za.eval (.tmp 93) = za.tmps.getD 93 undef from rfl).trans (optVal (zc.dep 10 93 (by kernel_rfl)) rfl rfl)) ((show za.eval (.tmp 100) = za.tmps.getD 100 undef from rfl).trans (optVal (zc.dep 17 100 (by kernel_rfl)) rfl rfl))) (itc_any (hget y.2 y.1) (hget y.2 ((((2 * y.1) + 1) + 1))) _) (fun v w' h => ⟨v, rfl, h.2, optDef zβ h.1⟩)
                refine ⟨⟨true, .none rfl, fun h w => optUndef h, fun zβ za zw zc => ?_⟩, ?_⟩
                · exact leq_3 rfl ((show za.eval (.tmp 101) = za.tmps.getD 101 undef from rfl).trans (optVal (zc.dep 18 101 (by kernel_rfl)) rfl rfl)) (zc.kn.ev rfl) ⟨_, rfl, Below.refl _ _, optDef zβ rfl⟩
                exact trivial
              · intro za w56 zh hb57 zu
                have zh := zh.cons (d := 102) (v := .bool ((decide (((itc (hget y.2 y.1) (hget y.2 ((((2 * y.1) + 1) + 1)))) : Int) ≤ (0 : Int))))) (optVal (zu 19 102 (by kernel_rfl)) rfl rfl)
                clear zu
                refine (show WE _ [(0, .pointer (some ⟨h, 0, none⟩)), (2, .pointer (some ⟨g2, 0, none⟩)), (4, .int .i64 ((((L.length - 1) : Nat) : Int))), (5, .int .i64 (((y.1 : Nat) : Int))), (6, .int .i64 ((((((2 * y.1) + 1) + 1) : Nat) : Int))), (12, .bool (((((L.length : Nat) : Int) : Int) == (0 : Int)))), (52, .bool ((decide (((((L.length - 1) : Nat) : Int) : Int) ≤ (((((2 * y.1) + 1) : Nat) : Int) : Int))))), (80, .bool (((decide (((((((2 * y.1) + 1) + 1) : Nat) : Int) : Int) < ((((L.length - 1) : Nat) : Int) : Int))) && (decide (((itc (hget y.2 ((((2 * y.1) + 1) + 1))) (hget y.2 (((2 * y.1) + 1)))) : Int) < (0 : Int)))))), (102, .bool ((decide (((itc (hget y.2 y.1) (hget y.2 ((((2 * y.1) + 1) + 1)))) : Int) ≤ (0 : Int)))))] w56 _ .normal from ?_) za (zh.sub ⟨rfl, rfl, rfl, rfl, rfl, rfl, rfl, rfl, rfl, trivial⟩)
                refine WE.next ?_
                refine WC.cond rfl (fun h58 => ?_) (fun h58 => ?_)
                · have h58 : ((itc (hget y.2 y.1) (hget y.2 ((((2 * y.1) + 1) + 1)))) : Int) ≤ (0 : Int) := by simpa using h58
                  refine WC.seq ?_
                  refine WC.region ?_
                  have hb60 : Below w37.heap.size w37 w56 := (bstep hb51 hb57)
                  have hB59 := hB39.below hb60
                  refine WL.val (.agg #[.int .i64 ((hget L 0).b0), .int .i64 ((hget L 0).b1), .int .i64 ((hget L 0).id), .int .i64 ((hget L 0).tm)]) rfl rfl rfl (fun za zC zh zk => ld_75 rfl (zh.ev rfl) ((hB59.cell 0).trans rfl) ((hB59.cell 1).trans rfl) ((hB59.cell 2).trans rfl) ((hB59.cell 3).trans rfl) zk) ?_
                  refine WL.step (post := fun _ w' => Upd g2 w56 w' ∧ Blk w' g2 75 #[.int .i64 ((hget L 0).b0), .int .i64 ((hget L 0).b1), .int .i64 ((hget L 0).id), .int .i64 ((hget L 0).tm)]) rfl rfl rfl (fun za zC zh zk => st_75 rfl (zh.ev rfl) (zh.ev rfl) rfl rfl rfl rfl hB59 (by first | decide | simp) (fun v => zk v _ ⟨(((Upd.at_ _ _ _ _).trans (Upd.at_ _ _ _ _)).trans (Upd.at_ _ _ _ _)).trans (Upd.at_ _ _ _ _), (((hB59.set_ 0 _).set_ 1 _).set_ 2 _).set_ 3 _⟩)) ?_
                  rintro v64 w61 ⟨hu62, hB63⟩
                  have hB65 := hB53.below hb57
                  have hB66 := upd_blk hB65 hu62 (by omega)
                  have ho67 := ho54.below hb57
                  have ho68 := ho67.upd hu62 (by omega)
                  refine WL.val (.bool true) rfl rfl rfl (fun za zC zh zk => wp_assign rfl (zh.ev rfl) zk) ?_
                  refine WL.nil (WE.sub (K' := [(0, .pointer (some ⟨h, 0, none⟩)), (2, .pointer (some ⟨g2, 0, none⟩)), (3, .bool true), (4, .int .i64 ((((L.length - 1) : Nat) : Int))), (5, .int .i64 (((y.1 : Nat) : Int))), (6, .int .i64 ((((((2 * y.1) + 1) + 1) : Nat) : Int))), (12, .bool (((((L.length : Nat) : Int) : Int) == (0 : Int)))), (52, .bool ((decide (((((L.length - 1) : Nat) : Int) : Int) ≤ (((((2 * y.1) + 1) : Nat) : Int) : Int))))), (80, .bool (((decide (((((((2 * y.1) + 1) + 1) : Nat) : Int) : Int) < ((((L.length - 1) : Nat) : Int) : Int))) && (decide (((itc (hget y.2 ((((2 * y.1) + 1) + 1))) (hget y.2 (((2 * y.1) + 1)))) : Int) < (0 : Int)))))), (102, .bool ((decide (((itc (hget y.2 y.1) (hget y.2 ((((2 * y.1) + 1) + 1)))) : Int) ≤ (0 : Int)))))]) ⟨rfl, rfl, rfl, rfl, rfl, rfl, rfl, rfl, rfl, rfl, trivial⟩ ?_)
                  refine WE.next ?_
                  refine WC.ret ?_
                  refine WE.thenRet ?_
                  refine WE.blockRet ?_
                  refine WE.thenRet ?_
                  refine WE.blockRet ?_
                  refine WE.retAny (v := .tuple #[.agg #[.int .i64 ((hget L 0).b0), .int .i64 ((hget L 0).b1), .int .i64 ((hget L 0).id), .int .i64 ((hget L 0).tm)], .bool true]) (fun za zh => ?_) ?_
                  · have z0 : za.tmps[2]?.getD undef = .pointer (some ⟨g2, 0, none⟩) := by rw [← Array.getD_eq_getD_getElem?]; exact zh.knows 2 _ rfl
                    have y0_0 : w61.cell? ⟨g2, 0, none⟩ = some (.int .i64 ((hget L 0).b0)) := ((hB63.cell 0).trans rfl)
                    have y0_1 : w61.cell? ⟨g2, 1, none⟩ = some (.int .i64 ((hget L 0).b1)) := ((hB63.cell 1).trans rfl)
                    have y0_2 : w61.cell? ⟨g2, 2, none⟩ = some (.int .i64 ((hget L 0).id)) := ((hB63.cell 2).trans rfl)
                    have y0_3 : w61.cell? ⟨g2, 3, none⟩ = some (.int .i64 ((hget L 0).tm)) := ((hB63.cell 3).trans rfl)
                    have z1 : za.tmps[3]?.getD undef = .bool true := by rw [← Array.getD_eq_getD_getElem?]; exact zh.knows 3 _ rfl
                    simp [results, Try.results29, z0, y0_0, y0_1, y0_2, y0_3, z1, go_sem]
                  · have hs69 : Chg ((fun b => b = g2)) w37 w61 := (Chg.trans2 (Chg.trans2 (Chg.refl ((fun b => b = g2)) _) (Chg.ofBelow (S := fun k => k < 0) hb60) (fun i h1 h2 => by first | exact h2 | exact .inl ⟨h2, h1⟩ | exact .inl h2 | exact .inr h2 | exact .inr (.inl h2) | exact .inr (.inr h2) | ((try dsimp only at *); omega))) (Chg.ofUpd (S := fun k => k = g2) hu62 rfl) (fun i h1 h2 => by first | exact h2 | exact .inl ⟨h2, h1⟩ | exact .inl h2 | exact .inr h2 | exact .inr (.inl h2) | exact .inr (.inr h2) | ((try dsimp only at *); omega)))
                    exact ⟨_, rfl, .inr ⟨hL0, rfl, y.2, hP, hD.done (fun j h1 h2 h3 => It.le_trans ((itc_le _ _).1 h58) (hmin j h1 h2 h3)), ⟨⟨_, _, by rw [hL]; exact hB66, ho68.own hgr⟩⟩, Chg.trans2 hC hs69 (fun i hi q => by (try dsimp only at q); omega)⟩⟩
                · have h58 : ¬ (((itc (hget y.2 y.1) (hget y.2 ((((2 * y.1) + 1) + 1)))) : Int) ≤ (0 : Int)) := by simpa using h58
                  have hnle : ¬ (hget y.2 y.1).le (hget y.2 (2 * y.1 + 1 + 1)) := fun q => h58 ((itc_le _ _).2 q)
                  refine WC.skip ?_
                  refine WE.next ?_
                  refine WC.seq ?_
                  have hb70 : Below w37.heap.size w37 w56 := (bstep hb51 hb57)
                  have hB71 := hB53.below hb57
                  have ho72 := ho54.below hb57
                  refine WC.seqV (S := ((fun b => b = gr))) [(true, .val (.pointer (some ⟨h, 0, none⟩))), (true, .val (.pointer (some ⟨h, 0, none⟩))), (true, .val (.pointer (some ⟨h, 0, none⟩))), (true, .val (.slice ((some ⟨gr, 0, none⟩)) ((L.length - 1)) rc)), (true, .val (.int .i64 (((y.1 : Nat) : Int)))), (true, .val (.pointer (some ⟨h, 0, none⟩))), (true, .val (.pointer (some ⟨h, 0, none⟩))), (true, .val (.pointer (some ⟨h, 0, none⟩))), (true, .val (.slice ((some ⟨gr, 0, none⟩)) ((L.length - 1)) rc)), (true, .val (.int .i64 ((((((2 * y.1) + 1) + 1) : Nat) : Int)))), (true, .val (.pointer (some ⟨h, 0, none⟩))), (true, .val (.pointer (some ⟨h, 0, none⟩))), (true, .val (.pointer (some ⟨h, 0, none⟩))), (true, .val (.slice ((some ⟨gr, 0, none⟩)) ((L.length - 1)) rc)), (true, .val (.int .i64 ((((((2 * y.1) + 1) + 1) : Nat) : Int)))), (true, .val (.pointer (some ⟨gr, 0 + ((((2 * y.1) + 1) + 1)) * 4, none⟩))), (true, .val (.agg #[.int .i64 ((hget y.2 ((((2 * y.1) + 1) + 1))).b0), .int .i64 ((hget y.2 ((((2 * y.1) + 1) + 1))).b1), .int .i64 ((hget y.2 ((((2 * y.1) + 1) + 1))).id), .int .i64 ((hget y.2 ((((2 * y.1) + 1) + 1))).tm)])), (true, .val (.pointer (some ⟨h, 0, none⟩))), (true, .val (.pointer (some ⟨h, 0, none⟩))), (true, .val (.pointer (some ⟨h, 0, none⟩))), (true, .val (.slice ((some ⟨gr, 0, none⟩)) ((L.length - 1)) rc)), (true, .val (.int .i64 (((y.1 : Nat) : Int)))), (true, .val (.pointer (some ⟨gr, 0 + y.1 * 4, none⟩))), (true, .val (.agg #[.int .i64 ((hget y.2 y.1).b0), .int .i64 ((hget y.2 y.1).b1), .int .i64 ((hget y.2 y.1).id), .int .i64 ((hget y.2 y.1).tm)])), (true, .val (.pointer (some ⟨gr, 0 + y.1 * 4, none⟩))), (true, .val undef), (true, .val (.pointer (some ⟨gr, 0 + ((((2 * y.1) + 1) + 1)) * 4, none⟩))), (true, .val undef)] [(0, .pointer (some ⟨h, 0, none⟩)), (2, .pointer (some ⟨g2, 0, none⟩)), (4, .int .i64 ((((L.length - 1) : Nat) : Int))), (5, .int .i64 (((y.1 : Nat) : Int))), (6, .int .i64 ((((((2 * y.1) + 1) + 1) : Nat) : Int))), (12, .bool (((((L.length : Nat) : Int) : Int) == (0 : Int)))), (52, .bool ((decide (((((L.length - 1) : Nat) : Int) : Int) ≤ (((((2 * y.1) + 1) : Nat) : Int) : Int))))), (80, .bool (((decide (((((((2 * y.1) + 1) + 1) : Nat) : Int) : Int) < ((((L.length - 1) : Nat) : Int) : Int))) && (decide (((itc (hget y.2 ((((2 * y.1) + 1) + 1))) (hget y.2 (((2 * y.1) + 1)))) : Int) < (0 : Int)))))), (102, .bool ((decide (((itc (hget y.2 y.1) (hget y.2 ((((2 * y.1) + 1) + 1)))) : Int) ≤ (0 : Int)))))] [25, 27] [none, none] (HV gr rc [y.2, (y.2.set y.1 (hget y.2 ((2 * y.1 + 1 + 1)))), (swp y.2 y.1 ((2 * y.1 + 1 + 1)))]) HV.below (by decide) ⟨rfl, rfl, rfl, rfl, rfl, rfl, rfl, rfl, rfl, trivial⟩ (by kernel_rfl) (by kernel_rfl) (by kernel_rfl) (by kernel_rfl) ho72 ?_ ?_
                  · refine ⟨.inl ⟨rfl, true, .none rfl, (fun gg b h => by cases h), fun h w => optUndef h, fun zβ za zw zc => ?_⟩, ?_⟩
                    · exact wp_move rfl (zc.kn.ev rfl) ⟨_, rfl, Below.refl _ _, optDef zβ rfl⟩
                    refine ⟨.inl ⟨rfl, true, .none rfl, (fun gg b h => by cases h), fun h w => optUndef h, fun zβ za zw zc => ?_⟩, ?_⟩
                    · exact nilCheck_ rfl ((show za.eval (.tmp 104) = za.tmps.getD 104 undef from rfl).trans (optSVal (zc.dep 0 104 (by kernel_rfl) (by decide)) rfl rfl)) ⟨_, rfl, Below.refl _ _, optDef zβ rfl⟩
                    refine ⟨.inl ⟨rfl, true, .none rfl, (fun gg b h => by cases h), fun h w => optUndef h, fun zβ za zw zc => ?_⟩, ?_⟩
                    · exact fld_81_0 rfl ((show za.eval (.tmp 105) = za.tmps.getD 105 undef from rfl).trans (optSVal (zc.dep 1 105 (by kernel_rfl) (by decide)) rfl rfl)) ⟨_, rfl, Below.refl _ _, optDef zβ rfl⟩
                    refine ⟨.inl ⟨rfl, true, .none rfl, (fun gg b h => by cases h), fun h w => optUndef h, fun zβ za zw zc => ?_⟩, ?_⟩
                    · exact ld_79 rfl ((show za.eval (.tmp 106) = za.tmps.getD 106 undef from rfl).trans (optSVal (zc.dep 2 106 (by kernel_rfl) (by decide)) rfl rfl)) (chg_cell zc.chg (by (try dsimp only at *); omega) ((hB71.cell 0).trans rfl)) ⟨_, rfl, Below.refl _ _, optDef zβ rfl⟩
                    refine ⟨.inl ⟨rfl, true, .none rfl, (fun gg b h => by cases h), fun h w => optUndef h, fun zβ za zw zc => ?_⟩, ?_⟩
                    · exact wp_move rfl (zc.kn.ev rfl) ⟨_, rfl, Below.refl _ _, optDef zβ rfl⟩
                    refine ⟨.inl ⟨rfl, true, .none rfl, (fun gg b h => by cases h), fun h w => optUndef h, fun zβ za zw zc => ?_⟩, ?_⟩
                    · exact wp_move rfl (zc.kn.ev rfl) ⟨_, rfl, Below.refl _ _, optDef zβ rfl⟩
                    refine ⟨.inl ⟨rfl, true, .none rfl, (fun gg b h => by cases h), fun h w => optUndef h, fun zβ za zw zc => ?_⟩, ?_⟩
                    · exact nilCheck_ rfl ((show za.eval (.tmp 109) = za.tmps.getD 109 undef from rfl).trans (optSVal (zc.dep 5 109 (by kernel_rfl) (by decide)) rfl rfl)) ⟨_, rfl, Below.refl _ _, optDef zβ rfl⟩
                    refine ⟨.inl ⟨rfl, true, .none rfl, (fun gg b h => by cases h), fun h w => optUndef h, fun zβ za zw zc => ?_⟩, ?_⟩
                    · exact fld_81_0 rfl ((show za.eval (.tmp 110) = za.tmps.getD 110 undef from rfl).trans (optSVal (zc.dep 6 110 (by kernel_rfl) (by decide)) rfl rfl)) ⟨_, rfl, Below.refl _ _, optDef zβ rfl⟩
                    refine ⟨.inl ⟨rfl, true, .none rfl, (fun gg b h => by cases h), fun h w => optUndef h, fun zβ za zw zc => ?_⟩, ?_⟩
                    · exact ld_79 rfl ((show za.eval (.tmp 111) = za.tmps.getD 111 undef from rfl).trans (optSVal (zc.dep 7 111 (by kernel_rfl) (by decide)) rfl rfl)) (chg_cell zc.chg (by (try dsimp only at *); omega) ((hB71.cell 0).trans rfl)) ⟨_, rfl, Below.refl _ _, optDef zβ rfl⟩
                    refine ⟨.inl ⟨rfl, true, .none rfl, (fun gg b h => by cases h), fun h w => optUndef h, fun zβ za zw zc => ?_⟩, ?_⟩
                    · exact wp_move rfl (zc.kn.ev rfl) ⟨_, rfl, Below.refl _ _, optDef zβ rfl⟩
                    refine ⟨.inl ⟨rfl, true, .none rfl, (fun gg b h => by cases h), fun h w => optUndef h, fun zβ za zw zc => ?_⟩, ?_⟩
                    · exact wp_move rfl (zc.kn.ev rfl) ⟨_, rfl, Below.refl _ _, optDef zβ rfl⟩
                    refine ⟨.inl ⟨rfl, true, .none rfl, (fun gg b h => by cases h), fun h w => optUndef h, fun zβ za zw zc => ?_⟩, ?_⟩
                    · exact nilCheck_ rfl ((show za.eval (.tmp 114) = za.tmps.getD 114 undef from rfl).trans (optSVal (zc.dep 10 114 (by kernel_rfl) (by decide)) rfl rfl)) ⟨_, rfl, Below.refl _ _, optDef zβ rfl⟩
                    refine ⟨.inl ⟨rfl, true, .none rfl, (fun gg b h => by cases h), fun h w => optUndef h, fun zβ za zw zc => ?_⟩, ?_⟩
                    · exact fld_81_0 rfl ((show za.eval (.tmp 115) = za.tmps.getD 115 undef from rfl).trans (optSVal (zc.dep 11 115 (by kernel_rfl) (by decide)) rfl rfl)) ⟨_, rfl, Below.refl _ _, optDef zβ rfl⟩
                    refine ⟨.inl ⟨rfl, true, .none rfl, (fun gg b h => by cases h), fun h w => optUndef h, fun zβ za zw zc => ?_⟩, ?_⟩
                    · exact ld_79 rfl ((show za.eval (.tmp 116) = za.tmps.getD 116 undef from rfl).trans (optSVal (zc.dep 12 116 (by kernel_rfl) (by decide)) rfl rfl)) (chg_cell zc.chg (by (try dsimp only at *); omega) ((hB71.cell 0).trans rfl)) ⟨_, rfl, Below.refl _ _, optDef zβ rfl⟩
                    refine ⟨.inl ⟨rfl, true, .none rfl, (fun gg b h => by cases h), fun h w => optUndef h, fun zβ za zw zc => ?_⟩, ?_⟩
                    · exact wp_move rfl (zc.kn.ev rfl) ⟨_, rfl, Below.refl _ _, optDef zβ rfl⟩
                    refine ⟨.inl ⟨rfl, true, .none rfl, (fun gg b h => by cases h), fun h w => optUndef h, fun zβ za zw zc => ?_⟩, ?_⟩
                    · exact ix_79 (k := (((2 * y.1) + 1) + 1)) rfl ((show za.eval (.tmp 117) = za.tmps.getD 117 undef from rfl).trans (optSVal (zc.dep 13 117 (by kernel_rfl) (by decide)) rfl rfl)) rfl ((show za.eval (.tmp 118) = za.tmps.getD 118 undef from rfl).trans (optSVal (zc.dep 14 118 (by kernel_rfl) (by decide)) rfl rfl)) (by first | omega | (simp; omega)) ⟨_, rfl, Below.refl _ _, optDef zβ rfl⟩
                    refine ⟨.inl ⟨rfl, true, .none rfl, (fun gg b h => by cases h), fun h w => optUndef h, fun zβ za zw zc => ?_⟩, ?_⟩
                    · obtain ⟨vals, hle, hgv, _⟩ := zc.early 0 25 rfl (by kernel_rfl)
                      have zn2 : HR zw gr rc y.2 := by
                        match vals, hle, hgv with
                        | [], _, hg => exact hg
                      exact ld_75 rfl ((show za.eval (.tmp 119) = za.tmps.getD 119 undef from rfl).trans (optSVal (zc.dep 15 119 (by kernel_rfl) (by decide)) rfl rfl)) (HR.cells zn2 ((((2 * y.1) + 1) + 1)) (by first | omega | (simp; omega))).1 (HR.cells zn2 ((((2 * y.1) + 1) + 1)) (by first | omega | (simp; omega))).2.1 (HR.cells zn2 ((((2 * y.1) + 1) + 1)) (by first | omega | (simp; omega))).2.2.1 (HR.cells zn2 ((((2 * y.1) + 1) + 1)) (by first | omega | (simp; omega))).2.2.2 ⟨_, rfl, Below.refl _ _, optDef zβ rfl⟩
                    refine ⟨.inl ⟨rfl, true, .none rfl, (fun gg b h => by cases h), fun h w => optUndef h, fun zβ za zw zc => ?_⟩, ?_⟩
                    · exact wp_move rfl (zc.kn.ev rfl) ⟨_, rfl, Below.refl _ _, optDef zβ rfl⟩
                    refine ⟨.inl ⟨rfl, true, .none rfl, (fun gg b h => by cases h), fun h w => optUndef h, fun zβ za zw zc => ?_⟩, ?_⟩
                    · exact nilCheck_ rfl ((show za.eval (.tmp 121) = za.tmps.getD 121 undef from rfl).trans (optSVal (zc.dep 17 121 (by kernel_rfl) (by decide)) rfl rfl)) ⟨_, rfl, Below.refl _ _, optDef zβ rfl⟩
                    refine ⟨.inl ⟨rfl, true, .none rfl, (fun gg b h => by cases h), fun h w => optUndef h, fun zβ za zw zc => ?_⟩, ?_⟩
                    · exact fld_81_0 rfl ((show za.eval (.tmp 122) = za.tmps.getD 122 undef from rfl).trans (optSVal (zc.dep 18 122 (by kernel_rfl) (by decide)) rfl rfl)) ⟨_, rfl, Below.refl _ _, optDef zβ rfl⟩
                    refine ⟨.inl ⟨rfl, true, .none rfl, (fun gg b h => by cases h), fun h w => optUndef h, fun zβ za zw zc => ?_⟩, ?_⟩
                    · exact ld_79 rfl ((show za.eval (.tmp 123) = za.tmps.getD 123 undef from rfl).trans (optSVal (zc.dep 19 123 (by kernel_rfl) (by decide)) rfl rfl)) (chg_cell zc.chg (by (try dsimp only at *); omega) ((hB71.cell 0).trans rfl)) ⟨_, rfl, Below.refl _ _, optDef zβ rfl⟩
                    refine ⟨.inl ⟨rfl, true, .none rfl, (fun gg b h => by cases h), fun h w => optUndef h, fun zβ za zw zc => ?_⟩, ?_⟩
                    · exact wp_move rfl (zc.kn.ev rfl) ⟨_, rfl, Below.refl _ _, optDef zβ rfl⟩
                    refine ⟨.inl ⟨rfl, true, .none rfl, (fun gg b h => by cases h), fun h w => optUndef h, fun zβ za zw zc => ?_⟩, ?_⟩
                    · exact ix_79 (k := y.1) rfl ((show za.eval (.tmp 124) = za.tmps.getD 124 undef from rfl).trans (optSVal (zc.dep 20 124 (by kernel_rfl) (by decide)) rfl rfl)) rfl ((show za.eval (.tmp 125) = za.tmps.getD 125 undef from rfl).trans (optSVal (zc.dep 21 125 (by kernel_rfl) (by decide)) rfl rfl)) (by first | omega | (simp; omega)) ⟨_, rfl, Below.refl _ _, optDef zβ rfl⟩
                    refine ⟨.inl ⟨rfl, true, .none rfl, (fun gg b h => by cases h), fun h w => optUndef h, fun zβ za zw zc => ?_⟩, ?_⟩
                    · obtain ⟨vals, hle, hgv, _⟩ := zc.early 0 25 rfl (by kernel_rfl)
                      have zn2 : HR zw gr rc y.2 := by
                        match vals, hle, hgv with
                        | [], _, hg => exact hg
                      exact ld_75 rfl ((show za.eval (.tmp 126) = za.tmps.getD 126 undef from rfl).trans (optSVal (zc.dep 22 126 (by kernel_rfl) (by decide)) rfl rfl)) (HR.cells zn2 y.1 (by first | omega | (simp; omega))).1 (HR.cells zn2 y.1 (by first | omega | (simp; omega))).2.1 (HR.cells zn2 y.1 (by first | omega | (simp; omega))).2.2.1 (HR.cells zn2 y.1 (by first | omega | (simp; omega))).2.2.2 ⟨_, rfl, Below.refl _ _, optDef zβ rfl⟩
                    refine ⟨.inl ⟨rfl, true, .none rfl, (fun gg b h => by cases h), fun h w => optUndef h, fun zβ za zw zc => ?_⟩, ?_⟩
                    · exact ix_79 (k := y.1) rfl ((show za.eval (.tmp 107) = za.tmps.getD 107 undef from rfl).trans (optSVal (zc.dep 3 107 (by kernel_rfl) (by decide)) rfl rfl)) rfl ((show za.eval (.tmp 108) = za.tmps.getD 108 undef from rfl).trans (optSVal (zc.dep 4 108 (by kernel_rfl) (by decide)) rfl rfl)) (by first | omega | (simp; omega)) ⟨_, rfl, Below.refl _ _, optDef zβ rfl⟩
                    refine ⟨.inr ⟨0, rfl, by kernel_rfl, true, .none rfl, (fun gg b h => by cases h), (fun h => (nomatch h)), fun zβ za zw zvals zc => ?_⟩, ?_⟩
                    · obtain rfl := vlen0 zc.len
                      have zn := zc.now
                      have zn2 : HR zw gr rc y.2 := zn
                      obtain ⟨cc, hcB, hcS⟩ := zn2.size (i := y.1) (by (try simp); omega)
                      exact st_75 rfl ((show za.eval (.tmp 128) = za.tmps.getD 128 undef from rfl).trans (optSVal (zc.dep 24 128 (by kernel_rfl) (by decide)) rfl rfl)) ((show za.eval (.tmp 120) = za.tmps.getD 120 undef from rfl).trans (optSVal (zc.dep 16 120 (by kernel_rfl) (by decide)) rfl rfl)) rfl rfl rfl rfl hcB hcS (fun v => ⟨v, rfl, .ofUpd ((((Upd.at_ _ _ _ _).trans (Upd.at_ _ _ _ _)).trans (Upd.at_ _ _ _ _)).trans (Upd.at_ _ _ _ _)) rfl, HR.set zn2 (i := y.1) (hget y.2 ((2 * y.1 + 1 + 1))) (by (try simp); omega), fun b x e _ => by cases e⟩)
                    refine ⟨.inl ⟨rfl, true, .none rfl, (fun gg b h => by cases h), fun h w => optUndef h, fun zβ za zw zc => ?_⟩, ?_⟩
                    · exact ix_79 (k := (((2 * y.1) + 1) + 1)) rfl ((show za.eval (.tmp 112) = za.tmps.getD 112 undef from rfl).trans (optSVal (zc.dep 8 112 (by kernel_rfl) (by decide)) rfl rfl)) rfl ((show za.eval (.tmp 113) = za.tmps.getD 113 undef from rfl).trans (optSVal (zc.dep 9 113 (by kernel_rfl) (by decide)) rfl rfl)) (by first | omega | (simp; omega)) ⟨_, rfl, Below.refl _ _, optDef zβ rfl⟩
                    refine ⟨.inr ⟨1, rfl, by kernel_rfl, true, .none rfl, (fun gg b h => by cases h), (fun h => (nomatch h)), fun zβ za zw zvals zc => ?_⟩, ?_⟩
                    · obtain ⟨z0, rfl⟩ := vlen1 zc.len
                      have zn := zc.now
                      have zn2 : HR zw gr rc ((y.2.set y.1 (hget y.2 ((2 * y.1 + 1 + 1))))) := zn
                      obtain ⟨cc, hcB, hcS⟩ := zn2.size (i := (2 * y.1 + 1 + 1)) (by (try simp); omega)
                      exact st_75 rfl ((show za.eval (.tmp 129) = za.tmps.getD 129 undef from rfl).trans (optSVal (zc.dep 26 129 (by kernel_rfl) (by decide)) rfl rfl)) ((show za.eval (.tmp 127) = za.tmps.getD 127 undef from rfl).trans (optSVal (zc.dep 23 127 (by kernel_rfl) (by decide)) rfl rfl)) rfl rfl rfl rfl hcB hcS (fun v => ⟨v, rfl, .ofUpd ((((Upd.at_ _ _ _ _).trans (Upd.at_ _ _ _ _)).trans (Upd.at_ _ _ _ _)).trans (Upd.at_ _ _ _ _)) rfl, HR.set zn2 (i := (2 * y.1 + 1 + 1)) (hget y.2 y.1) (by (try simp); omega), fun b x e _ => by cases e⟩)
                    exact trivial
                  · intro za w73 zvals zh zl hG74 hc75 zu zw zk
                    obtain ⟨z0, z1, rfl⟩ := vlen2 zl
                    have hB76 := hB39.below hb70
                    have hB77 := chg_blk hB71 hc75 (by (try dsimp only at *); omega)
                    have hB78 := chg_blk hB76 hc75 (by (try dsimp only at *); omega)
                    have ho79 : HR w73 gr rc ((swp y.2 y.1 ((2 * y.1 + 1 + 1)))) := hG74
                    clear zu zw zk
                    refine (show WE _ [(0, .pointer (some ⟨h, 0, none⟩)), (2, .pointer (some ⟨g2, 0, none⟩)), (4, .int .i64 ((((L.length - 1) : Nat) : Int))), (5, .int .i64 (((y.1 : Nat) : Int))), (6, .int .i64 ((((((2 * y.1) + 1) + 1) : Nat) : Int))), (12, .bool (((((L.length : Nat) : Int) : Int) == (0 : Int)))), (52, .bool ((decide (((((L.length - 1) : Nat) : Int) : Int) ≤ (((((2 * y.1) + 1) : Nat) : Int) : Int))))), (80, .bool (((decide (((((((2 * y.1) + 1) + 1) : Nat) : Int) : Int) < ((((L.length - 1) : Nat) : Int) : Int))) && (decide (((itc (hget y.2 ((((2 * y.1) + 1) + 1))) (hget y.2 (((2 * y.1) + 1)))) : Int) < (0 : Int)))))), (102, .bool ((decide (((itc (hget y.2 y.1) (hget y.2 ((((2 * y.1) + 1) + 1)))) : Int) ≤ (0 : Int)))))] w73 _ .normal from ?_) za (zh.sub ⟨rfl, rfl, rfl, rfl, rfl, rfl, rfl, rfl, rfl, trivial⟩)
                    refine WE.next ?_
                    refine WC.region ?_
                    refine WL.val (.int .i64 ((((((2 * y.1) + 1) + 1) : Nat) : Int))) rfl rfl rfl (fun za zC zh zk => wp_move rfl (zh.ev rfl) zk) ?_
                    refine WL.val (.int .i64 ((((((2 * y.1) + 1) + 1) : Nat) : Int))) rfl rfl rfl (fun za zC zh zk => wp_assign rfl (zh.ev rfl) zk) ?_
                    refine WL.nil (WE.sub (K' := [(0, .pointer (some ⟨h, 0, none⟩)), (2, .pointer (some ⟨g2, 0, none⟩)), (4, .int .i64 ((((L.length - 1) : Nat) : Int))), (5, .int .i64 ((((((2 * y.1) + 1) + 1) : Nat) : Int))), (6, .int .i64 ((((((2 * y.1) + 1) + 1) : Nat) : Int))), (12, .bool (((((L.length : Nat) : Int) : Int) == (0 : Int)))), (52, .bool ((decide (((((L.length - 1) : Nat) : Int) : Int) ≤ (((((2 * y.1) + 1) : Nat) : Int) : Int))))), (80, .bool (((decide (((((((2 * y.1) + 1) + 1) : Nat) : Int) : Int) < ((((L.length - 1) : Nat) : Int) : Int))) && (decide (((itc (hget y.2 ((((2 * y.1) + 1) + 1))) (hget y.2 (((2 * y.1) + 1)))) : Int) < (0 : Int)))))), (102, .bool ((decide (((itc (hget y.2 y.1) (hget y.2 ((((2 * y.1) + 1) + 1)))) : Int) ≤ (0 : Int)))))]) ⟨rfl, rfl, rfl, rfl, rfl, rfl, rfl, rfl, rfl, trivial⟩ ?_)
                    refine WE.blockNormal ?_
                    refine WE.round (⟨(2 * y.1 + 1 + 1), swp y.2 y.1 (2 * y.1 + 1 + 1)⟩) ⟨rfl, rfl, rfl, rfl, rfl, trivial⟩ ?_ ?_
                    · exact ⟨DownTo.step hD (by omega) (by omega) (by omega) (by omega) hmin hnle, (List.Perm.cons _ (swp_perm (by omega) (by omega))).trans hP, by (try dsimp only); rw [swp_len]; exact hL, by (try dsimp only); omega, Chg.trans2 hC (Chg.trans2 (.ofBelow hb70) hc75 (fun i _ q => q)) (fun i hi q => .inr (q ▸ hgr)), hB77, hB78, ho79⟩
                    · (try dsimp only); omega
            · have h52 : ¬ ((((((((2 * y.1) + 1) + 1) : Nat) : Int) : Int) < ((((L.length - 1) : Nat) : Int) : Int)) ∧ (((itc (hget y.2 ((((2 * y.1) + 1) + 1))) (hget y.2 (((2 * y.1) + 1)))) : Int) < (0 : Int))) := by simpa using h52
              have hmin : ∀ j, j < y.2.length → (j - 1) / 2 = y.1 → 0 < j → (hget y.2 (2 * y.1 + 1)).le (hget y.2 j) := fun j h1 h2 h3 => by
                have hor : j = 2 * y.1 + 1 + 1 ∨ j = 2 * y.1 + 1 := by omega
                rcases hor with e | e
                · have hge := (itc_ge (hget y.2 (2 * y.1 + 1 + 1)) (hget y.2 (2 * y.1 + 1))).1 (by
                    rcases Decidable.em (itc (hget y.2 (2 * y.1 + 1 + 1)) (hget y.2 (2 * y.1 + 1)) < 0) with q | q
                    · exact absurd ⟨by omega, q⟩ h52
                    · omega)
                  rw [e]; exact hge
                · rw [e]; exact It.le_refl _
              have hkl : 2 * y.1 + 1 < L.length - 1 := by omega
              refine WC.skip ?_
              refine WE.next ?_
              refine WC.seq ?_
              refine WC.seq ?_
              have hB80 := hB38.below hb51
              have ho81 := ho40.below hb51
              refine WC.opt [(true, .val (.pointer (some ⟨h, 0, none⟩))), (true, .val (.pointer (some ⟨h, 0, none⟩))), (true, .val (.pointer (some ⟨h, 1, none⟩))), (true, .val (.func (.func 25) #[] #[])), (true, .val (.pointer (some ⟨h, 0, none⟩))), (true, .val (.pointer (some ⟨h, 0, none⟩))), (true, .val (.pointer (some ⟨h, 0, none⟩))), (true, .val (.slice ((some ⟨gr, 0, none⟩)) ((L.length - 1)) rc)), (true, .val (.int .i64 (((y.1 : Nat) : Int)))), (true, .val (.pointer (some ⟨gr, 0 + y.1 * 4, none⟩))), (true, .val (.agg #[.int .i64 ((hget y.2 y.1).b0), .int .i64 ((hget y.2 y.1).b1), .int .i64 ((hget y.2 y.1).id), .int .i64 ((hget y.2 y.1).tm)])), (true, .val (.pointer (some ⟨h, 0, none⟩))), (true, .val (.pointer (some ⟨h, 0, none⟩))), (true, .val (.pointer (some ⟨h, 0, none⟩))), (true, .val (.slice ((some ⟨gr, 0, none⟩)) ((L.length - 1)) rc)), (true, .val (.int .i64 (((((2 * y.1) + 1) : Nat) : Int)))), (true, .val (.pointer (some ⟨gr, 0 + (((2 * y.1) + 1)) * 4, none⟩))), (true, .val (.agg #[.int .i64 ((hget y.2 (((2 * y.1) + 1))).b0), .int .i64 ((hget y.2 (((2 * y.1) + 1))).b1), .int .i64 ((hget y.2 (((2 * y.1) + 1))).id), .int .i64 ((hget y.2 (((2 * y.1) + 1))).tm)])), (true, .val (.int .i64 ((itc (hget y.2 y.1) (hget y.2 (((2 * y.1) + 1))))))), (true, .val (.bool ((decide (((itc (hget y.2 y.1) (hget y.2 (((2 * y.1) + 1)))) : Int) ≤ (0 : Int))))))] [(0, .pointer (some ⟨h, 0, none⟩)), (2, .pointer (some ⟨g2, 0, none⟩)), (4, .int .i64 ((((L.length - 1) : Nat) : Int))), (5, .int .i64 (((y.1 : Nat) : Int))), (6, .int .i64 (((((2 * y.1) + 1) : Nat) : Int))), (12, .bool (((((L.length : Nat) : Int) : Int) == (0 : Int)))), (52, .bool ((decide (((((L.length - 1) : Nat) : Int) : Int) ≤ (((((2 * y.1) + 1) : Nat) : Int) : Int))))), (80, .bool (((decide (((((((2 * y.1) + 1) + 1) : Nat) : Int) : Int) < ((((L.length - 1) : Nat) : Int) : Int))) && (decide (((itc (hget y.2 ((((2 * y.1) + 1) + 1))) (hget y.2 (((2 * y.1) + 1)))) : Int) < (0 : Int))))))] ⟨rfl, rfl, rfl, rfl, rfl, rfl, rfl, rfl, trivial⟩ (by kernel_rfl) (by kernel_rfl) (by kernel_rfl) ?_ ?_
              · refine ⟨⟨true, .none rfl, fun h w => optUndef h, fun zβ za zw zc => ?_⟩, ?_⟩
                · exact wp_move rfl (zc.kn.ev rfl) ⟨_, rfl, Below.refl _ _, optDef zβ rfl⟩
                refine ⟨⟨true, .none rfl, fun h w => optUndef h, fun zβ za zw zc => ?_⟩, ?_⟩
                · exact nilCheck_ rfl ((show za.eval (.tmp 83) = za.tmps.getD 83 undef from rfl).trans (optVal (zc.dep 0 83 (by kernel_rfl)) rfl rfl)) ⟨_, rfl, Below.refl _ _, optDef zβ rfl⟩
                refine ⟨⟨true, .none rfl, fun h w => optUndef h, fun zβ za zw zc => ?_⟩, ?_⟩
                · exact fld_81_1 rfl ((show za.eval (.tmp 84) = za.tmps.getD 84 undef from rfl).trans (optVal (zc.dep 1 84 (by kernel_rfl)) rfl rfl)) ⟨_, rfl, Below.refl _ _, optDef zβ rfl⟩
                refine ⟨⟨true, .none rfl, fun h w => optUndef h, fun zβ za zw zc => ?_⟩, ?_⟩
                · exact ld_78 rfl ((show za.eval (.tmp 85) = za.tmps.getD 85 undef from rfl).trans (optVal (zc.dep 2 85 (by kernel_rfl)) rfl rfl)) (bkeeps zc.below _ _ ((hB80.cell 1).trans rfl)) ⟨_, rfl, Below.refl _ _, optDef zβ rfl⟩
                refine ⟨⟨true, .none rfl, fun h w => optUndef h, fun zβ za zw zc => ?_⟩, ?_⟩
                · exact wp_move rfl (zc.kn.ev rfl) ⟨_, rfl, Below.refl _ _, optDef zβ rfl⟩
                refine ⟨⟨true, .none rfl, fun h w => optUndef h, fun zβ za zw zc => ?_⟩, ?_⟩
                · exact nilCheck_ rfl ((show za.eval (.tmp 87) = za.tmps.getD 87 undef from rfl).trans (optVal (zc.dep 4 87 (by kernel_rfl)) rfl rfl)) ⟨_, rfl, Below.refl _ _, optDef zβ rfl⟩
                refine ⟨⟨true, .none rfl, fun h w => optUndef h, fun zβ za zw zc => ?_⟩, ?_⟩
                · exact fld_81_0 rfl ((show za.eval (.tmp 88) = za.tmps.getD 88 undef from rfl).trans (optVal (zc.dep 5 88 (by kernel_rfl)) rfl rfl)) ⟨_, rfl, Below.refl _ _, optDef zβ rfl⟩
                refine ⟨⟨true, .none rfl, fun h w => optUndef h, fun zβ za zw zc => ?_⟩, ?_⟩
                · exact ld_79 rfl ((show za.eval (.tmp 89) = za.tmps.getD 89 undef from rfl).trans (optVal (zc.dep 6 89 (by kernel_rfl)) rfl rfl)) (bkeeps zc.below _ _ ((hB80.cell 0).trans rfl)) ⟨_, rfl, Below.refl _ _, optDef zβ rfl⟩
                refine ⟨⟨true, .none rfl, fun h w => optUndef h, fun zβ za zw zc => ?_⟩, ?_⟩
                · exact wp_move rfl (zc.kn.ev rfl) ⟨_, rfl, Below.refl _ _, optDef zβ rfl⟩
                refine ⟨⟨true, .none rfl, fun h w => optUndef h, fun zβ za zw zc => ?_⟩, ?_⟩
                · exact ix_79 (k := y.1) rfl ((show za.eval (.tmp 90) = za.tmps.getD 90 undef from rfl).trans (optVal (zc.dep 7 90 (by kernel_rfl)) rfl rfl)) rfl ((show za.eval (.tmp 91) = za.tmps.getD 91 undef from rfl).trans (optVal (zc.dep 8 91 (by kernel_rfl)) rfl rfl)) (by first | omega | (simp; omega)) ⟨_, rfl, Below.refl _ _, optDef zβ rfl⟩
                refine ⟨⟨true, .none rfl, fun h w => optUndef h, fun zβ za zw zc => ?_⟩, ?_⟩
                · exact ld_75 rfl ((show za.eval (.tmp 92) = za.tmps.getD 92 undef from rfl).trans (optVal (zc.dep 9 92 (by kernel_rfl)) rfl rfl)) (bkeeps zc.below _ _ (HR.cells ho81 y.1 (by first | omega | (simp; omega))).1) (bkeeps zc.below _ _ (HR.cells ho81 y.1 (by first | omega | (simp; omega))).2.1) (bkeeps zc.below _ _ (HR.cells ho81 y.1 (by first | omega | (simp; omega))).2.2.1) (bkeeps zc.below _ _ (HR.cells ho81 y.1 (by first | omega | (simp; omega))).2.2.2) ⟨_, rfl, Below.refl _ _, optDef zβ rfl⟩
                refine ⟨⟨true, .none rfl, fun h w => optUndef h, fun zβ za zw zc => ?_⟩, ?_⟩
                · exact wp_move rfl (zc.kn.ev rfl) ⟨_, rfl, Below.refl _ _, optDef zβ rfl⟩
                refine ⟨⟨true, .none rfl, fun h w => optUndef h, fun zβ za zw zc => ?_⟩, ?_⟩
                · exact nilCheck_ rfl ((show za.eval (.tmp 94) = za.tmps.getD 94 undef from rfl).trans (optVal (zc.dep 11 94 (by kernel_rfl)) rfl rfl)) ⟨_, rfl, Below.refl _ _, optDef zβ rfl⟩
                refine ⟨⟨true, .none rfl, fun h w => optUndef h, fun zβ za zw zc => ?_⟩, ?_⟩
                · exact fld_81_0 rfl ((show za.eval (.tmp 95) = za.tmps.getD 95 undef from rfl).trans (optVal (zc.dep 12 95 (by kernel_rfl)) rfl rfl)) ⟨_, rfl, Below.refl _ _, optDef zβ rfl⟩
                refine ⟨⟨true, .none rfl, fun h w => optUndef h, fun zβ za zw zc => ?_⟩, ?_⟩
                · exact ld_79 rfl ((show za.eval (.tmp 96) = za.tmps.getD 96 undef from rfl).trans (optVal (zc.dep 13 96 (by kernel_rfl)) rfl rfl)) (bkeeps zc.below _ _ ((hB80.cell 0).trans rfl)) ⟨_, rfl, Below.refl _ _, optDef zβ rfl⟩
                refine ⟨⟨true, .none rfl, fun h w => optUndef h, fun zβ za zw zc => ?_⟩, ?_⟩
                · exact wp_move rfl (zc.kn.ev rfl) ⟨_, rfl, Below.refl _ _, optDef zβ rfl⟩
                refine ⟨⟨true, .none rfl, fun h w => optUndef h, fun zβ za zw zc => ?_⟩, ?_⟩
                · exact ix_79 (k := ((2 * y.1) + 1)) rfl ((show za.eval (.tmp 97) = za.tmps.getD 97 undef from rfl).trans (optVal (zc.dep 14 97 (by kernel_rfl)) rfl rfl)) rfl ((show za.eval (.tmp 98) = za.tmps.getD 98 undef from rfl).trans (optVal (zc.dep 15 98 (by kernel_rfl)) rfl rfl)) (by first | omega | (simp; omega)) ⟨_, rfl, Below.refl _ _, optDef zβ rfl⟩
                refine ⟨⟨true, .none rfl, fun h w => optUndef h, fun zβ za zw zc => ?_⟩, ?_⟩
                · exact ld_75 rfl ((show za.eval (.tmp 99) = za.tmps.getD 99 undef from rfl).trans (optVal (zc.dep 16 99 (by kernel_rfl)) rfl rfl)) (bkeeps zc.below _ _ (HR.cells ho81 (((2 * y.1) + 1)) (by first | omega | (simp; omega))).1) (bkeeps zc.below _ _ (HR.cells ho81 (((2 * y.1) + 1)) (by first | omega | (simp; omega))).2.1) (bkeeps zc.below _ _ (HR.cells ho81 (((2 * y.1) + 1)) (by first | omega | (simp; omega))).2.2.1) (bkeeps zc.below _ _ (HR.cells ho81 (((2 * y.1) + 1)) (by first | omega | (simp; omega))).2.2.2) ⟨_, rfl, Below.refl _ _, optDef zβ rfl⟩
                refine ⟨⟨true, .none rfl, fun h w => optUndef h, fun zβ za zw zc => ?_⟩, ?_⟩
                · exact wp_callv (by kernel_rfl) rfl ((show za.eval (.tmp 86) = za.tmps.getD 86 undef from rfl).trans (optVal (zc.dep 3 86 (by kernel_rfl)) rfl rfl)) (hv2 ((show za.eval (.tmp 93) = za.tmps.getD 93 undef from rfl).trans (optVal (zc.dep 10 93 (by kernel_rfl)) rfl rfl)) ((show za.eval (.tmp 100) = za.tmps.getD 100 undef from rfl).trans (optVal (zc.dep 17 100 (by kernel_rfl)) rfl rfl))) (itc_any (hget y.2 y.1) (hget y.2 (((2 * y.1) + 1))) _) (fun v w' h => ⟨v, rfl, h.2, optDef zβ h.1⟩)
                refine ⟨⟨true, .none rfl, fun h w => optUndef h, fun zβ za zw zc => ?_⟩, ?_⟩
                · exact leq_3 rfl ((show za.eval (.tmp 101) = za.tmps.getD 101 undef from rfl).trans (optVal (zc.dep 18 101 (by kernel_rfl)) rfl rfl)) (zc.kn.ev rfl) ⟨_, rfl, Below.refl _ _, optDef zβ rfl⟩
                exact trivial
              · intro za w83 zh hb84 zu
                have zh := zh.cons (d := 102) (v := .bool ((decide (((itc (hget y.2 y.1) (hget y.2 (((2 * y.1) + 1)))) : Int) ≤ (0 : Int))))) (optVal (zu 19 102 (by kernel_rfl)) rfl rfl)
                clear zu
                refine (show WE _ [(0, .pointer (some ⟨h, 0, none⟩)), (2, .pointer (some ⟨g2, 0, none⟩)), (4, .int .i64 ((((L.length - 1) : Nat) : Int))), (5, .int .i64 (((y.1 : Nat) : Int))), (6, .int .i64 (((((2 * y.1) + 1) : Nat) : Int))), (12, .bool (((((L.length : Nat) : Int) : Int) == (0 : Int)))), (52, .bool ((decide (((((L.length - 1) : Nat) : Int) : Int) ≤ (((((2 * y.1) + 1) : Nat) : Int) : Int))))), (80, .bool (((decide (((((((2 * y.1) + 1) + 1) : Nat) : Int) : Int) < ((((L.length - 1) : Nat) : Int) : Int))) && (decide (((itc (hget y.2 ((((2 * y.1) + 1) + 1))) (hget y.2 (((2 * y.1) + 1)))) : Int) < (0 : Int)))))), (102, .bool ((decide (((itc (hget y.2 y.1) (hget y.2 (((2 * y.1) + 1)))) : Int) ≤ (0 : Int)))))] w83 _ .normal from ?_) za (zh.sub ⟨rfl, rfl, rfl, rfl, rfl, rfl, rfl, rfl, rfl, trivial⟩)
                refine WE.next ?_
                refine WC.cond rfl (fun h85 => ?_) (fun h85 => ?_)
                · have h85 : ((itc (hget y.2 y.1) (hget y.2 (((2 * y.1) + 1)))) : Int) ≤ (0 : Int) := by simpa using h85
                  refine WC.seq ?_
                  refine WC.region ?_
                  have hb87 : Below w37.heap.size w37 w83 := (bstep hb51 hb84)
                  have hB86 := hB39.below hb87
                  refine WL.val (.agg #[.int .i64 ((hget L 0).b0), .int .i64 ((hget L 0).b1), .int .i64 ((hget L 0).id), .int .i64 ((hget L 0).tm)]) rfl rfl rfl (fun za zC zh zk => ld_75 rfl (zh.ev rfl) ((hB86.cell 0).trans rfl) ((hB86.cell 1).trans rfl) ((hB86.cell 2).trans rfl) ((hB86.cell 3).trans rfl) zk) ?_
                  refine WL.step (post := fun _ w' => Upd g2 w83 w' ∧ Blk w' g2 75 #[.int .i64 ((hget L 0).b0), .int .i64 ((hget L 0).b1), .int .i64 ((hget L 0).id), .int .i64 ((hget L 0).tm)]) rfl rfl rfl (fun za zC zh zk => st_75 rfl (zh.ev rfl) (zh.ev rfl) rfl rfl rfl rfl hB86 (by first | decide | simp) (fun v => zk v _ ⟨(((Upd.at_ _ _ _ _).trans (Upd.at_ _ _ _ _)).trans (Upd.at_ _ _ _ _)).trans (Upd.at_ _ _ _ _), (((hB86.set_ 0 _).set_ 1 _).set_ 2 _).set_ 3 _⟩)) ?_
                  rintro v91 w88 ⟨hu89, hB90⟩
                  have hB92 := hB80.below hb84
                  have hB93 := upd_blk hB92 hu89 (by omega)
                  have ho94 := ho81.below hb84
                  have ho95 := ho94.upd hu89 (by omega)
                  refine WL.val (.bool true) rfl rfl rfl (fun za zC zh zk => wp_assign rfl (zh.ev rfl) zk) ?_
                  refine WL.nil (WE.sub (K' := [(0, .pointer (some ⟨h, 0, none⟩)), (2, .pointer (some ⟨g2, 0, none⟩)), (3, .bool true), (4, .int .i64 ((((L.length - 1) : Nat) : Int))), (5, .int .i64 (((y.1 : Nat) : Int))), (6, .int .i64 (((((2 * y.1) + 1) : Nat) : Int))), (12, .bool (((((L.length : Nat) : Int) : Int) == (0 : Int)))), (52, .bool ((decide (((((L.length - 1) : Nat) : Int) : Int) ≤ (((((2 * y.1) + 1) : Nat) : Int) : Int))))), (80, .bool (((decide (((((((2 * y.1) + 1) + 1) : Nat) : Int) : Int) < ((((L.length - 1) : Nat) : Int) : Int))) && (decide (((itc (hget y.2 ((((2 * y.1) + 1) + 1))) (hget y.2 (((2 * y.1) + 1)))) : Int) < (0 : Int)))))), (102, .bool ((decide (((itc (hget y.2 y.1) (hget y.2 (((2 * y.1) + 1)))) : Int) ≤ (0 : Int)))))]) ⟨rfl, rfl, rfl, rfl, rfl, rfl, rfl, rfl, rfl, rfl, trivial⟩ ?_)
                  refine WE.next ?_
                  refine WC.ret ?_
                  refine WE.thenRet ?_
                  refine WE.blockRet ?_
                  refine WE.thenRet ?_
                  refine WE.blockRet ?_
                  refine WE.retAny (v := .tuple #[.agg #[.int .i64 ((hget L 0).b0), .int .i64 ((hget L 0).b1), .int .i64 ((hget L 0).id), .int .i64 ((hget L 0).tm)], .bool true]) (fun za zh => ?_) ?_
                  · have z0 : za.tmps[2]?.getD undef = .pointer (some ⟨g2, 0, none⟩) := by rw [← Array.getD_eq_getD_getElem?]; exact zh.knows 2 _ rfl
                    have y0_0 : w88.cell? ⟨g2, 0, none⟩ = some (.int .i64 ((hget L 0).b0)) := ((hB90.cell 0).trans rfl)
                    have y0_1 : w88.cell? ⟨g2, 1, none⟩ = some (.int .i64 ((hget L 0).b1)) := ((hB90.cell 1).trans rfl)
                    have y0_2 : w88.cell? ⟨g2, 2, none⟩ = some (.int .i64 ((hget L 0).id)) := ((hB90.cell 2).trans rfl)
                    have y0_3 : w88.cell? ⟨g2, 3, none⟩ = some (.int .i64 ((hget L 0).tm)) := ((hB90.cell 3).trans rfl)
                    have z1 : za.tmps[3]?.getD undef = .bool true := by rw [← Array.getD_eq_getD_getElem?]; exact zh.knows 3 _ rfl
                    simp [results, Try.results29, z0, y0_0, y0_1, y0_2, y0_3, z1, go_sem]
                  · have hs96 : Chg ((fun b => b = g2)) w37 w88 := (Chg.trans2 (Chg.trans2 (Chg.refl ((fun b => b = g2)) _) (Chg.ofBelow (S := fun k => k < 0) hb87) (fun i h1 h2 => by first | exact h2 | exact .inl ⟨h2, h1⟩ | exact .inl h2 | exact .inr h2 | exact .inr (.inl h2) | exact .inr (.inr h2) | ((try dsimp only at *); omega))) (Chg.ofUpd (S := fun k => k = g2) hu89 rfl) (fun i h1 h2 => by first | exact h2 | exact .inl ⟨h2, h1⟩ | exact .inl h2 | exact .inr h2 | exact .inr (.inl h2) | exact .inr (.inr h2) | ((try dsimp only at *); omega)))
                    exact ⟨_, rfl, .inr ⟨hL0, rfl, y.2, hP, hD.done (fun j h1 h2 h3 => It.le_trans ((itc_le _ _).1 h85) (hmin j h1 h2 h3)), ⟨⟨_, _, by rw [hL]; exact hB93, ho95.own hgr⟩⟩, Chg.trans2 hC hs96 (fun i hi q => by (try dsimp only at q); omega)⟩⟩
                · have h85 : ¬ (((itc (hget y.2 y.1) (hget y.2 (((2 * y.1) + 1)))) : Int) ≤ (0 : Int)) := by simpa using h85
                  have hnle : ¬ (hget y.2 y.1).le (hget y.2 (2 * y.1 + 1)) := fun q => h85 ((itc_le _ _).2 q)
                  refine WC.skip ?_
                  refine WE.next ?_
                  refine WC.seq ?_
                  have hb97 : Below w37.heap.size w37 w83 := (bstep hb51 hb84)
                  have hB98 := hB80.below hb84
                  have ho99 := ho81.below hb84
                  refine WC.seqV (S := ((fun b => b = gr))) [(true, .val (.pointer (some ⟨h, 0, none⟩))), (true, .val (.pointer (some ⟨h, 0, none⟩))), (true, .val (.pointer (some ⟨h, 0, none⟩))), (true, .val (.slice ((some ⟨gr, 0, none⟩)) ((L.length - 1)) rc)), (true, .val (.int .i64 (((y.1 : Nat) : Int)))), (true, .val (.pointer (some ⟨h, 0, none⟩))), (true, .val (.pointer (some ⟨h, 0, none⟩))), (true, .val (.pointer (some ⟨h, 0, none⟩))), (true, .val (.slice ((some ⟨gr, 0, none⟩)) ((L.length - 1)) rc)), (true, .val (.int .i64 (((((2 * y.1) + 1) : Nat) : Int)))), (true, .val (.pointer (some ⟨h, 0, none⟩))), (true, .val (.pointer (some ⟨h, 0, none⟩))), (true, .val (.pointer (some ⟨h, 0, none⟩))), (true, .val (.slice ((some ⟨gr, 0, none⟩)) ((L.length - 1)) rc)), (true, .val (.int .i64 (((((2 * y.1) + 1) : Nat) : Int)))), (true, .val (.pointer (some ⟨gr, 0 + (((2 * y.1) + 1)) * 4, none⟩))), (true, .val (.agg #[.int .i64 ((hget y.2 (((2 * y.1) + 1))).b0), .int .i64 ((hget y.2 (((2 * y.1) + 1))).b1), .int .i64 ((hget y.2 (((2 * y.1) + 1))).id), .int .i64 ((hget y.2 (((2 * y.1) + 1))).tm)])), (true, .val (.pointer (some ⟨h, 0, none⟩))), (true, .val (.pointer (some ⟨h, 0, none⟩))), (true, .val (.pointer (some ⟨h, 0, none⟩))), (true, .val (.slice ((some ⟨gr, 0, none⟩)) ((L.length - 1)) rc)), (true, .val (.int .i64 (((y.1 : Nat) : Int)))), (true, .val (.pointer (some ⟨gr, 0 + y.1 * 4, none⟩))), (true, .val (.agg #[.int .i64 ((hget y.2 y.1).b0), .int .i64 ((hget y.2 y.1).b1), .int .i64 ((hget y.2 y.1).id), .int .i64 ((hget y.2 y.1).tm)])), (true, .val (.pointer (some ⟨gr, 0 + y.1 * 4, none⟩))), (true, .val undef), (true, .val (.pointer (some ⟨gr, 0 + (((2 * y.1) + 1)) * 4, none⟩))), (true, .val undef)] [(0, .pointer (some ⟨h, 0, none⟩)), (2, .pointer (some ⟨g2, 0, none⟩)), (4, .int .i64 ((((L.length - 1) : Nat) : Int))), (5, .int .i64 (((y.1 : Nat) : Int))), (6, .int .i64 (((((2 * y.1) + 1) : Nat) : Int))), (12, .bool (((((L.length : Nat) : Int) : Int) == (0 : Int)))), (52, .bool ((decide (((((L.length - 1) : Nat) : Int) : Int) ≤ (((((2 * y.1) + 1) : Nat) : Int) : Int))))), (80, .bool (((decide (((((((2 * y.1) + 1) + 1) : Nat) : Int) : Int) < ((((L.length - 1) : Nat) : Int) : Int))) && (decide (((itc (hget y.2 ((((2 * y.1) + 1) + 1))) (hget y.2 (((2 * y.1) + 1)))) : Int) < (0 : Int)))))), (102, .bool ((decide (((itc (hget y.2 y.1) (hget y.2 (((2 * y.1) + 1)))) : Int) ≤ (0 : Int)))))] [25, 27] [none, none] (HV gr rc [y.2, (y.2.set y.1 (hget y.2 ((2 * y.1 + 1)))), (swp y.2 y.1 ((2 * y.1 + 1)))]) HV.below (by decide) ⟨rfl, rfl, rfl, rfl, rfl, rfl, rfl, rfl, rfl, trivial⟩ (by kernel_rfl) (by kernel_rfl) (by kernel_rfl) (by kernel_rfl) ho99 ?_ ?_
                  · refine ⟨.inl ⟨rfl, true, .none rfl, (fun gg b h => by cases h), fun h w => optUndef h, fun zβ za zw zc => ?_⟩, ?_⟩
                    · exact wp_move rfl (zc.kn.ev rfl) ⟨_, rfl, Below.refl _ _, optDef zβ rfl⟩
                    refine ⟨.inl ⟨rfl, true, .none rfl, (fun gg b h => by cases h), fun h w => optUndef h, fun zβ za zw zc => ?_⟩, ?_⟩
                    · exact nilCheck_ rfl ((show za.eval (.tmp 104) = za.tmps.getD 104 undef from rfl).trans (optSVal (zc.dep 0 104 (by kernel_rfl) (by decide)) rfl rfl)) ⟨_, rfl, Below.refl _ _, optDef zβ rfl⟩
                    refine ⟨.inl ⟨rfl, true, .none rfl, (fun gg b h => by cases h), fun h w => optUndef h, fun zβ za zw zc => ?_⟩, ?_⟩
                    · exact fld_81_0 rfl ((show za.eval (.tmp 105) = za.tmps.getD 105 undef from rfl).trans (optSVal (zc.dep 1 105 (by kernel_rfl) (by decide)) rfl rfl)) ⟨_, rfl, Below.refl _ _, optDef zβ rfl⟩
                    refine ⟨.inl ⟨rfl, true, .none rfl, (fun gg b h => by cases h), fun h w => optUndef h, fun zβ za zw zc => ?_⟩, ?_⟩
                    · exact ld_79 rfl ((show za.eval (.tmp 106) = za.tmps.getD 106 undef from rfl).trans (optSVal (zc.dep 2 106 (by kernel_rfl) (by decide)) rfl rfl)) (chg_cell zc.chg (by (try dsimp only at *); omega) ((hB98.cell 0).trans rfl)) ⟨_, rfl, Below.refl _ _, optDef zβ rfl⟩
                    refine ⟨.inl ⟨rfl, true, .none rfl, (fun gg b h => by cases h), fun h w => optUndef h, fun zβ za zw zc => ?_⟩, ?_⟩
                    · exact wp_move rfl (zc.kn.ev rfl) ⟨_, rfl, Below.refl _ _, optDef zβ rfl⟩
                    refine ⟨.inl ⟨rfl, true, .none rfl, (fun gg b h => by cases h), fun h w => optUndef h, fun zβ za zw zc => ?_⟩, ?_⟩
                    · exact wp_move rfl (zc.kn.ev rfl) ⟨_, rfl, Below.refl _ _, optDef zβ rfl⟩
                    refine ⟨.inl ⟨rfl, true, .none rfl, (fun gg b h => by cases h), fun h w => optUndef h, fun zβ za zw zc => ?_⟩, ?_⟩
                    · exact nilCheck_ rfl ((show za.eval (.tmp 109) = za.tmps.getD 109 undef from rfl).trans (optSVal (zc.dep 5 109 (by kernel_rfl) (by decide)) rfl rfl)) ⟨_, rfl, Below.refl _ _, optDef zβ rfl⟩
                    refine ⟨.inl ⟨rfl, true, .none rfl, (fun gg b h => by cases h), fun h w => optUndef h, fun zβ za zw zc => ?_⟩, ?_⟩
                    · exact fld_81_0 rfl ((show za.eval (.tmp 110) = za.tmps.getD 110 undef from rfl).trans (optSVal (zc.dep 6 110 (by kernel_rfl) (by decide)) rfl rfl)) ⟨_, rfl, Below.refl _ _, optDef zβ rfl⟩
                    refine ⟨.inl ⟨rfl, true, .none rfl, (fun gg b h => by cases h), fun h w => optUndef h, fun zβ za zw zc => ?_⟩, ?_⟩
                    · exact ld_79 rfl ((show za.eval (.tmp 111) = za.tmps.getD 111 undef from rfl).trans (optSVal (zc.dep 7 111 (by kernel_rfl) (by decide)) rfl rfl)) (chg_cell zc.chg (by (try dsimp only at *); omega) ((hB98.cell 0).trans rfl)) ⟨_, rfl, Below.refl _ _, optDef zβ rfl⟩
                    refine ⟨.inl ⟨rfl, true, .none rfl, (fun gg b h => by cases h), fun h w => optUndef h, fun zβ za zw zc => ?_⟩, ?_⟩
                    · exact wp_move rfl (zc.kn.ev rfl) ⟨_, rfl, Below.refl _ _, optDef zβ rfl⟩
                    refine ⟨.inl ⟨rfl, true, .none rfl, (fun gg b h => by cases h), fun h w => optUndef h, fun zβ za zw zc => ?_⟩, ?_⟩
                    · exact wp_move rfl (zc.kn.ev rfl) ⟨_, rfl, Below.refl _ _, optDef zβ rfl⟩
                    refine ⟨.inl ⟨rfl, true, .none rfl, (fun gg b h => by cases h), fun h w => optUndef h, fun zβ za zw zc => ?_⟩, ?_⟩
                    · exact nilCheck_ rfl ((show za.eval (.tmp 114) = za.tmps.getD 114 undef from rfl).trans (optSVal (zc.dep 10 114 (by kernel_rfl) (by decide)) rfl rfl)) ⟨_, rfl, Below.refl _ _, optDef zβ rfl⟩
                    refine ⟨.inl ⟨rfl, true, .none rfl, (fun gg b h => by cases h), fun h w => optUndef h, fun zβ za zw zc => ?_⟩, ?_⟩
                    · exact fld_81_0 rfl ((show za.eval (.tmp 115) = za.tmps.getD 115 undef from rfl).trans (optSVal (zc.dep 11 115 (by kernel_rfl) (by decide)) rfl rfl)) ⟨_, rfl, Below.refl _ _, optDef zβ rfl⟩
                    refine ⟨.inl ⟨rfl, true, .none rfl, (fun gg b h => by cases h), fun h w => optUndef h, fun zβ za zw zc => ?_⟩, ?_⟩
                    · exact ld_79 rfl ((show za.eval (.tmp 116) = za.tmps.getD 116 undef from rfl).trans (optSVal (zc.dep 12 116 (by kernel_rfl) (by decide)) rfl rfl)) (chg_cell zc.chg (by (try dsimp only at *); omega) ((hB98.cell 0).trans rfl)) ⟨_, rfl, Below.refl _ _, optDef zβ rfl⟩
                    refine ⟨.inl ⟨rfl, true, .none rfl, (fun gg b h => by cases h), fun h w => optUndef h, fun zβ za zw zc => ?_⟩, ?_⟩
                    · exact wp_move rfl (zc.kn.ev rfl) ⟨_, rfl, Below.refl _ _, optDef zβ rfl⟩
                    refine ⟨.inl ⟨rfl, true, .none rfl, (fun gg b h => by cases h), fun h w => optUndef h, fun zβ za zw zc => ?_⟩, ?_⟩
                    · exact ix_79 (k := ((2 * y.1) + 1)) rfl ((show za.eval (.tmp 117) = za.tmps.getD 117 undef from rfl).trans (optSVal (zc.dep 13 117 (by kernel_rfl) (by decide)) rfl rfl)) rfl ((show za.eval (.tmp 118) = za.tmps.getD 118 undef from rfl).trans (optSVal (zc.dep 14 118 (by kernel_rfl) (by decide)) rfl rfl)) (by first | omega | (simp; omega)) ⟨_, rfl, Below.refl _ _, optDef zβ rfl⟩
                    refine ⟨.inl ⟨rfl, true, .none rfl, (fun gg b h => by cases h), fun h w => optUndef h, fun zβ za zw zc => ?_⟩, ?_⟩
                    · obtain ⟨vals, hle, hgv, _⟩ := zc.early 0 25 rfl (by kernel_rfl)
                      have zn2 : HR zw gr rc y.2 := by
                        match vals, hle, hgv with
                        | [], _, hg => exact hg
                      exact ld_75 rfl ((show za.eval (.tmp 119) = za.tmps.getD 119 undef from rfl).trans (optSVal (zc.dep 15 119 (by kernel_rfl) (by decide)) rfl rfl)) (HR.cells zn2 (((2 * y.1) + 1)) (by first | omega | (simp; omega))).1 (HR.cells zn2 (((2 * y.1) + 1)) (by first | omega | (simp; omega))).2.1 (HR.cells zn2 (((2 * y.1) + 1)) (by first | omega | (simp; omega))).2.2.1 (HR.cells zn2 (((2 * y.1) + 1)) (by first | omega | (simp; omega))).2.2.2 ⟨_, rfl, Below.refl _ _, optDef zβ rfl⟩
                    refine ⟨.inl ⟨rfl, true, .none rfl, (fun gg b h => by cases h), fun h w => optUndef h, fun zβ za zw zc => ?_⟩, ?_⟩
                    · exact wp_move rfl (zc.kn.ev rfl) ⟨_, rfl, Below.refl _ _, optDef zβ rfl⟩
                    refine ⟨.inl ⟨rfl, true, .none rfl, (fun gg b h => by cases h), fun h w => optUndef h, fun zβ za zw zc => ?_⟩, ?_⟩
                    · exact nilCheck_ rfl ((show za.eval (.tmp 121) = za.tmps.getD 121 undef from rfl).trans (optSVal (zc.dep 17 121 (by kernel_rfl) (by decide)) rfl rfl)) ⟨_, rfl, Below.refl _ _, optDef zβ rfl⟩
                    refine ⟨.inl ⟨rfl, true, .none rfl, (fun gg b h => by cases h), fun h w => optUndef h, fun zβ za zw zc => ?_⟩, ?_⟩
                    · exact fld_81_0 rfl ((show za.eval (.tmp 122) = za.tmps.getD 122 undef from rfl).trans (optSVal (zc.dep 18 122 (by kernel_rfl) (by decide)) rfl rfl)) ⟨_, rfl, Below.refl _ _, optDef zβ rfl⟩
                    refine ⟨.inl ⟨rfl, true, .none rfl, (fun gg b h => by cases h), fun h w => optUndef h, fun zβ za zw zc => ?_⟩, ?_⟩
                    · exact ld_79 rfl ((show za.eval (.tmp 123) = za.tmps.getD 123 undef from rfl).trans (optSVal (zc.dep 19 123 (by kernel_rfl) (by decide)) rfl rfl)) (chg_cell zc.chg (by (try dsimp only at *); omega) ((hB98.cell 0).trans rfl)) ⟨_, rfl, Below.refl _ _, optDef zβ rfl⟩
                    refine ⟨.inl ⟨rfl, true, .none rfl, (fun gg b h => by cases h), fun h w => optUndef h, fun zβ za zw zc => ?_⟩, ?_⟩
                    · exact wp_move rfl (zc.kn.ev rfl) ⟨_, rfl, Below.refl _ _, optDef zβ rfl⟩
                    refine ⟨.inl ⟨rfl, true, .none rfl, (fun gg b h => by cases h), fun h w => optUndef h, fun zβ za zw zc => ?_⟩, ?_⟩
                    · exact ix_79 (k := y.1) rfl ((show za.eval (.tmp 124) = za.tmps.getD 124 undef from rfl).trans (optSVal (zc.dep 20 124 (by kernel_rfl) (by decide)) rfl rfl)) rfl ((show za.eval (.tmp 125) = za.tmps.getD 125 undef from rfl).trans (optSVal (zc.dep 21 125 (by kernel_rfl) (by decide)) rfl rfl)) (by first | omega | (simp; omega)) ⟨_, rfl, Below.refl _ _, optDef zβ rfl⟩
                    refine ⟨.inl ⟨rfl, true, .none rfl, (fun gg b h => by cases h), fun h w => optUndef h, fun zβ za zw zc => ?_⟩, ?_⟩
                    · obtain ⟨vals, hle, hgv, _⟩ := zc.early 0 25 rfl (by kernel_rfl)
                      have zn2 : HR zw gr rc y.2 := by
                        match vals, hle, hgv with
                        | [], _, hg => exact hg
                      exact ld_75 rfl ((show za.eval (.tmp 126) = za.tmps.getD 126 undef from rfl).trans (optSVal (zc.dep 22 126 (by kernel_rfl) (by decide)) rfl rfl)) (HR.cells zn2 y.1 (by first | omega | (simp; omega))).1 (HR.cells zn2 y.1 (by first | omega | (simp; omega))).2.1 (HR.cells zn2 y.1 (by first | omega | (simp; omega))).2.2.1 (HR.cells zn2 y.1 (by first | omega | (simp; omega))).2.2.2 ⟨_, rfl, Below.refl _ _, optDef zβ rfl⟩
                    refine ⟨.inl ⟨rfl, true, .none rfl, (fun gg b h => by cases h), fun h w => optUndef h, fun zβ za zw zc => ?_⟩, ?_⟩
                    · exact ix_79 (k := y.1) rfl ((show za.eval (.tmp 107) = za.tmps.getD 107 undef from rfl).trans (optSVal (zc.dep 3 107 (by kernel_rfl) (by decide)) rfl rfl)) rfl ((show za.eval (.tmp 108) = za.tmps.getD 108 undef from rfl).trans (optSVal (zc.dep 4 108 (by kernel_rfl) (by decide)) rfl rfl)) (by first | omega | (simp; omega)) ⟨_, rfl, Below.refl _ _, optDef zβ rfl⟩
                    refine ⟨.inr ⟨0, rfl, by kernel_rfl, true, .none rfl, (fun gg b h => by cases h), (fun h => (nomatch h)), fun zβ za zw zvals zc => ?_⟩, ?_⟩
                    · obtain rfl := vlen0 zc.len
                      have zn := zc.now
                      have zn2 : HR zw gr rc y.2 := zn
                      obtain ⟨cc, hcB, hcS⟩ := zn2.size (i := y.1) (by (try simp); omega)
                      exact st_75 rfl ((show za.eval (.tmp 128) = za.tmps.getD 128 undef from rfl).trans (optSVal (zc.dep 24 128 (by kernel_rfl) (by decide)) rfl rfl)) ((show za.eval (.tmp 120) = za.tmps.getD 120 undef from rfl).trans (optSVal (zc.dep 16 120 (by kernel_rfl) (by decide)) rfl rfl)) rfl rfl rfl rfl hcB hcS (fun v => ⟨v, rfl, .ofUpd ((((Upd.at_ _ _ _ _).trans (Upd.at_ _ _ _ _)).trans (Upd.at_ _ _ _ _)).trans (Upd.at_ _ _ _ _)) rfl, HR.set zn2 (i := y.1) (hget y.2 ((2 * y.1 + 1))) (by (try simp); omega), fun b x e _ => by cases e⟩)
                    refine ⟨.inl ⟨rfl, true, .none rfl, (fun gg b h => by cases h), fun h w => optUndef h, fun zβ za zw zc => ?_⟩, ?_⟩
                    · exact ix_79 (k := ((2 * y.1) + 1)) rfl ((show za.eval (.tmp 112) = za.tmps.getD 112 undef from rfl).trans (optSVal (zc.dep 8 112 (by kernel_rfl) (by decide)) rfl rfl)) rfl ((show za.eval (.tmp 113) = za.tmps.getD 113 undef from rfl).trans (optSVal (zc.dep 9 113 (by kernel_rfl) (by decide)) rfl rfl)) (by first | omega | (simp; omega)) ⟨_, rfl, Below.refl _ _, optDef zβ rfl⟩
                    refine ⟨.inr ⟨1, rfl, by kernel_rfl, true, .none rfl, (fun gg b h => by cases h), (fun h => (nomatch h)), fun zβ za zw zvals zc => ?_⟩, ?_⟩
                    · obtain ⟨z0, rfl⟩ := vlen1 zc.len
                      have zn := zc.now
                      have zn2 : HR zw gr rc ((y.2.set y.1 (hget y.2 ((2 * y.1 + 1))))) := zn
                      obtain ⟨cc, hcB, hcS⟩ := zn2.size (i := (2 * y.1 + 1)) (by (try simp); omega)
                      exact st_75 rfl ((show za.eval (.tmp 129) = za.tmps.getD 129 undef from rfl).trans (optSVal (zc.dep 26 129 (by kernel_rfl) (by decide)) rfl rfl)) ((show za.eval (.tmp 127) = za.tmps.getD 127 undef from rfl).trans (optSVal (zc.dep 23 127 (by kernel_rfl) (by decide)) rfl rfl)) rfl rfl rfl rfl hcB hcS (fun v => ⟨v, rfl, .ofUpd ((((Upd.at_ _ _ _ _).trans (Upd.at_ _ _ _ _)).trans (Upd.at_ _ _ _ _)).trans (Upd.at_ _ _ _ _)) rfl, HR.set zn2 (i := (2 * y.1 + 1)) (hget y.2 y.1) (by (try simp); omega), fun b x e _ => by cases e⟩)
                    exact trivial
                  · intro za w100 zvals zh zl hG101 hc102 zu zw zk
                    obtain ⟨z0, z1, rfl⟩ := vlen2 zl
                    have hB103 := hB39.below hb97
                    have hB104 := chg_blk hB98 hc102 (by (try dsimp only at *); omega)
                    have hB105 := chg_blk hB103 hc102 (by (try dsimp only at *); omega)
                    have ho106 : HR w100 gr rc ((swp y.2 y.1 ((2 * y.1 + 1)))) := hG101
                    clear zu zw zk
                    refine (show WE _ [(0, .pointer (some ⟨h, 0, none⟩)), (2, .pointer (some ⟨g2, 0, none⟩)), (4, .int .i64 ((((L.length - 1) : Nat) : Int))), (5, .int .i64 (((y.1 : Nat) : Int))), (6, .int .i64 (((((2 * y.1) + 1) : Nat) : Int))), (12, .bool (((((L.length : Nat) : Int) : Int) == (0 : Int)))), (52, .bool ((decide (((((L.length - 1) : Nat) : Int) : Int) ≤ (((((2 * y.1) + 1) : Nat) : Int) : Int))))), (80, .bool (((decide (((((((2 * y.1) + 1) + 1) : Nat) : Int) : Int) < ((((L.length - 1) : Nat) : Int) : Int))) && (decide (((itc (hget y.2 ((((2 * y.1) + 1) + 1))) (hget y.2 (((2 * y.1) + 1)))) : Int) < (0 : Int)))))), (102, .bool ((decide (((itc (hget y.2 y.1) (hget y.2 (((2 * y.1) + 1)))) : Int) ≤ (0 : Int)))))] w100 _ .normal from ?_) za (zh.sub ⟨rfl, rfl, rfl, rfl, rfl, rfl, rfl, rfl, rfl, trivial⟩)
                    refine WE.next ?_
                    refine WC.region ?_
                    refine WL.val (.int .i64 (((((2 * y.1) + 1) : Nat) : Int))) rfl rfl rfl (fun za zC zh zk => wp_move rfl (zh.ev rfl) zk) ?_
                    refine WL.val (.int .i64 (((((2 * y.1) + 1) : Nat) : Int))) rfl rfl rfl (fun za zC zh zk => wp_assign rfl (zh.ev rfl) zk) ?_
                    refine WL.nil (WE.sub (K' := [(0, .pointer (some ⟨h, 0, none⟩)), (2, .pointer (some ⟨g2, 0, none⟩)), (4, .int .i64 ((((L.length - 1) : Nat) : Int))), (5, .int .i64 (((((2 * y.1) + 1) : Nat) : Int))), (6, .int .i64 (((((2 * y.1) + 1) : Nat) : Int))), (12, .bool (((((L.length : Nat) : Int) : Int) == (0 : Int)))), (52, .bool ((decide (((((L.length - 1) : Nat) : Int) : Int) ≤ (((((2 * y.1) + 1) : Nat) : Int) : Int))))), (80, .bool (((decide (((((((2 * y.1) + 1) + 1) : Nat) : Int) : Int) < ((((L.length - 1) : Nat) : Int) : Int))) && (decide (((itc (hget y.2 ((((2 * y.1) + 1) + 1))) (hget y.2 (((2 * y.1) + 1)))) : Int) < (0 : Int)))))), (102, .bool ((decide (((itc (hget y.2 y.1) (hget y.2 (((2 * y.1) + 1)))) : Int) ≤ (0 : Int)))))]) ⟨rfl, rfl, rfl, rfl, rfl, rfl, rfl, rfl, rfl, trivial⟩ ?_)
                    refine WE.blockNormal ?_
                    refine WE.round (⟨(2 * y.1 + 1), swp y.2 y.1 (2 * y.1 + 1)⟩) ⟨rfl, rfl, rfl, rfl, rfl, trivial⟩ ?_ ?_
                    · exact ⟨DownTo.step hD (by omega) (by omega) (by omega) (by omega) hmin hnle, (List.Perm.cons _ (swp_perm (by omega) (by omega))).trans hP, by (try dsimp only); rw [swp_len]; exact hL, by (try dsimp only); omega, Chg.trans2 hC (Chg.trans2 (.ofBelow hb97) hc102 (fun i _ q => q)) (fun i hi q => .inr (q ▸ hgr)), hB104, hB105, ho106⟩
                    · (try dsimp only); omega

end Go.Proofs.Ytjhkoiggeepajaa
