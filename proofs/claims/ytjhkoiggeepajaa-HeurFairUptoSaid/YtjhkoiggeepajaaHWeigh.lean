/- What clauses weigh: the program and the document. -/
import Derived.Test.YtjhkoiggeepajaaWghP
import Derived.Test.YtjhkoiggeepajaaKOps
import Derived.Test.YtjhkoiggeepajaaSize
import Derived.Test.YtjhkoiggeepajaaGenH
import Derived.Test.YtjhkoiggeepajaaRngK
namespace Go.Proofs.Ytjhkoiggeepajaa
open Go.RowKit Go
set_option linter.unusedVariables false
set_option linter.unusedSimpArgs false

theorem rsize_ok (t : T) (w : World) (v : Value) (hz : t.size ≤ 4294967296) (hv : IsT w t v) : Calls Try.prog 40 #[v] w (Ret fun v' w' => v' = .int .i64 (t.size : Int) ∧ Below w.heap.size w w') :=
  (size_any t w v hv).mono fun e w' ⟨h1, h2⟩ => ⟨_, h1, by rw [wrap64_id (by omega)], h2⟩
set_option maxRecDepth 100000 in
theorem tsize_any : ∀ (t : T) (w : World) (v : Value), t.size ≤ 4294967296 → IsT w t v → Calls Try.prog 43 #[v] w (Ret fun v' w' => v' = .int .i64 (t.size : Int) ∧ Below w.heap.size w w') := by
  refine T.ind (fun f l ih => ?_)
  intro w v hz hv
  have hv0 := hv
  have hlen := len_le_sizeL2 l
  have hz' := hz
  simp only [T.size] at hz'
  obtain ⟨hf, a, c, rfl, hc, hm, hl⟩ := hv
  have hf' := hf
  unfold I64 at hf'
  refine Calls.walk (l := [.agg #[.int .i64 f, .slice a l.length c]]) Try.func43 rfl (by kernel_rfl) ?_
  refine WC.sub (K' := [(0, .agg #[.int .i64 f, .slice a l.length c])]) ⟨rfl, trivial⟩ ?_
  refine WC.seq ?_
  refine WC.region ?_
  refine WL.step (post := NewBlk w 63 #[.int .i64 f, .slice a l.length c]) rfl rfl rfl (fun za zC zh zk => box_63 rfl (zh.ev rfl) (zk _ _ (newBlk _ _ _))) ?_
  rintro _ w1 ⟨g2, rfl, hg3, hB4, hb5, hz6⟩
  have hl7 : w.heap.size ≤ g2 := by omega
  refine WL.val (.int .i64 0) rfl rfl rfl (fun za zC zh zk => wp_assign rfl (zh.ev rfl) zk) ?_
  refine WL.nil (WE.sub (K' := [(0, .agg #[.int .i64 f, .slice a l.length c]), (1, .pointer (some ⟨g2, 0, none⟩)), (2, .int .i64 0)]) ⟨rfl, rfl, rfl, trivial⟩ ?_)
  refine WE.next ?_
  refine WC.seq ?_
  refine WC.region ?_
  refine WL.val (.int .i64 1) rfl rfl rfl (fun za zC zh zk => wp_assign rfl (zh.ev rfl) zk) ?_
  refine WL.nil (WE.sub (K' := [(0, .agg #[.int .i64 f, .slice a l.length c]), (1, .pointer (some ⟨g2, 0, none⟩)), (2, .int .i64 0), (3, .int .i64 1)]) ⟨rfl, rfl, rfl, rfl, trivial⟩ ?_)
  refine WE.next ?_
  refine WC.seq ?_
  refine WC.seq ?_
  refine WC.region ?_
  refine WL.val (.pointer (some ⟨g2, 1, none⟩)) rfl rfl rfl (fun za zC zh zk => fld_63_1 rfl (zh.ev rfl) zk) ?_
  refine WL.val (.slice a l.length c) rfl rfl rfl (fun za zC zh zk => ld_61 rfl (zh.ev rfl) ((hB4.cell 1).trans rfl) zk) ?_
  refine WL.val (.int .i64 (((l.length : Nat) : Int))) rfl rfl rfl (fun za zC zh zk => len_61 rfl (zh.ev rfl) zk) ?_
  refine WL.val (.int .i64 0) rfl rfl rfl (fun za zC zh zk => wp_move rfl (zh.ev rfl) zk) ?_
  refine WL.nil (WE.sub (K' := [(0, .agg #[.int .i64 f, .slice a l.length c]), (1, .pointer (some ⟨g2, 0, none⟩)), (2, .int .i64 0), (3, .int .i64 1), (7, .slice a l.length c), (8, .int .i64 (((l.length : Nat) : Int))), (9, .int .i64 0)]) ⟨rfl, rfl, rfl, rfl, rfl, rfl, rfl, trivial⟩ ?_)
  refine WE.next ?_
  refine WC.block ?_
  refine WC.loop (X := Nat) (fun k => l.length - k) (fun k => [(0, .agg #[.int .i64 f, .slice a l.length c]), (1, .pointer (some ⟨g2, 0, none⟩)), (2, .int .i64 0), (3, .int .i64 ((((1 + T.sizeL (l.take k)) : Nat) : Int))), (7, .slice a l.length c), (8, .int .i64 (((l.length : Nat) : Int))), (9, .int .i64 (((k : Nat) : Int)))]) (fun k w8 => k ≤ l.length ∧ Below w.heap.size w w8 ∧ Blk w8 g2 63 #[.int .i64 f, .slice a l.length c]) 0 ⟨rfl, rfl, rfl, rfl, rfl, rfl, rfl, trivial⟩ ?_ ?_
  · exact ⟨Nat.zero_le _, hb5, hB4⟩
  · rintro k w8 ⟨hk, hb9, hB10⟩
    refine WC.seq ?_
    refine WC.region ?_
    refine WL.val (.bool ((decide ((((k : Nat) : Int) : Int) < (((l.length : Nat) : Int) : Int))))) rfl rfl rfl (fun za zC zh zk => lss_3 rfl (zh.ev rfl) (zh.ev rfl) zk) ?_
    refine WL.nil (WE.sub (K' := [(0, .agg #[.int .i64 f, .slice a l.length c]), (1, .pointer (some ⟨g2, 0, none⟩)), (2, .int .i64 0), (3, .int .i64 ((((1 + T.sizeL (l.take k)) : Nat) : Int))), (7, .slice a l.length c), (8, .int .i64 (((l.length : Nat) : Int))), (9, .int .i64 (((k : Nat) : Int))), (10, .bool ((decide ((((k : Nat) : Int) : Int) < (((l.length : Nat) : Int) : Int)))))]) ⟨rfl, rfl, rfl, rfl, rfl, rfl, rfl, rfl, trivial⟩ ?_)
    refine WE.next ?_
    refine WC.seq ?_
    refine WC.cond rfl (fun h11 => ?_) (fun h11 => ?_)
    · have h11 : (((k : Nat) : Int) : Int) < (((l.length : Nat) : Int) : Int) := by simpa using h11
      refine WC.skip ?_
      refine WE.next ?_
      refine WC.seq ?_
      refine WC.block ?_
      refine WC.seq ?_
      refine WC.region ?_
      obtain ⟨b12, o13, A14, C15, ha16, hc17⟩ := IsTs.open hl
      refine WL.val (.pointer (some ⟨b12, o13 + k * 2, none⟩)) rfl rfl rfl (fun za zC zh zk => ix_61 (k := k) rfl (zh.ev rfl) (ha16 k (by first | omega | (simp; omega))) (zh.ev rfl) (by first | omega | (simp; omega)) zk) ?_
      refine WL.val (.agg #[.int .i64 ((tget l k).f), .slice ((A14 k)) ((tget l k).args.length) ((C15 k))]) rfl rfl rfl (fun za zC zh zk => ld_63 rfl (zh.ev rfl) (bkeeps hb9 _ _ (hc17 k (by first | omega | (simp; omega))).1) (bkeeps hb9 _ _ (hc17 k (by first | omega | (simp; omega))).2.1) zk) ?_
      refine WL.step (post := NewBlk w8 63 #[.int .i64 0, .slice none 0 0]) rfl rfl rfl (fun za zC zh zk => alloc_63 rfl (zk _ _ (newBlk _ _ _))) ?_
      rintro _ w18 ⟨g19, rfl, hg20, hB21, hb22, hz23⟩
      have hl24 : g2 < g19 := by have z1 := hB10.lt; omega
      have hl25 : w.heap.size ≤ g19 := by have z2 := (hb9).size; omega
      refine WL.step (post := fun _ w' => Upd g19 w18 w' ∧ Blk w' g19 63 #[.int .i64 ((tget l k).f), .slice ((A14 k)) ((tget l k).args.length) ((C15 k))]) rfl rfl rfl (fun za zC zh zk => st_63 rfl (zh.ev rfl) (zh.ev rfl) rfl rfl hB21 (by first | decide | simp) (fun v => zk v _ ⟨(Upd.at_ _ _ _ _).trans (Upd.at_ _ _ _ _), (hB21.set_ 0 _).set_ 1 _⟩)) ?_
      rintro v29 w26 ⟨hu27, hB28⟩
      have hb30 : Below w.heap.size w w18 := (bstep hb9 hb22)
      have hb31 := upd_below hb30 hu27 (by omega)
      have hB32 := hB10.below hb22
      have hB33 := upd_blk hB32 hu27 (by omega)
      refine WL.nil (WE.sub (K' := [(0, .agg #[.int .i64 f, .slice a l.length c]), (1, .pointer (some ⟨g2, 0, none⟩)), (2, .int .i64 0), (3, .int .i64 ((((1 + T.sizeL (l.take k)) : Nat) : Int))), (5, .pointer (some ⟨g19, 0, none⟩)), (7, .slice a l.length c), (8, .int .i64 (((l.length : Nat) : Int))), (9, .int .i64 (((k : Nat) : Int))), (10, .bool ((decide ((((k : Nat) : Int) : Int) < (((l.length : Nat) : Int) : Int)))))]) ⟨rfl, rfl, rfl, rfl, rfl, rfl, rfl, rfl, rfl, trivial⟩ ?_)
      refine WE.next ?_
      refine WC.region ?_
      refine WL.val (.int .i64 ((((1 + T.sizeL (l.take k)) : Nat) : Int))) rfl rfl rfl (fun za zC zh zk => wp_move rfl (zh.ev rfl) zk) ?_
      refine WL.val (.agg #[.int .i64 ((tget l k).f), .slice ((A14 k)) ((tget l k).args.length) ((C15 k))]) rfl rfl rfl (fun za zC zh zk => ld_63 rfl (zh.ev rfl) ((hB28.cell 0).trans rfl) ((hB28.cell 1).trans rfl) zk) ?_
      refine WL.call rfl rfl rfl (fun za zh zC => wp_call (by kernel_rfl) rfl (hv1 (zh.ev rfl))) (ih _ (tget_mem (by omega)) _ _ (size_at2 (by omega) hz) (IsT.below hb31 (hc17 k (by first | omega | (simp; omega))).2.2)) ?_
      rintro _ w35 ⟨rfl, hq34⟩
      refine WL.val (.int .i64 ((((1 + T.sizeL (l.take (k + 1))) : Nat) : Int))) rfl rfl rfl (fun za zC zh zk => addb_3 rfl (zh.ev rfl) (zh.ev rfl) (wrap_eq (by rw [sizeL_take3 (by omega)]; omega) (by omega) (by have z := sizeL_take3 (l := l) (k := k) (by omega); have z2 := T.sizeL_take_le l (k + 1); omega)) zk) ?_
      refine WL.val (.int .i64 ((((1 + T.sizeL (l.take (k + 1))) : Nat) : Int))) rfl rfl rfl (fun za zC zh zk => wp_assign rfl (zh.ev rfl) zk) ?_
      refine WL.nil (WE.sub (K' := [(0, .agg #[.int .i64 f, .slice a l.length c]), (1, .pointer (some ⟨g2, 0, none⟩)), (2, .int .i64 0), (3, .int .i64 ((((1 + T.sizeL (l.take (k + 1))) : Nat) : Int))), (5, .pointer (some ⟨g19, 0, none⟩)), (7, .slice a l.length c), (8, .int .i64 (((l.length : Nat) : Int))), (9, .int .i64 (((k : Nat) : Int))), (10, .bool ((decide ((((k : Nat) : Int) : Int) < (((l.length : Nat) : Int) : Int)))))]) ⟨rfl, rfl, rfl, rfl, rfl, rfl, rfl, rfl, rfl, trivial⟩ ?_)
      refine WE.blockNormal ?_
      refine WE.next ?_
      refine WC.region ?_
      refine WL.val (.int .i64 ((((k + 1) : Nat) : Int))) rfl rfl rfl (fun za zC zh zk => addb_3 rfl (zh.ev rfl) (zh.ev rfl) (wrap_eq (by omega) (by omega) (by omega)) zk) ?_
      refine WL.val (.int .i64 ((((k + 1) : Nat) : Int))) rfl rfl rfl (fun za zC zh zk => wp_move rfl (zh.ev rfl) zk) ?_
      refine WL.nil (WE.sub (K' := [(0, .agg #[.int .i64 f, .slice a l.length c]), (1, .pointer (some ⟨g2, 0, none⟩)), (2, .int .i64 0), (3, .int .i64 ((((1 + T.sizeL (l.take (k + 1))) : Nat) : Int))), (5, .pointer (some ⟨g19, 0, none⟩)), (7, .slice a l.length c), (8, .int .i64 (((l.length : Nat) : Int))), (9, .int .i64 ((((k + 1) : Nat) : Int))), (10, .bool ((decide ((((k : Nat) : Int) : Int) < (((l.length : Nat) : Int) : Int)))))]) ⟨rfl, rfl, rfl, rfl, rfl, rfl, rfl, rfl, rfl, trivial⟩ ?_)
      refine WE.round (k + 1) ⟨rfl, rfl, rfl, rfl, rfl, rfl, rfl, trivial⟩ ?_ ?_
      · have hb36 : Below w.heap.size w w35 := (bstep hb31 hq34)
        have hB37 := hB33.below hq34
        exact ⟨by omega, hb36, hB37⟩
      · omega
    · have h11 : ¬ ((((k : Nat) : Int) : Int) < (((l.length : Nat) : Int) : Int)) := by simpa using h11
      refine WC.exit ?_
      refine WE.thenExit ?_
      refine WE.thenExit ?_
      refine WE.blockIs rfl ?_
      refine WE.next ?_
      refine WC.seq ?_
      refine WC.region ?_
      refine WL.val (.int .i64 ((((1 + T.sizeL (l.take k)) : Nat) : Int))) rfl rfl rfl (fun za zC zh zk => wp_move rfl (zh.ev rfl) zk) ?_
      refine WL.val (.int .i64 ((((1 + T.sizeL (l.take k)) : Nat) : Int))) rfl rfl rfl (fun za zC zh zk => wp_assign rfl (zh.ev rfl) zk) ?_
      refine WL.nil (WE.sub (K' := [(0, .agg #[.int .i64 f, .slice a l.length c]), (1, .pointer (some ⟨g2, 0, none⟩)), (2, .int .i64 ((((1 + T.sizeL (l.take k)) : Nat) : Int))), (3, .int .i64 ((((1 + T.sizeL (l.take k)) : Nat) : Int))), (7, .slice a l.length c), (8, .int .i64 (((l.length : Nat) : Int))), (9, .int .i64 (((k : Nat) : Int))), (10, .bool ((decide ((((k : Nat) : Int) : Int) < (((l.length : Nat) : Int) : Int)))))]) ⟨rfl, rfl, rfl, rfl, rfl, rfl, rfl, rfl, trivial⟩ ?_)
      refine WE.next ?_
      refine WC.ret ?_
      refine WE.ret1 rfl rfl ?_
      refine ⟨_, rfl, ?_, hb9⟩
      rw [List.take_of_length_le (show l.length ≤ k by omega), T.size]

set_option maxRecDepth 100000 in
theorem ptrue_any (t : T) (w : World) (v : Value) (hv : IsT w t v) : Calls Try.prog 36 #[v] w (Ret fun v' w' => v' = .bool t.isTrue ∧ Below w.heap.size w w') := by
  obtain ⟨hf, a, c, rfl, _, _, _⟩ := hv.form
  refine Calls.walk (l := [.agg #[.int .i64 t.f, .slice a t.args.length c]]) Try.func36 rfl (by kernel_rfl) ?_
  refine WC.sub (K' := [(0, .agg #[.int .i64 t.f, .slice a t.args.length c])]) ⟨rfl, trivial⟩ ?_
  refine WC.seq ?_
  refine WC.region ?_
  refine WL.step (post := NewBlk w 63 #[.int .i64 t.f, .slice a t.args.length c]) rfl rfl rfl (fun za zC zh zk => box_63 rfl (zh.ev rfl) (zk _ _ (newBlk _ _ _))) ?_
  rintro _ w1 ⟨g2, rfl, hg3, hB4, hb5, hz6⟩
  have hl7 : w.heap.size ≤ g2 := by omega
  refine WL.val (.bool false) rfl rfl rfl (fun za zC zh zk => wp_assign rfl (zh.ev rfl) zk) ?_
  refine WL.nil (WE.sub (K' := [(0, .agg #[.int .i64 t.f, .slice a t.args.length c]), (1, .pointer (some ⟨g2, 0, none⟩)), (2, .bool false)]) ⟨rfl, rfl, rfl, trivial⟩ ?_)
  refine WE.next ?_
  refine WC.seq ?_
  refine WC.opt [(true, .val (.pointer (some ⟨g2, 0, none⟩))), (true, .val (.int .i64 t.f)), (true, .val (.bool (((t.f : Int) == (0 : Int))))), (true, .val (.bool (((t.f : Int) == (0 : Int))))), ((true && ((t.f : Int) == (0 : Int))), .val (.pointer (some ⟨g2, 1, none⟩))), ((true && ((t.f : Int) == (0 : Int))), .val (.slice a t.args.length c)), ((true && ((t.f : Int) == (0 : Int))), .val (.int .i64 (((t.args.length : Nat) : Int)))), ((true && ((t.f : Int) == (0 : Int))), .val (.bool (((((t.args.length : Nat) : Int) : Int) == (0 : Int))))), (true, .val (.bool ((((t.f : Int) == (0 : Int)) && ((((t.args.length : Nat) : Int) : Int) == (0 : Int)))))), (true, .val (.bool ((((t.f : Int) == (0 : Int)) && ((((t.args.length : Nat) : Int) : Int) == (0 : Int))))))] [(0, .agg #[.int .i64 t.f, .slice a t.args.length c]), (1, .pointer (some ⟨g2, 0, none⟩))] ⟨rfl, rfl, trivial⟩ (by kernel_rfl) (by kernel_rfl) (by kernel_rfl) ?_ ?_
  · refine ⟨⟨true, .none rfl, fun h w => optUndef h, fun zβ za zw zc => ?_⟩, ?_⟩
    · exact fld_63_0 rfl (zc.kn.ev rfl) ⟨_, rfl, Below.refl _ _, optDef zβ rfl⟩
    refine ⟨⟨true, .none rfl, fun h w => optUndef h, fun zβ za zw zc => ?_⟩, ?_⟩
    · exact ld_3 rfl ((show za.eval (.tmp 3) = za.tmps.getD 3 undef from rfl).trans (optVal (zc.dep 0 3 (by kernel_rfl)) rfl rfl)) (bkeeps zc.below _ _ ((hB4.cell 0).trans rfl)) ⟨_, rfl, Below.refl _ _, optDef zβ rfl⟩
    refine ⟨⟨true, .none rfl, fun h w => optUndef h, fun zβ za zw zc => ?_⟩, ?_⟩
    · exact eql_3 rfl ((show za.eval (.tmp 4) = za.tmps.getD 4 undef from rfl).trans (optVal (zc.dep 1 4 (by kernel_rfl)) rfl rfl)) (zc.kn.ev rfl) ⟨_, rfl, Below.refl _ _, optDef zβ rfl⟩
    refine ⟨⟨true, .none rfl, fun h w => optUndef h, fun zβ za zw zc => ?_⟩, ?_⟩
    · exact wp_move rfl ((show za.eval (.tmp 5) = za.tmps.getD 5 undef from rfl).trans (optVal (zc.dep 2 5 (by kernel_rfl)) rfl rfl)) ⟨_, rfl, Below.refl _ _, optDef zβ rfl⟩
    refine ⟨⟨(true && ((t.f : Int) == (0 : Int))), .yes (c := ((t.f : Int) == (0 : Int))) (d := true) rfl (fun v w h => h), fun h w => optUndef h, fun zβ za zw zc => ?_⟩, ?_⟩
    · exact fld_63_1 rfl (zc.kn.ev rfl) ⟨_, rfl, Below.refl _ _, optDef zβ rfl⟩
    refine ⟨⟨(true && ((t.f : Int) == (0 : Int))), .yes (c := ((t.f : Int) == (0 : Int))) (d := true) rfl (fun v w h => h), fun h w => optUndef h, fun zβ za zw zc => ?_⟩, ?_⟩
    · exact ld_61 rfl ((show za.eval (.tmp 7) = za.tmps.getD 7 undef from rfl).trans (optVal (zc.dep 4 7 (by kernel_rfl)) rfl zβ)) (bkeeps zc.below _ _ ((hB4.cell 1).trans rfl)) ⟨_, rfl, Below.refl _ _, optDef zβ rfl⟩
    refine ⟨⟨(true && ((t.f : Int) == (0 : Int))), .yes (c := ((t.f : Int) == (0 : Int))) (d := true) rfl (fun v w h => h), fun h w => optUndef h, fun zβ za zw zc => ?_⟩, ?_⟩
    · exact len_61 rfl ((show za.eval (.tmp 8) = za.tmps.getD 8 undef from rfl).trans (optVal (zc.dep 5 8 (by kernel_rfl)) rfl zβ)) ⟨_, rfl, Below.refl _ _, optDef zβ rfl⟩
    refine ⟨⟨(true && ((t.f : Int) == (0 : Int))), .yes (c := ((t.f : Int) == (0 : Int))) (d := true) rfl (fun v w h => h), fun h w => optUndef h, fun zβ za zw zc => ?_⟩, ?_⟩
    · exact eql_3 rfl ((show za.eval (.tmp 9) = za.tmps.getD 9 undef from rfl).trans (optVal (zc.dep 6 9 (by kernel_rfl)) rfl zβ)) (zc.kn.ev rfl) ⟨_, rfl, Below.refl _ _, optDef zβ rfl⟩
    refine ⟨⟨true, .none rfl, fun h w => optUndef h, fun zβ za zw zc => ?_⟩, ?_⟩
    · exact wp_and rfl ((show za.eval (.tmp 6) = za.tmps.getD 6 undef from rfl).trans (optVal (zc.dep 3 6 (by kernel_rfl)) rfl rfl)) (fun hp => ((show za.eval (.tmp 10) = za.tmps.getD 10 undef from rfl).trans (optVal (zc.dep 7 10 (by kernel_rfl)) rfl (bMk zβ hp)))) ⟨_, rfl, Below.refl _ _, optDef zβ rfl⟩
    refine ⟨⟨true, .none rfl, fun h w => optUndef h, fun zβ za zw zc => ?_⟩, ?_⟩
    · exact wp_assign rfl ((show za.eval (.tmp 11) = za.tmps.getD 11 undef from rfl).trans (optVal (zc.dep 8 11 (by kernel_rfl)) rfl rfl)) ⟨_, rfl, Below.refl _ _, optDef zβ rfl⟩
    exact trivial
  · intro za w8 zh hb9 zu
    have zh := zh.cons (d := 2) (v := .bool ((((t.f : Int) == (0 : Int)) && ((((t.args.length : Nat) : Int) : Int) == (0 : Int))))) (optVal (zu 9 2 (by kernel_rfl)) rfl rfl)
    clear zu
    refine (show WE _ [(0, .agg #[.int .i64 t.f, .slice a t.args.length c]), (1, .pointer (some ⟨g2, 0, none⟩)), (2, .bool ((((t.f : Int) == (0 : Int)) && ((((t.args.length : Nat) : Int) : Int) == (0 : Int)))))] w8 _ .normal from ?_) za (zh.sub ⟨rfl, rfl, rfl, trivial⟩)
    refine WE.next ?_
    refine WC.ret ?_
    refine WE.ret1 rfl rfl ?_
    have hb10 : Below w.heap.size w w8 := (bstep hb5 hb9)
    refine ⟨_, rfl, congrArg Value.bool ?_, hb10⟩
    rw [Bool.eq_iff_iff, T.isTrue_iff]; simp

set_option maxRecDepth 100000 in
theorem rtrue_any (t : T) (w : World) (v : Value) (hv : IsT w t v) : Calls Try.prog 23 #[v] w (Ret fun v' w' => v' = .bool t.isTrue ∧ Below w.heap.size w w') := by
  obtain ⟨hf, a, c, rfl, _, _, _⟩ := hv.form
  refine Calls.walk (l := [.agg #[.int .i64 t.f, .slice a t.args.length c]]) Try.func23 rfl (by kernel_rfl) ?_
  refine WC.sub (K' := [(0, .agg #[.int .i64 t.f, .slice a t.args.length c])]) ⟨rfl, trivial⟩ ?_
  refine WC.seq ?_
  refine WC.region ?_
  refine WL.step (post := NewBlk w 63 #[.int .i64 t.f, .slice a t.args.length c]) rfl rfl rfl (fun za zC zh zk => box_63 rfl (zh.ev rfl) (zk _ _ (newBlk _ _ _))) ?_
  rintro _ w1 ⟨g2, rfl, hg3, hB4, hb5, hz6⟩
  have hl7 : w.heap.size ≤ g2 := by omega
  refine WL.val (.bool false) rfl rfl rfl (fun za zC zh zk => wp_assign rfl (zh.ev rfl) zk) ?_
  refine WL.nil (WE.sub (K' := [(0, .agg #[.int .i64 t.f, .slice a t.args.length c]), (1, .pointer (some ⟨g2, 0, none⟩)), (2, .bool false)]) ⟨rfl, rfl, rfl, trivial⟩ ?_)
  refine WE.next ?_
  refine WC.seq ?_
  refine WC.opt [(true, .val (.pointer (some ⟨g2, 0, none⟩))), (true, .val (.int .i64 t.f)), (true, .val (.bool (((t.f : Int) == (0 : Int))))), (true, .val (.bool (((t.f : Int) == (0 : Int))))), ((true && ((t.f : Int) == (0 : Int))), .val (.pointer (some ⟨g2, 1, none⟩))), ((true && ((t.f : Int) == (0 : Int))), .val (.slice a t.args.length c)), ((true && ((t.f : Int) == (0 : Int))), .val (.int .i64 (((t.args.length : Nat) : Int)))), ((true && ((t.f : Int) == (0 : Int))), .val (.bool (((((t.args.length : Nat) : Int) : Int) == (0 : Int))))), (true, .val (.bool ((((t.f : Int) == (0 : Int)) && ((((t.args.length : Nat) : Int) : Int) == (0 : Int)))))), (true, .val (.bool ((((t.f : Int) == (0 : Int)) && ((((t.args.length : Nat) : Int) : Int) == (0 : Int))))))] [(0, .agg #[.int .i64 t.f, .slice a t.args.length c]), (1, .pointer (some ⟨g2, 0, none⟩))] ⟨rfl, rfl, trivial⟩ (by kernel_rfl) (by kernel_rfl) (by kernel_rfl) ?_ ?_
  · refine ⟨⟨true, .none rfl, fun h w => optUndef h, fun zβ za zw zc => ?_⟩, ?_⟩
    · exact fld_63_0 rfl (zc.kn.ev rfl) ⟨_, rfl, Below.refl _ _, optDef zβ rfl⟩
    refine ⟨⟨true, .none rfl, fun h w => optUndef h, fun zβ za zw zc => ?_⟩, ?_⟩
    · exact ld_3 rfl ((show za.eval (.tmp 3) = za.tmps.getD 3 undef from rfl).trans (optVal (zc.dep 0 3 (by kernel_rfl)) rfl rfl)) (bkeeps zc.below _ _ ((hB4.cell 0).trans rfl)) ⟨_, rfl, Below.refl _ _, optDef zβ rfl⟩
    refine ⟨⟨true, .none rfl, fun h w => optUndef h, fun zβ za zw zc => ?_⟩, ?_⟩
    · exact eql_3 rfl ((show za.eval (.tmp 4) = za.tmps.getD 4 undef from rfl).trans (optVal (zc.dep 1 4 (by kernel_rfl)) rfl rfl)) (zc.kn.ev rfl) ⟨_, rfl, Below.refl _ _, optDef zβ rfl⟩
    refine ⟨⟨true, .none rfl, fun h w => optUndef h, fun zβ za zw zc => ?_⟩, ?_⟩
    · exact wp_move rfl ((show za.eval (.tmp 5) = za.tmps.getD 5 undef from rfl).trans (optVal (zc.dep 2 5 (by kernel_rfl)) rfl rfl)) ⟨_, rfl, Below.refl _ _, optDef zβ rfl⟩
    refine ⟨⟨(true && ((t.f : Int) == (0 : Int))), .yes (c := ((t.f : Int) == (0 : Int))) (d := true) rfl (fun v w h => h), fun h w => optUndef h, fun zβ za zw zc => ?_⟩, ?_⟩
    · exact fld_63_1 rfl (zc.kn.ev rfl) ⟨_, rfl, Below.refl _ _, optDef zβ rfl⟩
    refine ⟨⟨(true && ((t.f : Int) == (0 : Int))), .yes (c := ((t.f : Int) == (0 : Int))) (d := true) rfl (fun v w h => h), fun h w => optUndef h, fun zβ za zw zc => ?_⟩, ?_⟩
    · exact ld_61 rfl ((show za.eval (.tmp 7) = za.tmps.getD 7 undef from rfl).trans (optVal (zc.dep 4 7 (by kernel_rfl)) rfl zβ)) (bkeeps zc.below _ _ ((hB4.cell 1).trans rfl)) ⟨_, rfl, Below.refl _ _, optDef zβ rfl⟩
    refine ⟨⟨(true && ((t.f : Int) == (0 : Int))), .yes (c := ((t.f : Int) == (0 : Int))) (d := true) rfl (fun v w h => h), fun h w => optUndef h, fun zβ za zw zc => ?_⟩, ?_⟩
    · exact len_61 rfl ((show za.eval (.tmp 8) = za.tmps.getD 8 undef from rfl).trans (optVal (zc.dep 5 8 (by kernel_rfl)) rfl zβ)) ⟨_, rfl, Below.refl _ _, optDef zβ rfl⟩
    refine ⟨⟨(true && ((t.f : Int) == (0 : Int))), .yes (c := ((t.f : Int) == (0 : Int))) (d := true) rfl (fun v w h => h), fun h w => optUndef h, fun zβ za zw zc => ?_⟩, ?_⟩
    · exact eql_3 rfl ((show za.eval (.tmp 9) = za.tmps.getD 9 undef from rfl).trans (optVal (zc.dep 6 9 (by kernel_rfl)) rfl zβ)) (zc.kn.ev rfl) ⟨_, rfl, Below.refl _ _, optDef zβ rfl⟩
    refine ⟨⟨true, .none rfl, fun h w => optUndef h, fun zβ za zw zc => ?_⟩, ?_⟩
    · exact wp_and rfl ((show za.eval (.tmp 6) = za.tmps.getD 6 undef from rfl).trans (optVal (zc.dep 3 6 (by kernel_rfl)) rfl rfl)) (fun hp => ((show za.eval (.tmp 10) = za.tmps.getD 10 undef from rfl).trans (optVal (zc.dep 7 10 (by kernel_rfl)) rfl (bMk zβ hp)))) ⟨_, rfl, Below.refl _ _, optDef zβ rfl⟩
    refine ⟨⟨true, .none rfl, fun h w => optUndef h, fun zβ za zw zc => ?_⟩, ?_⟩
    · exact wp_assign rfl ((show za.eval (.tmp 11) = za.tmps.getD 11 undef from rfl).trans (optVal (zc.dep 8 11 (by kernel_rfl)) rfl rfl)) ⟨_, rfl, Below.refl _ _, optDef zβ rfl⟩
    exact trivial
  · intro za w8 zh hb9 zu
    have zh := zh.cons (d := 2) (v := .bool ((((t.f : Int) == (0 : Int)) && ((((t.args.length : Nat) : Int) : Int) == (0 : Int))))) (optVal (zu 9 2 (by kernel_rfl)) rfl rfl)
    clear zu
    refine (show WE _ [(0, .agg #[.int .i64 t.f, .slice a t.args.length c]), (1, .pointer (some ⟨g2, 0, none⟩)), (2, .bool ((((t.f : Int) == (0 : Int)) && ((((t.args.length : Nat) : Int) : Int) == (0 : Int)))))] w8 _ .normal from ?_) za (zh.sub ⟨rfl, rfl, rfl, trivial⟩)
    refine WE.next ?_
    refine WC.ret ?_
    refine WE.ret1 rfl rfl ?_
    have hb10 : Below w.heap.size w w8 := (bstep hb5 hb9)
    refine ⟨_, rfl, congrArg Value.bool ?_, hb10⟩
    rw [Bool.eq_iff_iff, T.isTrue_iff]; simp

set_option maxRecDepth 100000 in
theorem rweight_any : ∀ (t : T) (w : World) (v : Value), t.size ≤ 4294967296 → IsT w t v → Calls Try.prog 22 #[v] w (Ret fun v' w' => v' = .int .i64 (t.wgt : Int) ∧ Below w.heap.size w w') := by
  refine T.ind (fun f l ih => ?_)
  intro w v hz hv
  have hv0 := hv
  have hlen := len_le_sizeL2 l
  have hz' := hz
  simp only [T.size] at hz'
  obtain ⟨hf, a, c, rfl, hc, hm, hl⟩ := hv
  have hf' := hf
  unfold I64 at hf'
  refine Calls.walk (l := [.agg #[.int .i64 f, .slice a l.length c]]) Try.func22 rfl (by kernel_rfl) ?_
  refine WC.sub (K' := [(0, .agg #[.int .i64 f, .slice a l.length c])]) ⟨rfl, trivial⟩ ?_
  refine WC.seq ?_
  refine WC.region ?_
  refine WL.step (post := NewBlk w 63 #[.int .i64 f, .slice a l.length c]) rfl rfl rfl (fun za zC zh zk => box_63 rfl (zh.ev rfl) (zk _ _ (newBlk _ _ _))) ?_
  rintro _ w1 ⟨g2, rfl, hg3, hB4, hb5, hz6⟩
  have hl7 : w.heap.size ≤ g2 := by omega
  refine WL.val (.int .i64 0) rfl rfl rfl (fun za zC zh zk => wp_assign rfl (zh.ev rfl) zk) ?_
  refine WL.nil (WE.sub (K' := [(0, .agg #[.int .i64 f, .slice a l.length c]), (1, .pointer (some ⟨g2, 0, none⟩)), (2, .int .i64 0)]) ⟨rfl, rfl, rfl, trivial⟩ ?_)
  refine WE.next ?_
  refine WC.seq ?_
  refine WC.region ?_
  refine WL.val (.int .i64 2) rfl rfl rfl (fun za zC zh zk => wp_assign rfl (zh.ev rfl) zk) ?_
  refine WL.nil (WE.sub (K' := [(0, .agg #[.int .i64 f, .slice a l.length c]), (1, .pointer (some ⟨g2, 0, none⟩)), (2, .int .i64 0), (3, .int .i64 2)]) ⟨rfl, rfl, rfl, rfl, trivial⟩ ?_)
  refine WE.next ?_
  refine WC.seq ?_
  refine WC.seq ?_
  refine WC.region ?_
  refine WL.val (.pointer (some ⟨g2, 0, none⟩)) rfl rfl rfl (fun za zC zh zk => fld_63_0 rfl (zh.ev rfl) zk) ?_
  refine WL.val (.int .i64 f) rfl rfl rfl (fun za zC zh zk => ld_3 rfl (zh.ev rfl) ((hB4.cell 0).trans rfl) zk) ?_
  refine WL.val (.bool ((decide ((f : Int) < (0 : Int))))) rfl rfl rfl (fun za zC zh zk => lss_3 rfl (zh.ev rfl) (zh.ev rfl) zk) ?_
  refine WL.nil (WE.sub (K' := [(0, .agg #[.int .i64 f, .slice a l.length c]), (1, .pointer (some ⟨g2, 0, none⟩)), (2, .int .i64 0), (3, .int .i64 2), (7, .bool ((decide ((f : Int) < (0 : Int)))))]) ⟨rfl, rfl, rfl, rfl, rfl, trivial⟩ ?_)
  refine WE.next ?_
  refine WC.cond rfl (fun h8 => ?_) (fun h8 => ?_)
  · have h8 : (f : Int) < (0 : Int) := by simpa using h8
    refine WC.region ?_
    refine WL.val (.int .i64 1) rfl rfl rfl (fun za zC zh zk => wp_assign rfl (zh.ev rfl) zk) ?_
    refine WL.nil (WE.sub (K' := [(0, .agg #[.int .i64 f, .slice a l.length c]), (1, .pointer (some ⟨g2, 0, none⟩)), (2, .int .i64 0), (3, .int .i64 1), (7, .bool ((decide ((f : Int) < (0 : Int)))))]) ⟨rfl, rfl, rfl, rfl, rfl, trivial⟩ ?_)
    refine WE.next ?_
    refine WC.seq ?_
    refine WC.seq ?_
    refine WC.region ?_
    refine WL.val (.int .i64 0) rfl rfl rfl (fun za zC zh zk => wp_assign rfl (zh.ev rfl) zk) ?_
    refine WL.nil (WE.sub (K' := [(0, .agg #[.int .i64 f, .slice a l.length c]), (1, .pointer (some ⟨g2, 0, none⟩)), (2, .int .i64 0), (3, .int .i64 1), (4, .int .i64 0), (7, .bool ((decide ((f : Int) < (0 : Int)))))]) ⟨rfl, rfl, rfl, rfl, rfl, rfl, trivial⟩ ?_)
    refine WE.next ?_
    refine WC.block ?_
    have hb0 : (if f < 0 then 1 else 2) = (1 : Nat) := if_pos h8
    refine WC.loop (X := Nat) (fun k => l.length - k) (fun k => [(0, .agg #[.int .i64 f, .slice a l.length c]), (1, .pointer (some ⟨g2, 0, none⟩)), (2, .int .i64 0), (3, .int .i64 ((((1 + T.wgtL (l.take k)) : Nat) : Int))), (4, .int .i64 (((k : Nat) : Int))), (7, .bool ((decide ((f : Int) < (0 : Int)))))]) (fun k w9 => k ≤ l.length ∧ Below w.heap.size w w9 ∧ Blk w9 g2 63 #[.int .i64 f, .slice a l.length c]) 0 ⟨rfl, rfl, rfl, rfl, rfl, rfl, trivial⟩ ?_ ?_
    · exact ⟨Nat.zero_le _, hb5, hB4⟩
    · rintro k w9 ⟨hk, hb10, hB11⟩
      refine WC.seq ?_
      refine WC.seq ?_
      refine WC.region ?_
      refine WL.val (.int .i64 (((k : Nat) : Int))) rfl rfl rfl (fun za zC zh zk => wp_move rfl (zh.ev rfl) zk) ?_
      refine WL.val (.pointer (some ⟨g2, 1, none⟩)) rfl rfl rfl (fun za zC zh zk => fld_63_1 rfl (zh.ev rfl) zk) ?_
      refine WL.val (.slice a l.length c) rfl rfl rfl (fun za zC zh zk => ld_61 rfl (zh.ev rfl) ((hB11.cell 1).trans rfl) zk) ?_
      refine WL.val (.int .i64 (((l.length : Nat) : Int))) rfl rfl rfl (fun za zC zh zk => len_61 rfl (zh.ev rfl) zk) ?_
      refine WL.val (.bool ((decide ((((k : Nat) : Int) : Int) < (((l.length : Nat) : Int) : Int))))) rfl rfl rfl (fun za zC zh zk => lss_3 rfl (zh.ev rfl) (zh.ev rfl) zk) ?_
      refine WL.nil (WE.sub (K' := [(0, .agg #[.int .i64 f, .slice a l.length c]), (1, .pointer (some ⟨g2, 0, none⟩)), (2, .int .i64 0), (3, .int .i64 ((((1 + T.wgtL (l.take k)) : Nat) : Int))), (4, .int .i64 (((k : Nat) : Int))), (7, .bool ((decide ((f : Int) < (0 : Int))))), (12, .bool ((decide ((((k : Nat) : Int) : Int) < (((l.length : Nat) : Int) : Int)))))]) ⟨rfl, rfl, rfl, rfl, rfl, rfl, rfl, trivial⟩ ?_)
      refine WE.next ?_
      refine WC.cond rfl (fun h12 => ?_) (fun h12 => ?_)
      · have h12 : (((k : Nat) : Int) : Int) < (((l.length : Nat) : Int) : Int) := by simpa using h12
        refine WC.skip ?_
        refine WE.next ?_
        refine WC.seq ?_
        refine WC.block ?_
        refine WC.region ?_
        refine WL.val (.int .i64 ((((1 + T.wgtL (l.take k)) : Nat) : Int))) rfl rfl rfl (fun za zC zh zk => wp_move rfl (zh.ev rfl) zk) ?_
        refine WL.val (.pointer (some ⟨g2, 1, none⟩)) rfl rfl rfl (fun za zC zh zk => fld_63_1 rfl (zh.ev rfl) zk) ?_
        refine WL.val (.slice a l.length c) rfl rfl rfl (fun za zC zh zk => ld_61 rfl (zh.ev rfl) ((hB11.cell 1).trans rfl) zk) ?_
        refine WL.val (.int .i64 (((k : Nat) : Int))) rfl rfl rfl (fun za zC zh zk => wp_move rfl (zh.ev rfl) zk) ?_
        obtain ⟨b13, o14, A15, C16, ha17, hc18⟩ := IsTs.open hl
        refine WL.val (.pointer (some ⟨b13, o14 + k * 2, none⟩)) rfl rfl rfl (fun za zC zh zk => ix_61 (k := k) rfl (zh.ev rfl) (ha17 k (by first | omega | (simp; omega))) (zh.ev rfl) (by first | omega | (simp; omega)) zk) ?_
        refine WL.val (.agg #[.int .i64 ((tget l k).f), .slice ((A15 k)) ((tget l k).args.length) ((C16 k))]) rfl rfl rfl (fun za zC zh zk => ld_63 rfl (zh.ev rfl) (bkeeps hb10 _ _ (hc18 k (by first | omega | (simp; omega))).1) (bkeeps hb10 _ _ (hc18 k (by first | omega | (simp; omega))).2.1) zk) ?_
        refine WL.call rfl rfl rfl (fun za zh zC => wp_call (by kernel_rfl) rfl (hv1 (zh.ev rfl))) (ih _ (tget_mem (by omega)) _ _ (size_at2 (by omega) hz) (IsT.below hb10 (hc18 k (by first | omega | (simp; omega))).2.2)) ?_
        rintro _ w20 ⟨rfl, hq19⟩
        refine WL.val (.int .i64 ((((1 + T.wgtL (l.take (k + 1))) : Nat) : Int))) rfl rfl rfl (fun za zC zh zk => addb_3 rfl (zh.ev rfl) (zh.ev rfl) (wrap_eq (by have z := T.wgtL_take (l := l) (k := k) (by omega); omega) (by omega) (by have z := T.wgtL_take_le l (k + 1); omega)) zk) ?_
        refine WL.val (.int .i64 ((((1 + T.wgtL (l.take (k + 1))) : Nat) : Int))) rfl rfl rfl (fun za zC zh zk => wp_assign rfl (zh.ev rfl) zk) ?_
        refine WL.nil (WE.sub (K' := [(0, .agg #[.int .i64 f, .slice a l.length c]), (1, .pointer (some ⟨g2, 0, none⟩)), (2, .int .i64 0), (3, .int .i64 ((((1 + T.wgtL (l.take (k + 1))) : Nat) : Int))), (4, .int .i64 (((k : Nat) : Int))), (7, .bool ((decide ((f : Int) < (0 : Int))))), (12, .bool ((decide ((((k : Nat) : Int) : Int) < (((l.length : Nat) : Int) : Int)))))]) ⟨rfl, rfl, rfl, rfl, rfl, rfl, rfl, trivial⟩ ?_)
        refine WE.blockNormal ?_
        refine WE.next ?_
        refine WC.region ?_
        refine WL.val (.int .i64 (((k : Nat) : Int))) rfl rfl rfl (fun za zC zh zk => wp_move rfl (zh.ev rfl) zk) ?_
        refine WL.val (.int .i64 ((((k + 1) : Nat) : Int))) rfl rfl rfl (fun za zC zh zk => addb_3 rfl (zh.ev rfl) (zh.ev rfl) (wrap_eq (by omega) (by omega) (by omega)) zk) ?_
        refine WL.val (.int .i64 ((((k + 1) : Nat) : Int))) rfl rfl rfl (fun za zC zh zk => wp_assign rfl (zh.ev rfl) zk) ?_
        refine WL.nil (WE.sub (K' := [(0, .agg #[.int .i64 f, .slice a l.length c]), (1, .pointer (some ⟨g2, 0, none⟩)), (2, .int .i64 0), (3, .int .i64 ((((1 + T.wgtL (l.take (k + 1))) : Nat) : Int))), (4, .int .i64 ((((k + 1) : Nat) : Int))), (7, .bool ((decide ((f : Int) < (0 : Int))))), (12, .bool ((decide ((((k : Nat) : Int) : Int) < (((l.length : Nat) : Int) : Int)))))]) ⟨rfl, rfl, rfl, rfl, rfl, rfl, rfl, trivial⟩ ?_)
        refine WE.round (k + 1) ⟨rfl, rfl, rfl, rfl, rfl, rfl, trivial⟩ ?_ ?_
        · have hb21 : Below w.heap.size w w20 := (bstep hb10 hq19)
          have hB22 := hB11.below hq19
          exact ⟨by omega, hb21, hB22⟩
        · omega
      · have h12 : ¬ ((((k : Nat) : Int) : Int) < (((l.length : Nat) : Int) : Int)) := by simpa using h12
        refine WC.exit ?_
        refine WE.thenExit ?_
        refine WE.thenExit ?_
        refine WE.blockIs rfl ?_
        refine WE.next ?_
        refine WC.seq ?_
        refine WC.region ?_
        refine WL.val (.int .i64 ((((1 + T.wgtL (l.take k)) : Nat) : Int))) rfl rfl rfl (fun za zC zh zk => wp_move rfl (zh.ev rfl) zk) ?_
        refine WL.val (.int .i64 ((((1 + T.wgtL (l.take k)) : Nat) : Int))) rfl rfl rfl (fun za zC zh zk => wp_assign rfl (zh.ev rfl) zk) ?_
        refine WL.nil (WE.sub (K' := [(0, .agg #[.int .i64 f, .slice a l.length c]), (1, .pointer (some ⟨g2, 0, none⟩)), (2, .int .i64 ((((1 + T.wgtL (l.take k)) : Nat) : Int))), (3, .int .i64 ((((1 + T.wgtL (l.take k)) : Nat) : Int))), (4, .int .i64 (((k : Nat) : Int))), (7, .bool ((decide ((f : Int) < (0 : Int))))), (12, .bool ((decide ((((k : Nat) : Int) : Int) < (((l.length : Nat) : Int) : Int)))))]) ⟨rfl, rfl, rfl, rfl, rfl, rfl, rfl, trivial⟩ ?_)
        refine WE.next ?_
        refine WC.ret ?_
        refine WE.ret1 rfl rfl ?_
        refine ⟨_, rfl, ?_, hb10⟩
        rw [List.take_of_length_le (show l.length ≤ k by omega), T.wgt, hb0]
  · have h8 : ¬ ((f : Int) < (0 : Int)) := by simpa using h8
    refine WC.skip ?_
    refine WE.next ?_
    refine WC.seq ?_
    refine WC.seq ?_
    refine WC.region ?_
    refine WL.val (.int .i64 0) rfl rfl rfl (fun za zC zh zk => wp_assign rfl (zh.ev rfl) zk) ?_
    refine WL.nil (WE.sub (K' := [(0, .agg #[.int .i64 f, .slice a l.length c]), (1, .pointer (some ⟨g2, 0, none⟩)), (2, .int .i64 0), (3, .int .i64 2), (4, .int .i64 0), (7, .bool ((decide ((f : Int) < (0 : Int)))))]) ⟨rfl, rfl, rfl, rfl, rfl, rfl, trivial⟩ ?_)
    refine WE.next ?_
    refine WC.block ?_
    have hb0 : (if f < 0 then 1 else 2) = (2 : Nat) := if_neg h8
    refine WC.loop (X := Nat) (fun k => l.length - k) (fun k => [(0, .agg #[.int .i64 f, .slice a l.length c]), (1, .pointer (some ⟨g2, 0, none⟩)), (2, .int .i64 0), (3, .int .i64 ((((2 + T.wgtL (l.take k)) : Nat) : Int))), (4, .int .i64 (((k : Nat) : Int))), (7, .bool ((decide ((f : Int) < (0 : Int)))))]) (fun k w23 => k ≤ l.length ∧ Below w.heap.size w w23 ∧ Blk w23 g2 63 #[.int .i64 f, .slice a l.length c]) 0 ⟨rfl, rfl, rfl, rfl, rfl, rfl, trivial⟩ ?_ ?_
    · exact ⟨Nat.zero_le _, hb5, hB4⟩
    · rintro k w23 ⟨hk, hb24, hB25⟩
      refine WC.seq ?_
      refine WC.seq ?_
      refine WC.region ?_
      refine WL.val (.int .i64 (((k : Nat) : Int))) rfl rfl rfl (fun za zC zh zk => wp_move rfl (zh.ev rfl) zk) ?_
      refine WL.val (.pointer (some ⟨g2, 1, none⟩)) rfl rfl rfl (fun za zC zh zk => fld_63_1 rfl (zh.ev rfl) zk) ?_
      refine WL.val (.slice a l.length c) rfl rfl rfl (fun za zC zh zk => ld_61 rfl (zh.ev rfl) ((hB25.cell 1).trans rfl) zk) ?_
      refine WL.val (.int .i64 (((l.length : Nat) : Int))) rfl rfl rfl (fun za zC zh zk => len_61 rfl (zh.ev rfl) zk) ?_
      refine WL.val (.bool ((decide ((((k : Nat) : Int) : Int) < (((l.length : Nat) : Int) : Int))))) rfl rfl rfl (fun za zC zh zk => lss_3 rfl (zh.ev rfl) (zh.ev rfl) zk) ?_
      refine WL.nil (WE.sub (K' := [(0, .agg #[.int .i64 f, .slice a l.length c]), (1, .pointer (some ⟨g2, 0, none⟩)), (2, .int .i64 0), (3, .int .i64 ((((2 + T.wgtL (l.take k)) : Nat) : Int))), (4, .int .i64 (((k : Nat) : Int))), (7, .bool ((decide ((f : Int) < (0 : Int))))), (12, .bool ((decide ((((k : Nat) : Int) : Int) < (((l.length : Nat) : Int) : Int)))))]) ⟨rfl, rfl, rfl, rfl, rfl, rfl, rfl, trivial⟩ ?_)
      refine WE.next ?_
      refine WC.cond rfl (fun h26 => ?_) (fun h26 => ?_)
      · have h26 : (((k : Nat) : Int) : Int) < (((l.length : Nat) : Int) : Int) := by simpa using h26
        refine WC.skip ?_
        refine WE.next ?_
        refine WC.seq ?_
        refine WC.block ?_
        refine WC.region ?_
        refine WL.val (.int .i64 ((((2 + T.wgtL (l.take k)) : Nat) : Int))) rfl rfl rfl (fun za zC zh zk => wp_move rfl (zh.ev rfl) zk) ?_
        refine WL.val (.pointer (some ⟨g2, 1, none⟩)) rfl rfl rfl (fun za zC zh zk => fld_63_1 rfl (zh.ev rfl) zk) ?_
        refine WL.val (.slice a l.length c) rfl rfl rfl (fun za zC zh zk => ld_61 rfl (zh.ev rfl) ((hB25.cell 1).trans rfl) zk) ?_
        refine WL.val (.int .i64 (((k : Nat) : Int))) rfl rfl rfl (fun za zC zh zk => wp_move rfl (zh.ev rfl) zk) ?_
        obtain ⟨b27, o28, A29, C30, ha31, hc32⟩ := IsTs.open hl
        refine WL.val (.pointer (some ⟨b27, o28 + k * 2, none⟩)) rfl rfl rfl (fun za zC zh zk => ix_61 (k := k) rfl (zh.ev rfl) (ha31 k (by first | omega | (simp; omega))) (zh.ev rfl) (by first | omega | (simp; omega)) zk) ?_
        refine WL.val (.agg #[.int .i64 ((tget l k).f), .slice ((A29 k)) ((tget l k).args.length) ((C30 k))]) rfl rfl rfl (fun za zC zh zk => ld_63 rfl (zh.ev rfl) (bkeeps hb24 _ _ (hc32 k (by first | omega | (simp; omega))).1) (bkeeps hb24 _ _ (hc32 k (by first | omega | (simp; omega))).2.1) zk) ?_
        refine WL.call rfl rfl rfl (fun za zh zC => wp_call (by kernel_rfl) rfl (hv1 (zh.ev rfl))) (ih _ (tget_mem (by omega)) _ _ (size_at2 (by omega) hz) (IsT.below hb24 (hc32 k (by first | omega | (simp; omega))).2.2)) ?_
        rintro _ w34 ⟨rfl, hq33⟩
        refine WL.val (.int .i64 ((((2 + T.wgtL (l.take (k + 1))) : Nat) : Int))) rfl rfl rfl (fun za zC zh zk => addb_3 rfl (zh.ev rfl) (zh.ev rfl) (wrap_eq (by have z := T.wgtL_take (l := l) (k := k) (by omega); omega) (by omega) (by have z := T.wgtL_take_le l (k + 1); omega)) zk) ?_
        refine WL.val (.int .i64 ((((2 + T.wgtL (l.take (k + 1))) : Nat) : Int))) rfl rfl rfl (fun za zC zh zk => wp_assign rfl (zh.ev rfl) zk) ?_
        refine WL.nil (WE.sub (K' := [(0, .agg #[.int .i64 f, .slice a l.length c]), (1, .pointer (some ⟨g2, 0, none⟩)), (2, .int .i64 0), (3, .int .i64 ((((2 + T.wgtL (l.take (k + 1))) : Nat) : Int))), (4, .int .i64 (((k : Nat) : Int))), (7, .bool ((decide ((f : Int) < (0 : Int))))), (12, .bool ((decide ((((k : Nat) : Int) : Int) < (((l.length : Nat) : Int) : Int)))))]) ⟨rfl, rfl, rfl, rfl, rfl, rfl, rfl, trivial⟩ ?_)
        refine WE.blockNormal ?_
        refine WE.next ?_
        refine WC.region ?_
        refine WL.val (.int .i64 (((k : Nat) : Int))) rfl rfl rfl (fun za zC zh zk => wp_move rfl (zh.ev rfl) zk) ?_
        refine WL.val (.int .i64 ((((k + 1) : Nat) : Int))) rfl rfl rfl (fun za zC zh zk => addb_3 rfl (zh.ev rfl) (zh.ev rfl) (wrap_eq (by omega) (by omega) (by omega)) zk) ?_
        refine WL.val (.int .i64 ((((k + 1) : Nat) : Int))) rfl rfl rfl (fun za zC zh zk => wp_assign rfl (zh.ev rfl) zk) ?_
        refine WL.nil (WE.sub (K' := [(0, .agg #[.int .i64 f, .slice a l.length c]), (1, .pointer (some ⟨g2, 0, none⟩)), (2, .int .i64 0), (3, .int .i64 ((((2 + T.wgtL (l.take (k + 1))) : Nat) : Int))), (4, .int .i64 ((((k + 1) : Nat) : Int))), (7, .bool ((decide ((f : Int) < (0 : Int))))), (12, .bool ((decide ((((k : Nat) : Int) : Int) < (((l.length : Nat) : Int) : Int)))))]) ⟨rfl, rfl, rfl, rfl, rfl, rfl, rfl, trivial⟩ ?_)
        refine WE.round (k + 1) ⟨rfl, rfl, rfl, rfl, rfl, rfl, trivial⟩ ?_ ?_
        · have hb35 : Below w.heap.size w w34 := (bstep hb24 hq33)
          have hB36 := hB25.below hq33
          exact ⟨by omega, hb35, hB36⟩
        · omega
      · have h26 : ¬ ((((k : Nat) : Int) : Int) < (((l.length : Nat) : Int) : Int)) := by simpa using h26
        refine WC.exit ?_
        refine WE.thenExit ?_
        refine WE.thenExit ?_
        refine WE.blockIs rfl ?_
        refine WE.next ?_
        refine WC.seq ?_
        refine WC.region ?_
        refine WL.val (.int .i64 ((((2 + T.wgtL (l.take k)) : Nat) : Int))) rfl rfl rfl (fun za zC zh zk => wp_move rfl (zh.ev rfl) zk) ?_
        refine WL.val (.int .i64 ((((2 + T.wgtL (l.take k)) : Nat) : Int))) rfl rfl rfl (fun za zC zh zk => wp_assign rfl (zh.ev rfl) zk) ?_
        refine WL.nil (WE.sub (K' := [(0, .agg #[.int .i64 f, .slice a l.length c]), (1, .pointer (some ⟨g2, 0, none⟩)), (2, .int .i64 ((((2 + T.wgtL (l.take k)) : Nat) : Int))), (3, .int .i64 ((((2 + T.wgtL (l.take k)) : Nat) : Int))), (4, .int .i64 (((k : Nat) : Int))), (7, .bool ((decide ((f : Int) < (0 : Int))))), (12, .bool ((decide ((((k : Nat) : Int) : Int) < (((l.length : Nat) : Int) : Int)))))]) ⟨rfl, rfl, rfl, rfl, rfl, rfl, rfl, trivial⟩ ?_)
        refine WE.next ?_
        refine WC.ret ?_
        refine WE.ret1 rfl rfl ?_
        refine ⟨_, rfl, ?_, hb24⟩
        rw [List.take_of_length_le (show l.length ≤ k by omega), T.wgt, hb0]

set_option maxRecDepth 100000 in
theorem weight_any : ∀ (t : T) (w : World) (pb po : Nat) (a : Option Addr) (c : Nat), t.size ≤ 4294967296 → w.cell? ⟨pb, po, none⟩ = some (.int .i64 t.f) → w.cell? ⟨pb, po + 1, none⟩ = some (.slice a t.args.length c) → IsT w t (.agg #[.int .i64 t.f, .slice a t.args.length c]) → Calls Try.prog 35 #[.pointer (some ⟨pb, po, none⟩)] w (Ret fun v' w' => v' = .int .i64 (t.wgt : Int) ∧ Below w.heap.size w w') := by
  refine T.ind (fun f l ih => ?_)
  intro w pb po a c hz hc0 hc1 hv
  have hlen := len_le_sizeL2 l
  have hz' := hz
  simp only [T.size] at hz'
  simp only [T.f_mk, T.args_mk] at hc0 hc1 hv ⊢
  have hrow := isT_row hv
  have hl := hrow.2.2.2
  refine Calls.walk (l := [.pointer (some ⟨pb, po, none⟩)]) Try.func35 rfl (by kernel_rfl) ?_
  refine WC.sub (K' := [(0, .pointer (some ⟨pb, po, none⟩))]) ⟨rfl, trivial⟩ ?_
  refine WC.seq ?_
  refine WC.region ?_
  refine WL.val (.int .i64 0) rfl rfl rfl (fun za zC zh zk => wp_assign rfl (zh.ev rfl) zk) ?_
  refine WL.nil (WE.sub (K' := [(0, .pointer (some ⟨pb, po, none⟩)), (2, .int .i64 0)]) ⟨rfl, rfl, trivial⟩ ?_)
  refine WE.next ?_
  refine WC.seq ?_
  refine WC.region ?_
  refine WL.val (.int .i64 2) rfl rfl rfl (fun za zC zh zk => wp_assign rfl (zh.ev rfl) zk) ?_
  refine WL.nil (WE.sub (K' := [(0, .pointer (some ⟨pb, po, none⟩)), (2, .int .i64 0), (3, .int .i64 2)]) ⟨rfl, rfl, rfl, trivial⟩ ?_)
  refine WE.next ?_
  refine WC.seq ?_
  refine WC.seq ?_
  refine WC.region ?_
  refine WL.val (.pointer (some ⟨pb, po, none⟩)) rfl rfl rfl (fun za zC zh zk => wp_move rfl (zh.ev rfl) zk) ?_
  refine WL.val (.pointer (some ⟨pb, po, none⟩)) rfl rfl rfl (fun za zC zh zk => nilCheck_ rfl (zh.ev rfl) zk) ?_
  refine WL.val (.pointer (some ⟨pb, po, none⟩)) rfl rfl rfl (fun za zC zh zk => fld_63_0 rfl (zh.ev rfl) zk) ?_
  refine WL.val (.int .i64 f) rfl rfl rfl (fun za zC zh zk => ld_3 rfl (zh.ev rfl) hc0 zk) ?_
  refine WL.val (.bool ((decide ((f : Int) < (0 : Int))))) rfl rfl rfl (fun za zC zh zk => lss_3 rfl (zh.ev rfl) (zh.ev rfl) zk) ?_
  refine WL.nil (WE.sub (K' := [(0, .pointer (some ⟨pb, po, none⟩)), (2, .int .i64 0), (3, .int .i64 2), (9, .bool ((decide ((f : Int) < (0 : Int)))))]) ⟨rfl, rfl, rfl, rfl, trivial⟩ ?_)
  refine WE.next ?_
  refine WC.cond rfl (fun h1 => ?_) (fun h1 => ?_)
  · have h1 : (f : Int) < (0 : Int) := by simpa using h1
    refine WC.region ?_
    refine WL.val (.int .i64 1) rfl rfl rfl (fun za zC zh zk => wp_assign rfl (zh.ev rfl) zk) ?_
    refine WL.nil (WE.sub (K' := [(0, .pointer (some ⟨pb, po, none⟩)), (2, .int .i64 0), (3, .int .i64 1), (9, .bool ((decide ((f : Int) < (0 : Int)))))]) ⟨rfl, rfl, rfl, rfl, trivial⟩ ?_)
    refine WE.next ?_
    refine WC.seq ?_
    refine WC.seq ?_
    refine WC.region ?_
    refine WL.val (.pointer (some ⟨pb, po, none⟩)) rfl rfl rfl (fun za zC zh zk => wp_move rfl (zh.ev rfl) zk) ?_
    refine WL.val (.pointer (some ⟨pb, po, none⟩)) rfl rfl rfl (fun za zC zh zk => nilCheck_ rfl (zh.ev rfl) zk) ?_
    refine WL.val (.pointer (some ⟨pb, po + 1, none⟩)) rfl rfl rfl (fun za zC zh zk => fld_63_1 rfl (zh.ev rfl) zk) ?_
    refine WL.val (.slice a l.length c) rfl rfl rfl (fun za zC zh zk => ld_61 rfl (zh.ev rfl) hc1 zk) ?_
    refine WL.val (.int .i64 (((l.length : Nat) : Int))) rfl rfl rfl (fun za zC zh zk => len_61 rfl (zh.ev rfl) zk) ?_
    refine WL.val (.int .i64 0) rfl rfl rfl (fun za zC zh zk => wp_move rfl (zh.ev rfl) zk) ?_
    refine WL.nil (WE.sub (K' := [(0, .pointer (some ⟨pb, po, none⟩)), (2, .int .i64 0), (3, .int .i64 1), (9, .bool ((decide ((f : Int) < (0 : Int))))), (14, .int .i64 (((l.length : Nat) : Int))), (15, .int .i64 0)]) ⟨rfl, rfl, rfl, rfl, rfl, rfl, trivial⟩ ?_)
    refine WE.next ?_
    refine WC.block ?_
    have hb0 : (if f < 0 then 1 else 2) = (1 : Nat) := if_pos h1
    refine WC.loop (X := Nat) (fun k => l.length - k) (fun k => [(0, .pointer (some ⟨pb, po, none⟩)), (2, .int .i64 0), (3, .int .i64 ((((1 + T.wgtL (l.take k)) : Nat) : Int))), (9, .bool ((decide ((f : Int) < (0 : Int))))), (14, .int .i64 (((l.length : Nat) : Int))), (15, .int .i64 (((k : Nat) : Int)))]) (fun k w2 => k ≤ l.length ∧ Below w.heap.size w w2) 0 ⟨rfl, rfl, rfl, rfl, rfl, rfl, trivial⟩ ?_ ?_
    · exact ⟨Nat.zero_le _, (Below.refl _ _)⟩
    · rintro k w2 ⟨hk, hb3⟩
      refine WC.seq ?_
      refine WC.region ?_
      refine WL.val (.bool ((decide ((((k : Nat) : Int) : Int) < (((l.length : Nat) : Int) : Int))))) rfl rfl rfl (fun za zC zh zk => lss_3 rfl (zh.ev rfl) (zh.ev rfl) zk) ?_
      refine WL.nil (WE.sub (K' := [(0, .pointer (some ⟨pb, po, none⟩)), (2, .int .i64 0), (3, .int .i64 ((((1 + T.wgtL (l.take k)) : Nat) : Int))), (9, .bool ((decide ((f : Int) < (0 : Int))))), (14, .int .i64 (((l.length : Nat) : Int))), (15, .int .i64 (((k : Nat) : Int))), (16, .bool ((decide ((((k : Nat) : Int) : Int) < (((l.length : Nat) : Int) : Int)))))]) ⟨rfl, rfl, rfl, rfl, rfl, rfl, rfl, trivial⟩ ?_)
      refine WE.next ?_
      refine WC.seq ?_
      refine WC.cond rfl (fun h4 => ?_) (fun h4 => ?_)
      · have h4 : (((k : Nat) : Int) : Int) < (((l.length : Nat) : Int) : Int) := by simpa using h4
        refine WC.skip ?_
        refine WE.next ?_
        refine WC.seq ?_
        refine WC.block ?_
        refine WC.seq ?_
        refine WC.region ?_
        refine WL.val (.int .i64 (((k : Nat) : Int))) rfl rfl rfl (fun za zC zh zk => wp_move rfl (zh.ev rfl) zk) ?_
        refine WL.val (.int .i64 (((k : Nat) : Int))) rfl rfl rfl (fun za zC zh zk => wp_assign rfl (zh.ev rfl) zk) ?_
        refine WL.nil (WE.sub (K' := [(0, .pointer (some ⟨pb, po, none⟩)), (2, .int .i64 0), (3, .int .i64 ((((1 + T.wgtL (l.take k)) : Nat) : Int))), (4, .int .i64 (((k : Nat) : Int))), (9, .bool ((decide ((f : Int) < (0 : Int))))), (14, .int .i64 (((l.length : Nat) : Int))), (15, .int .i64 (((k : Nat) : Int))), (16, .bool ((decide ((((k : Nat) : Int) : Int) < (((l.length : Nat) : Int) : Int)))))]) ⟨rfl, rfl, rfl, rfl, rfl, rfl, rfl, rfl, trivial⟩ ?_)
        refine WE.next ?_
        refine WC.region ?_
        refine WL.val (.int .i64 ((((1 + T.wgtL (l.take k)) : Nat) : Int))) rfl rfl rfl (fun za zC zh zk => wp_move rfl (zh.ev rfl) zk) ?_
        refine WL.val (.pointer (some ⟨pb, po, none⟩)) rfl rfl rfl (fun za zC zh zk => wp_move rfl (zh.ev rfl) zk) ?_
        refine WL.val (.pointer (some ⟨pb, po, none⟩)) rfl rfl rfl (fun za zC zh zk => nilCheck_ rfl (zh.ev rfl) zk) ?_
        refine WL.val (.pointer (some ⟨pb, po + 1, none⟩)) rfl rfl rfl (fun za zC zh zk => fld_63_1 rfl (zh.ev rfl) zk) ?_
        have hc5 := bkeeps hb3 _ _ hc1
        refine WL.val (.slice a l.length c) rfl rfl rfl (fun za zC zh zk => ld_61 rfl (zh.ev rfl) hc5 zk) ?_
        refine WL.val (.int .i64 (((k : Nat) : Int))) rfl rfl rfl (fun za zC zh zk => wp_move rfl (zh.ev rfl) zk) ?_
        obtain ⟨b6, o7, A8, C9, ha10, hc11⟩ := IsTs.open hl
        refine WL.val (.pointer (some ⟨b6, o7 + k * 2, none⟩)) rfl rfl rfl (fun za zC zh zk => ix_61 (k := k) rfl (zh.ev rfl) (ha10 k (by first | omega | (simp; omega))) (zh.ev rfl) (by first | omega | (simp; omega)) zk) ?_
        refine WL.call rfl rfl rfl (fun za zh zC => wp_call (by kernel_rfl) rfl (hv1 (zh.ev rfl))) ((ih _ (tget_mem (by omega)) _ b6 (o7 + k * 2) _ _ (size_at2 (by omega) hz) (bkeeps hb3 _ _ (hc11 k (by first | omega | (simp; omega))).1) (bkeeps hb3 _ _ (hc11 k (by first | omega | (simp; omega))).2.1) (IsT.below hb3 (hc11 k (by first | omega | (simp; omega))).2.2))) ?_
        rintro _ w13 ⟨rfl, hq12⟩
        refine WL.val (.int .i64 ((((1 + T.wgtL (l.take (k + 1))) : Nat) : Int))) rfl rfl rfl (fun za zC zh zk => addb_3 rfl (zh.ev rfl) (zh.ev rfl) (wrap_eq (by have z := T.wgtL_take (l := l) (k := k) (by omega); omega) (by omega) (by have z := T.wgtL_take_le l (k + 1); omega)) zk) ?_
        refine WL.val (.int .i64 ((((1 + T.wgtL (l.take (k + 1))) : Nat) : Int))) rfl rfl rfl (fun za zC zh zk => wp_assign rfl (zh.ev rfl) zk) ?_
        refine WL.nil (WE.sub (K' := [(0, .pointer (some ⟨pb, po, none⟩)), (2, .int .i64 0), (3, .int .i64 ((((1 + T.wgtL (l.take (k + 1))) : Nat) : Int))), (4, .int .i64 (((k : Nat) : Int))), (9, .bool ((decide ((f : Int) < (0 : Int))))), (14, .int .i64 (((l.length : Nat) : Int))), (15, .int .i64 (((k : Nat) : Int))), (16, .bool ((decide ((((k : Nat) : Int) : Int) < (((l.length : Nat) : Int) : Int)))))]) ⟨rfl, rfl, rfl, rfl, rfl, rfl, rfl, rfl, trivial⟩ ?_)
        refine WE.blockNormal ?_
        refine WE.next ?_
        refine WC.region ?_
        refine WL.val (.int .i64 ((((k + 1) : Nat) : Int))) rfl rfl rfl (fun za zC zh zk => addb_3 rfl (zh.ev rfl) (zh.ev rfl) (wrap_eq (by omega) (by omega) (by omega)) zk) ?_
        refine WL.val (.int .i64 ((((k + 1) : Nat) : Int))) rfl rfl rfl (fun za zC zh zk => wp_move rfl (zh.ev rfl) zk) ?_
        refine WL.nil (WE.sub (K' := [(0, .pointer (some ⟨pb, po, none⟩)), (2, .int .i64 0), (3, .int .i64 ((((1 + T.wgtL (l.take (k + 1))) : Nat) : Int))), (4, .int .i64 (((k : Nat) : Int))), (9, .bool ((decide ((f : Int) < (0 : Int))))), (14, .int .i64 (((l.length : Nat) : Int))), (15, .int .i64 ((((k + 1) : Nat) : Int))), (16, .bool ((decide ((((k : Nat) : Int) : Int) < (((l.length : Nat) : Int) : Int)))))]) ⟨rfl, rfl, rfl, rfl, rfl, rfl, rfl, rfl, trivial⟩ ?_)
        refine WE.round (k + 1) ⟨rfl, rfl, rfl, rfl, rfl, rfl, trivial⟩ ?_ ?_
        · have hb14 : Below w.heap.size w w13 := (bstep hb3 hq12)
          exact ⟨by omega, hb14⟩
        · omega
      · have h4 : ¬ ((((k : Nat) : Int) : Int) < (((l.length : Nat) : Int) : Int)) := by simpa using h4
        refine WC.exit ?_
        refine WE.thenExit ?_
        refine WE.thenExit ?_
        refine WE.blockIs rfl ?_
        refine WE.next ?_
        refine WC.seq ?_
        refine WC.region ?_
        refine WL.val (.int .i64 ((((1 + T.wgtL (l.take k)) : Nat) : Int))) rfl rfl rfl (fun za zC zh zk => wp_move rfl (zh.ev rfl) zk) ?_
        refine WL.val (.int .i64 ((((1 + T.wgtL (l.take k)) : Nat) : Int))) rfl rfl rfl (fun za zC zh zk => wp_assign rfl (zh.ev rfl) zk) ?_
        refine WL.nil (WE.sub (K' := [(0, .pointer (some ⟨pb, po, none⟩)), (2, .int .i64 ((((1 + T.wgtL (l.take k)) : Nat) : Int))), (3, .int .i64 ((((1 + T.wgtL (l.take k)) : Nat) : Int))), (9, .bool ((decide ((f : Int) < (0 : Int))))), (14, .int .i64 (((l.length : Nat) : Int))), (15, .int .i64 (((k : Nat) : Int))), (16, .bool ((decide ((((k : Nat) : Int) : Int) < (((l.length : Nat) : Int) : Int)))))]) ⟨rfl, rfl, rfl, rfl, rfl, rfl, rfl, trivial⟩ ?_)
        refine WE.next ?_
        refine WC.ret ?_
        refine WE.ret1 rfl rfl ?_
        refine ⟨_, rfl, ?_, hb3⟩
        rw [List.take_of_length_le (show l.length ≤ k by omega), T.wgt, hb0]
  · have h1 : ¬ ((f : Int) < (0 : Int)) := by simpa using h1
    refine WC.skip ?_
    refine WE.next ?_
    refine WC.seq ?_
    refine WC.seq ?_
    refine WC.region ?_
    refine WL.val (.pointer (some ⟨pb, po, none⟩)) rfl rfl rfl (fun za zC zh zk => wp_move rfl (zh.ev rfl) zk) ?_
    refine WL.val (.pointer (some ⟨pb, po, none⟩)) rfl rfl rfl (fun za zC zh zk => nilCheck_ rfl (zh.ev rfl) zk) ?_
    refine WL.val (.pointer (some ⟨pb, po + 1, none⟩)) rfl rfl rfl (fun za zC zh zk => fld_63_1 rfl (zh.ev rfl) zk) ?_
    refine WL.val (.slice a l.length c) rfl rfl rfl (fun za zC zh zk => ld_61 rfl (zh.ev rfl) hc1 zk) ?_
    refine WL.val (.int .i64 (((l.length : Nat) : Int))) rfl rfl rfl (fun za zC zh zk => len_61 rfl (zh.ev rfl) zk) ?_
    refine WL.val (.int .i64 0) rfl rfl rfl (fun za zC zh zk => wp_move rfl (zh.ev rfl) zk) ?_
    refine WL.nil (WE.sub (K' := [(0, .pointer (some ⟨pb, po, none⟩)), (2, .int .i64 0), (3, .int .i64 2), (9, .bool ((decide ((f : Int) < (0 : Int))))), (14, .int .i64 (((l.length : Nat) : Int))), (15, .int .i64 0)]) ⟨rfl, rfl, rfl, rfl, rfl, rfl, trivial⟩ ?_)
    refine WE.next ?_
    refine WC.block ?_
    have hb0 : (if f < 0 then 1 else 2) = (2 : Nat) := if_neg h1
    refine WC.loop (X := Nat) (fun k => l.length - k) (fun k => [(0, .pointer (some ⟨pb, po, none⟩)), (2, .int .i64 0), (3, .int .i64 ((((2 + T.wgtL (l.take k)) : Nat) : Int))), (9, .bool ((decide ((f : Int) < (0 : Int))))), (14, .int .i64 (((l.length : Nat) : Int))), (15, .int .i64 (((k : Nat) : Int)))]) (fun k w15 => k ≤ l.length ∧ Below w.heap.size w w15) 0 ⟨rfl, rfl, rfl, rfl, rfl, rfl, trivial⟩ ?_ ?_
    · exact ⟨Nat.zero_le _, (Below.refl _ _)⟩
    · rintro k w15 ⟨hk, hb16⟩
      refine WC.seq ?_
      refine WC.region ?_
      refine WL.val (.bool ((decide ((((k : Nat) : Int) : Int) < (((l.length : Nat) : Int) : Int))))) rfl rfl rfl (fun za zC zh zk => lss_3 rfl (zh.ev rfl) (zh.ev rfl) zk) ?_
      refine WL.nil (WE.sub (K' := [(0, .pointer (some ⟨pb, po, none⟩)), (2, .int .i64 0), (3, .int .i64 ((((2 + T.wgtL (l.take k)) : Nat) : Int))), (9, .bool ((decide ((f : Int) < (0 : Int))))), (14, .int .i64 (((l.length : Nat) : Int))), (15, .int .i64 (((k : Nat) : Int))), (16, .bool ((decide ((((k : Nat) : Int) : Int) < (((l.length : Nat) : Int) : Int)))))]) ⟨rfl, rfl, rfl, rfl, rfl, rfl, rfl, trivial⟩ ?_)
      refine WE.next ?_
      refine WC.seq ?_
      refine WC.cond rfl (fun h17 => ?_) (fun h17 => ?_)
      · have h17 : (((k : Nat) : Int) : Int) < (((l.length : Nat) : Int) : Int) := by simpa using h17
        refine WC.skip ?_
        refine WE.next ?_
        refine WC.seq ?_
        refine WC.block ?_
        refine WC.seq ?_
        refine WC.region ?_
        refine WL.val (.int .i64 (((k : Nat) : Int))) rfl rfl rfl (fun za zC zh zk => wp_move rfl (zh.ev rfl) zk) ?_
        refine WL.val (.int .i64 (((k : Nat) : Int))) rfl rfl rfl (fun za zC zh zk => wp_assign rfl (zh.ev rfl) zk) ?_
        refine WL.nil (WE.sub (K' := [(0, .pointer (some ⟨pb, po, none⟩)), (2, .int .i64 0), (3, .int .i64 ((((2 + T.wgtL (l.take k)) : Nat) : Int))), (4, .int .i64 (((k : Nat) : Int))), (9, .bool ((decide ((f : Int) < (0 : Int))))), (14, .int .i64 (((l.length : Nat) : Int))), (15, .int .i64 (((k : Nat) : Int))), (16, .bool ((decide ((((k : Nat) : Int) : Int) < (((l.length : Nat) : Int) : Int)))))]) ⟨rfl, rfl, rfl, rfl, rfl, rfl, rfl, rfl, trivial⟩ ?_)
        refine WE.next ?_
        refine WC.region ?_
        refine WL.val (.int .i64 ((((2 + T.wgtL (l.take k)) : Nat) : Int))) rfl rfl rfl (fun za zC zh zk => wp_move rfl (zh.ev rfl) zk) ?_
        refine WL.val (.pointer (some ⟨pb, po, none⟩)) rfl rfl rfl (fun za zC zh zk => wp_move rfl (zh.ev rfl) zk) ?_
        refine WL.val (.pointer (some ⟨pb, po, none⟩)) rfl rfl rfl (fun za zC zh zk => nilCheck_ rfl (zh.ev rfl) zk) ?_
        refine WL.val (.pointer (some ⟨pb, po + 1, none⟩)) rfl rfl rfl (fun za zC zh zk => fld_63_1 rfl (zh.ev rfl) zk) ?_
        have hc18 := bkeeps hb16 _ _ hc1
        refine WL.val (.slice a l.length c) rfl rfl rfl (fun za zC zh zk => ld_61 rfl (zh.ev rfl) hc18 zk) ?_
        refine WL.val (.int .i64 (((k : Nat) : Int))) rfl rfl rfl (fun za zC zh zk => wp_move rfl (zh.ev rfl) zk) ?_
        obtain ⟨b19, o20, A21, C22, ha23, hc24⟩ := IsTs.open hl
        refine WL.val (.pointer (some ⟨b19, o20 + k * 2, none⟩)) rfl rfl rfl (fun za zC zh zk => ix_61 (k := k) rfl (zh.ev rfl) (ha23 k (by first | omega | (simp; omega))) (zh.ev rfl) (by first | omega | (simp; omega)) zk) ?_
        refine WL.call rfl rfl rfl (fun za zh zC => wp_call (by kernel_rfl) rfl (hv1 (zh.ev rfl))) ((ih _ (tget_mem (by omega)) _ b19 (o20 + k * 2) _ _ (size_at2 (by omega) hz) (bkeeps hb16 _ _ (hc24 k (by first | omega | (simp; omega))).1) (bkeeps hb16 _ _ (hc24 k (by first | omega | (simp; omega))).2.1) (IsT.below hb16 (hc24 k (by first | omega | (simp; omega))).2.2))) ?_
        rintro _ w26 ⟨rfl, hq25⟩
        refine WL.val (.int .i64 ((((2 + T.wgtL (l.take (k + 1))) : Nat) : Int))) rfl rfl rfl (fun za zC zh zk => addb_3 rfl (zh.ev rfl) (zh.ev rfl) (wrap_eq (by have z := T.wgtL_take (l := l) (k := k) (by omega); omega) (by omega) (by have z := T.wgtL_take_le l (k + 1); omega)) zk) ?_
        refine WL.val (.int .i64 ((((2 + T.wgtL (l.take (k + 1))) : Nat) : Int))) rfl rfl rfl (fun za zC zh zk => wp_assign rfl (zh.ev rfl) zk) ?_
        refine WL.nil (WE.sub (K' := [(0, .pointer (some ⟨pb, po, none⟩)), (2, .int .i64 0), (3, .int .i64 ((((2 + T.wgtL (l.take (k + 1))) : Nat) : Int))), (4, .int .i64 (((k : Nat) : Int))), (9, .bool ((decide ((f : Int) < (0 : Int))))), (14, .int .i64 (((l.length : Nat) : Int))), (15, .int .i64 (((k : Nat) : Int))), (16, .bool ((decide ((((k : Nat) : Int) : Int) < (((l.length : Nat) : Int) : Int)))))]) ⟨rfl, rfl, rfl, rfl, rfl, rfl, rfl, rfl, trivial⟩ ?_)
        refine WE.blockNormal ?_
        refine WE.next ?_
        refine WC.region ?_
        refine WL.val (.int .i64 ((((k + 1) : Nat) : Int))) rfl rfl rfl (fun za zC zh zk => addb_3 rfl (zh.ev rfl) (zh.ev rfl) (wrap_eq (by omega) (by omega) (by omega)) zk) ?_
        refine WL.val (.int .i64 ((((k + 1) : Nat) : Int))) rfl rfl rfl (fun za zC zh zk => wp_move rfl (zh.ev rfl) zk) ?_
        refine WL.nil (WE.sub (K' := [(0, .pointer (some ⟨pb, po, none⟩)), (2, .int .i64 0), (3, .int .i64 ((((2 + T.wgtL (l.take (k + 1))) : Nat) : Int))), (4, .int .i64 (((k : Nat) : Int))), (9, .bool ((decide ((f : Int) < (0 : Int))))), (14, .int .i64 (((l.length : Nat) : Int))), (15, .int .i64 ((((k + 1) : Nat) : Int))), (16, .bool ((decide ((((k : Nat) : Int) : Int) < (((l.length : Nat) : Int) : Int)))))]) ⟨rfl, rfl, rfl, rfl, rfl, rfl, rfl, rfl, trivial⟩ ?_)
        refine WE.round (k + 1) ⟨rfl, rfl, rfl, rfl, rfl, rfl, trivial⟩ ?_ ?_
        · have hb27 : Below w.heap.size w w26 := (bstep hb16 hq25)
          exact ⟨by omega, hb27⟩
        · omega
      · have h17 : ¬ ((((k : Nat) : Int) : Int) < (((l.length : Nat) : Int) : Int)) := by simpa using h17
        refine WC.exit ?_
        refine WE.thenExit ?_
        refine WE.thenExit ?_
        refine WE.blockIs rfl ?_
        refine WE.next ?_
        refine WC.seq ?_
        refine WC.region ?_
        refine WL.val (.int .i64 ((((2 + T.wgtL (l.take k)) : Nat) : Int))) rfl rfl rfl (fun za zC zh zk => wp_move rfl (zh.ev rfl) zk) ?_
        refine WL.val (.int .i64 ((((2 + T.wgtL (l.take k)) : Nat) : Int))) rfl rfl rfl (fun za zC zh zk => wp_assign rfl (zh.ev rfl) zk) ?_
        refine WL.nil (WE.sub (K' := [(0, .pointer (some ⟨pb, po, none⟩)), (2, .int .i64 ((((2 + T.wgtL (l.take k)) : Nat) : Int))), (3, .int .i64 ((((2 + T.wgtL (l.take k)) : Nat) : Int))), (9, .bool ((decide ((f : Int) < (0 : Int))))), (14, .int .i64 (((l.length : Nat) : Int))), (15, .int .i64 (((k : Nat) : Int))), (16, .bool ((decide ((((k : Nat) : Int) : Int) < (((l.length : Nat) : Int) : Int)))))]) ⟨rfl, rfl, rfl, rfl, rfl, rfl, rfl, trivial⟩ ?_)
        refine WE.next ?_
        refine WC.ret ?_
        refine WE.ret1 rfl rfl ?_
        refine ⟨_, rfl, ?_, hb16⟩
        rw [List.take_of_length_le (show l.length ≤ k by omega), T.wgt, hb0]

set_option maxRecDepth 100000 in
theorem csize_any (x : Li) (w : World) (pb po : Nat) (a1 a2 : Option Addr) (c1 c2 : Nat) (hz1 : x.l.size ≤ 4294967296) (hz2 : x.r.size ≤ 4294967296) (h1 : w.cell? ⟨pb, po + 1, none⟩ = some (.int .i64 x.l.f)) (h2 : w.cell? ⟨pb, po + 2, none⟩ = some (.slice a1 x.l.args.length c1)) (h3 : w.cell? ⟨pb, po + 3, none⟩ = some (.int .i64 x.r.f)) (h4 : w.cell? ⟨pb, po + 4, none⟩ = some (.slice a2 x.r.args.length c2))
    (hL : IsT w x.l (.agg #[.int .i64 x.l.f, .slice a1 x.l.args.length c1])) (hR : IsT w x.r (.agg #[.int .i64 x.r.f, .slice a2 x.r.args.length c2])) : Calls Try.prog 42 #[.pointer (some ⟨pb, po, none⟩)] w (Ret fun v' w' => v' = .int .i64 (x.sz : Int) ∧ Below w.heap.size w w') := by
  refine Calls.walk (l := [.pointer (some ⟨pb, po, none⟩)]) Try.func42 rfl (by kernel_rfl) ?_
  refine WC.sub (K' := [(0, .pointer (some ⟨pb, po, none⟩))]) ⟨rfl, trivial⟩ ?_
  refine WC.seq ?_
  refine WC.region ?_
  refine WL.val (.int .i64 0) rfl rfl rfl (fun za zC zh zk => wp_assign rfl (zh.ev rfl) zk) ?_
  refine WL.nil (WE.sub (K' := [(0, .pointer (some ⟨pb, po, none⟩)), (2, .int .i64 0)]) ⟨rfl, rfl, trivial⟩ ?_)
  refine WE.next ?_
  refine WC.seq ?_
  refine WC.region ?_
  refine WL.val (.pointer (some ⟨pb, po, none⟩)) rfl rfl rfl (fun za zC zh zk => wp_move rfl (zh.ev rfl) zk) ?_
  refine WL.val (.pointer (some ⟨pb, po, none⟩)) rfl rfl rfl (fun za zC zh zk => nilCheck_ rfl (zh.ev rfl) zk) ?_
  refine WL.val (.pointer (some ⟨pb, po + 1, none⟩)) rfl rfl rfl (fun za zC zh zk => fld_65_1 rfl (zh.ev rfl) zk) ?_
  refine WL.val (.agg #[.int .i64 x.l.f, .slice a1 x.l.args.length c1]) rfl rfl rfl (fun za zC zh zk => ld_63 rfl (zh.ev rfl) h1 h2 zk) ?_
  refine WL.call rfl rfl rfl (fun za zh zC => wp_call (by kernel_rfl) rfl (hv1 (zh.ev rfl))) (tsize_any x.l _ _ hz1 (IsT.below (Below.refl _ _) hL)) ?_
  rintro _ w2 ⟨rfl, hq1⟩
  refine WL.val (.int .i64 (((x.l.size : Nat) : Int))) rfl rfl rfl (fun za zC zh zk => wp_assign rfl (zh.ev rfl) zk) ?_
  refine WL.nil (WE.sub (K' := [(0, .pointer (some ⟨pb, po, none⟩)), (2, .int .i64 0), (3, .int .i64 (((x.l.size : Nat) : Int)))]) ⟨rfl, rfl, rfl, trivial⟩ ?_)
  refine WE.next ?_
  refine WC.seq ?_
  refine WC.seq ?_
  refine WC.region ?_
  refine WL.val (.pointer (some ⟨pb, po, none⟩)) rfl rfl rfl (fun za zC zh zk => wp_move rfl (zh.ev rfl) zk) ?_
  refine WL.val (.pointer (some ⟨pb, po, none⟩)) rfl rfl rfl (fun za zC zh zk => nilCheck_ rfl (zh.ev rfl) zk) ?_
  refine WL.val (.pointer (some ⟨pb, po + 3, none⟩)) rfl rfl rfl (fun za zC zh zk => fld_65_2 rfl (zh.ev rfl) zk) ?_
  have hc3 := bkeeps hq1 _ _ h3
  have hc4 := bkeeps hq1 _ _ h4
  refine WL.val (.agg #[.int .i64 x.r.f, .slice a2 x.r.args.length c2]) rfl rfl rfl (fun za zC zh zk => ld_63 rfl (zh.ev rfl) hc3 hc4 zk) ?_
  refine WL.call rfl rfl rfl (fun za zh zC => wp_call (by kernel_rfl) rfl (hv1 (zh.ev rfl))) (ptrue_any x.r _ _ (IsT.below hq1 hR)) ?_
  rintro _ w6 ⟨rfl, hq5⟩
  refine WL.val (.bool ((!x.r.isTrue))) rfl rfl rfl (fun za zC zh zk => wp_not rfl (zh.ev rfl) zk) ?_
  refine WL.nil (WE.sub (K' := [(0, .pointer (some ⟨pb, po, none⟩)), (2, .int .i64 0), (3, .int .i64 (((x.l.size : Nat) : Int))), (14, .bool ((!x.r.isTrue)))]) ⟨rfl, rfl, rfl, rfl, trivial⟩ ?_)
  refine WE.next ?_
  refine WC.cond rfl (fun h7 => ?_) (fun h7 => ?_)
  · have h7 : ¬ (x.r.isTrue = true) := by simpa using h7
    refine WC.region ?_
    refine WL.val (.int .i64 (((x.l.size : Nat) : Int))) rfl rfl rfl (fun za zC zh zk => wp_move rfl (zh.ev rfl) zk) ?_
    refine WL.val (.pointer (some ⟨pb, po, none⟩)) rfl rfl rfl (fun za zC zh zk => wp_move rfl (zh.ev rfl) zk) ?_
    refine WL.val (.pointer (some ⟨pb, po, none⟩)) rfl rfl rfl (fun za zC zh zk => nilCheck_ rfl (zh.ev rfl) zk) ?_
    refine WL.val (.pointer (some ⟨pb, po + 3, none⟩)) rfl rfl rfl (fun za zC zh zk => fld_65_2 rfl (zh.ev rfl) zk) ?_
    have hc8 := bkeeps hq5 _ _ hc3
    have hc9 := bkeeps hq5 _ _ hc4
    refine WL.val (.agg #[.int .i64 x.r.f, .slice a2 x.r.args.length c2]) rfl rfl rfl (fun za zC zh zk => ld_63 rfl (zh.ev rfl) hc8 hc9 zk) ?_
    have hb10 : Below w.heap.size w w6 := (bstep hq1 hq5)
    refine WL.call rfl rfl rfl (fun za zh zC => wp_call (by kernel_rfl) rfl (hv1 (zh.ev rfl))) (tsize_any x.r _ _ hz2 (IsT.below hb10 hR)) ?_
    rintro _ w12 ⟨rfl, hq11⟩
    refine WL.val (.int .i64 ((((x.l.size + x.r.size) : Nat) : Int))) rfl rfl rfl (fun za zC zh zk => addb_3 rfl (zh.ev rfl) (zh.ev rfl) (wrap_eq (by omega) (by omega) (by omega)) zk) ?_
    refine WL.val (.int .i64 ((((x.l.size + x.r.size) : Nat) : Int))) rfl rfl rfl (fun za zC zh zk => wp_assign rfl (zh.ev rfl) zk) ?_
    refine WL.nil (WE.sub (K' := [(0, .pointer (some ⟨pb, po, none⟩)), (2, .int .i64 0), (3, .int .i64 ((((x.l.size + x.r.size) : Nat) : Int))), (14, .bool ((!x.r.isTrue)))]) ⟨rfl, rfl, rfl, rfl, trivial⟩ ?_)
    refine WE.next ?_
    refine WC.seq ?_
    refine WC.region ?_
    refine WL.val (.int .i64 ((((x.l.size + x.r.size) : Nat) : Int))) rfl rfl rfl (fun za zC zh zk => wp_move rfl (zh.ev rfl) zk) ?_
    refine WL.val (.int .i64 ((((x.l.size + x.r.size) : Nat) : Int))) rfl rfl rfl (fun za zC zh zk => wp_assign rfl (zh.ev rfl) zk) ?_
    refine WL.nil (WE.sub (K' := [(0, .pointer (some ⟨pb, po, none⟩)), (2, .int .i64 ((((x.l.size + x.r.size) : Nat) : Int))), (3, .int .i64 ((((x.l.size + x.r.size) : Nat) : Int))), (14, .bool ((!x.r.isTrue)))]) ⟨rfl, rfl, rfl, rfl, trivial⟩ ?_)
    refine WE.next ?_
    refine WC.ret ?_
    refine WE.ret1 rfl rfl ?_
    have hb13 : Below w.heap.size w w12 := (bstep hb10 hq11)
    exact ⟨_, rfl, by unfold Li.sz; rw [if_neg h7], hb13⟩
  · have h7 : ¬ (¬ (x.r.isTrue = true)) := by simpa using h7
    refine WC.skip ?_
    refine WE.next ?_
    refine WC.seq ?_
    refine WC.region ?_
    refine WL.val (.int .i64 (((x.l.size : Nat) : Int))) rfl rfl rfl (fun za zC zh zk => wp_move rfl (zh.ev rfl) zk) ?_
    refine WL.val (.int .i64 (((x.l.size : Nat) : Int))) rfl rfl rfl (fun za zC zh zk => wp_assign rfl (zh.ev rfl) zk) ?_
    refine WL.nil (WE.sub (K' := [(0, .pointer (some ⟨pb, po, none⟩)), (2, .int .i64 (((x.l.size : Nat) : Int))), (3, .int .i64 (((x.l.size : Nat) : Int))), (14, .bool ((!x.r.isTrue)))]) ⟨rfl, rfl, rfl, rfl, trivial⟩ ?_)
    refine WE.next ?_
    refine WC.ret ?_
    refine WE.ret1 rfl rfl ?_
    have hb14 : Below w.heap.size w w6 := (bstep hq1 hq5)
    exact ⟨_, rfl, by unfold Li.sz; rw [if_pos (by simpa using h7)], hb14⟩

set_option maxRecDepth 100000 in
theorem rlit_any (x : Li) (w : World) (a1 a2 : Option Addr) (c1 c2 : Nat) (hz1 : x.l.size ≤ 4294967296) (hz2 : x.r.size ≤ 4294967296)
    (hL : IsT w x.l (.agg #[.int .i64 x.l.f, .slice a1 x.l.args.length c1])) (hR : IsT w x.r (.agg #[.int .i64 x.r.f, .slice a2 x.r.args.length c2])) : Calls Try.prog 30 #[.agg #[.bool x.neg, .int .i64 x.l.f, .slice a1 x.l.args.length c1, .int .i64 x.r.f, .slice a2 x.r.args.length c2]] w (Ret fun v' w' => v' = .int .i64 (x.sz : Int) ∧ Below w.heap.size w w') := by
  refine Calls.walk (l := [.agg #[.bool x.neg, .int .i64 x.l.f, .slice a1 x.l.args.length c1, .int .i64 x.r.f, .slice a2 x.r.args.length c2]]) Try.func30 rfl (by kernel_rfl) ?_
  refine WC.sub (K' := [(0, .agg #[.bool x.neg, .int .i64 x.l.f, .slice a1 x.l.args.length c1, .int .i64 x.r.f, .slice a2 x.r.args.length c2])]) ⟨rfl, trivial⟩ ?_
  refine WC.seq ?_
  refine WC.region ?_
  refine WL.step (post := NewBlk w 65 #[.bool x.neg, .int .i64 x.l.f, .slice a1 x.l.args.length c1, .int .i64 x.r.f, .slice a2 x.r.args.length c2]) rfl rfl rfl (fun za zC zh zk => box_65 rfl (zh.ev rfl) (zk _ _ (newBlk _ _ _))) ?_
  rintro _ w1 ⟨g2, rfl, hg3, hB4, hb5, hz6⟩
  have hl7 : w.heap.size ≤ g2 := by omega
  refine WL.val (.int .i64 0) rfl rfl rfl (fun za zC zh zk => wp_assign rfl (zh.ev rfl) zk) ?_
  refine WL.nil (WE.sub (K' := [(0, .agg #[.bool x.neg, .int .i64 x.l.f, .slice a1 x.l.args.length c1, .int .i64 x.r.f, .slice a2 x.r.args.length c2]), (1, .pointer (some ⟨g2, 0, none⟩)), (2, .int .i64 0)]) ⟨rfl, rfl, rfl, trivial⟩ ?_)
  refine WE.next ?_
  refine WC.seq ?_
  refine WC.region ?_
  refine WL.val (.pointer (some ⟨g2, 1, none⟩)) rfl rfl rfl (fun za zC zh zk => fld_65_1 rfl (zh.ev rfl) zk) ?_
  refine WL.val (.agg #[.int .i64 x.l.f, .slice a1 x.l.args.length c1]) rfl rfl rfl (fun za zC zh zk => ld_63 rfl (zh.ev rfl) ((hB4.cell 1).trans rfl) ((hB4.cell 2).trans rfl) zk) ?_
  refine WL.call rfl rfl rfl (fun za zh zC => wp_call (by kernel_rfl) rfl (hv1 (zh.ev rfl))) (rsize_ok x.l _ _ hz1 (IsT.below hb5 hL)) ?_
  rintro _ w9 ⟨rfl, hq8⟩
  refine WL.val (.int .i64 (((x.l.size : Nat) : Int))) rfl rfl rfl (fun za zC zh zk => wp_assign rfl (zh.ev rfl) zk) ?_
  refine WL.nil (WE.sub (K' := [(0, .agg #[.bool x.neg, .int .i64 x.l.f, .slice a1 x.l.args.length c1, .int .i64 x.r.f, .slice a2 x.r.args.length c2]), (1, .pointer (some ⟨g2, 0, none⟩)), (2, .int .i64 0), (3, .int .i64 (((x.l.size : Nat) : Int)))]) ⟨rfl, rfl, rfl, rfl, trivial⟩ ?_)
  refine WE.next ?_
  refine WC.seq ?_
  refine WC.seq ?_
  refine WC.region ?_
  refine WL.val (.pointer (some ⟨g2, 3, none⟩)) rfl rfl rfl (fun za zC zh zk => fld_65_2 rfl (zh.ev rfl) zk) ?_
  have hB10 := hB4.below hq8
  refine WL.val (.agg #[.int .i64 x.r.f, .slice a2 x.r.args.length c2]) rfl rfl rfl (fun za zC zh zk => ld_63 rfl (zh.ev rfl) ((hB10.cell 3).trans rfl) ((hB10.cell 4).trans rfl) zk) ?_
  have hb11 : Below w.heap.size w w9 := (bstep hb5 hq8)
  refine WL.call rfl rfl rfl (fun za zh zC => wp_call (by kernel_rfl) rfl (hv1 (zh.ev rfl))) (rtrue_any x.r _ _ (IsT.below hb11 hR)) ?_
  rintro _ w13 ⟨rfl, hq12⟩
  refine WL.val (.bool ((!x.r.isTrue))) rfl rfl rfl (fun za zC zh zk => wp_not rfl (zh.ev rfl) zk) ?_
  refine WL.nil (WE.sub (K' := [(0, .agg #[.bool x.neg, .int .i64 x.l.f, .slice a1 x.l.args.length c1, .int .i64 x.r.f, .slice a2 x.r.args.length c2]), (1, .pointer (some ⟨g2, 0, none⟩)), (2, .int .i64 0), (3, .int .i64 (((x.l.size : Nat) : Int))), (10, .bool ((!x.r.isTrue)))]) ⟨rfl, rfl, rfl, rfl, rfl, trivial⟩ ?_)
  refine WE.next ?_
  refine WC.cond rfl (fun h14 => ?_) (fun h14 => ?_)
  · have h14 : ¬ (x.r.isTrue = true) := by simpa using h14
    refine WC.region ?_
    refine WL.val (.int .i64 (((x.l.size : Nat) : Int))) rfl rfl rfl (fun za zC zh zk => wp_move rfl (zh.ev rfl) zk) ?_
    refine WL.val (.pointer (some ⟨g2, 3, none⟩)) rfl rfl rfl (fun za zC zh zk => fld_65_2 rfl (zh.ev rfl) zk) ?_
    have hB15 := hB10.below hq12
    refine WL.val (.agg #[.int .i64 x.r.f, .slice a2 x.r.args.length c2]) rfl rfl rfl (fun za zC zh zk => ld_63 rfl (zh.ev rfl) ((hB15.cell 3).trans rfl) ((hB15.cell 4).trans rfl) zk) ?_
    have hb16 : Below w.heap.size w w13 := (bstep hb11 hq12)
    refine WL.call rfl rfl rfl (fun za zh zC => wp_call (by kernel_rfl) rfl (hv1 (zh.ev rfl))) (rsize_ok x.r _ _ hz2 (IsT.below hb16 hR)) ?_
    rintro _ w18 ⟨rfl, hq17⟩
    refine WL.val (.int .i64 ((((x.l.size + x.r.size) : Nat) : Int))) rfl rfl rfl (fun za zC zh zk => addb_3 rfl (zh.ev rfl) (zh.ev rfl) (wrap_eq (by omega) (by omega) (by omega)) zk) ?_
    refine WL.val (.int .i64 ((((x.l.size + x.r.size) : Nat) : Int))) rfl rfl rfl (fun za zC zh zk => wp_assign rfl (zh.ev rfl) zk) ?_
    refine WL.nil (WE.sub (K' := [(0, .agg #[.bool x.neg, .int .i64 x.l.f, .slice a1 x.l.args.length c1, .int .i64 x.r.f, .slice a2 x.r.args.length c2]), (1, .pointer (some ⟨g2, 0, none⟩)), (2, .int .i64 0), (3, .int .i64 ((((x.l.size + x.r.size) : Nat) : Int))), (10, .bool ((!x.r.isTrue)))]) ⟨rfl, rfl, rfl, rfl, rfl, trivial⟩ ?_)
    refine WE.next ?_
    refine WC.seq ?_
    refine WC.region ?_
    refine WL.val (.int .i64 ((((x.l.size + x.r.size) : Nat) : Int))) rfl rfl rfl (fun za zC zh zk => wp_move rfl (zh.ev rfl) zk) ?_
    refine WL.val (.int .i64 ((((x.l.size + x.r.size) : Nat) : Int))) rfl rfl rfl (fun za zC zh zk => wp_assign rfl (zh.ev rfl) zk) ?_
    refine WL.nil (WE.sub (K' := [(0, .agg #[.bool x.neg, .int .i64 x.l.f, .slice a1 x.l.args.length c1, .int .i64 x.r.f, .slice a2 x.r.args.length c2]), (1, .pointer (some ⟨g2, 0, none⟩)), (2, .int .i64 ((((x.l.size + x.r.size) : Nat) : Int))), (3, .int .i64 ((((x.l.size + x.r.size) : Nat) : Int))), (10, .bool ((!x.r.isTrue)))]) ⟨rfl, rfl, rfl, rfl, rfl, trivial⟩ ?_)
    refine WE.next ?_
    refine WC.ret ?_
    refine WE.ret1 rfl rfl ?_
    have hb19 : Below w.heap.size w w18 := (bstep hb16 hq17)
    exact ⟨_, rfl, by unfold Li.sz; rw [if_neg h14], hb19⟩
  · have h14 : ¬ (¬ (x.r.isTrue = true)) := by simpa using h14
    refine WC.skip ?_
    refine WE.next ?_
    refine WC.seq ?_
    refine WC.region ?_
    refine WL.val (.int .i64 (((x.l.size : Nat) : Int))) rfl rfl rfl (fun za zC zh zk => wp_move rfl (zh.ev rfl) zk) ?_
    refine WL.val (.int .i64 (((x.l.size : Nat) : Int))) rfl rfl rfl (fun za zC zh zk => wp_assign rfl (zh.ev rfl) zk) ?_
    refine WL.nil (WE.sub (K' := [(0, .agg #[.bool x.neg, .int .i64 x.l.f, .slice a1 x.l.args.length c1, .int .i64 x.r.f, .slice a2 x.r.args.length c2]), (1, .pointer (some ⟨g2, 0, none⟩)), (2, .int .i64 (((x.l.size : Nat) : Int))), (3, .int .i64 (((x.l.size : Nat) : Int))), (10, .bool ((!x.r.isTrue)))]) ⟨rfl, rfl, rfl, rfl, rfl, trivial⟩ ?_)
    refine WE.next ?_
    refine WC.ret ?_
    refine WE.ret1 rfl rfl ?_
    have hb20 : Below w.heap.size w w13 := (bstep hb11 hq12)
    exact ⟨_, rfl, by unfold Li.sz; rw [if_pos (by simpa using h14)], hb20⟩

theorem clSize_le {l : List Li} (h : ∀ x ∈ l, x.l.size ≤ 4294967296 ∧ x.r.size ≤ 4294967296) : ∀ k, clSize (l.take k) ≤ l.length * 8589934592 := by
  induction l with
  | nil => intro k; simp [clSize]
  | cons x r ih =>
    intro k
    cases k with
    | zero => simp [clSize]
    | succ k =>
      have h1 := ih (fun y hy => h y (by simp [hy])) k
      have h2 := Li.sz_le (h x (by simp)).1 (h x (by simp)).2
      rw [List.take_succ_cons, clSize, List.length_cons]; omega
theorem clWgt_le {l : List Li} (h : ∀ x ∈ l, x.l.size ≤ 4294967296 ∧ x.r.size ≤ 4294967296) : ∀ k, clWgt (l.take k) ≤ l.length * 17179869184 := by
  induction l with
  | nil => intro k; simp [clWgt]
  | cons x r ih =>
    intro k
    cases k with
    | zero => simp [clWgt]
    | succ k =>
      have h1 := ih (fun y hy => h y (by simp [hy])) k
      have h2 := Li.wg_le (h x (by simp)).1 (h x (by simp)).2
      rw [List.take_succ_cons, clWgt, List.length_cons]; omega
set_option maxRecDepth 100000 in
theorem clsize_any (l : List Li) (w : World) (a : Option Addr) (c : Nat) (hl : IsCl w l a c) (hlz : l.length ≤ 1048576) : Calls Try.prog 41 #[.slice a l.length c] w (Ret fun v' w' => v' = .int .i64 (clSize l : Int) ∧ Below w.heap.size w w') := by
  have hr := hl.rows
  have hle : ∀ k, clSize (l.take k) ≤ l.length * 8589934592 := fun k => clSize_le (fun x hx => ⟨hl.partsL x hx, hl.partsR x hx⟩) k
  have hpl : ∀ k, k < l.length → (lget l k).l.size ≤ 4294967296 := fun k h => hl.pl h
  have hpr : ∀ k, k < l.length → (lget l k).r.size ≤ 4294967296 := fun k h => hl.pr h
  refine Calls.walk (l := [.slice a l.length c]) Try.func41 rfl (by kernel_rfl) ?_
  refine WC.sub (K' := [(0, .slice a l.length c)]) ⟨rfl, trivial⟩ ?_
  refine WC.seq ?_
  refine WC.region ?_
  refine WL.val (.int .i64 0) rfl rfl rfl (fun za zC zh zk => wp_assign rfl (zh.ev rfl) zk) ?_
  refine WL.nil (WE.sub (K' := [(0, .slice a l.length c), (2, .int .i64 0)]) ⟨rfl, rfl, trivial⟩ ?_)
  refine WE.next ?_
  refine WC.seq ?_
  refine WC.region ?_
  refine WL.val (.int .i64 0) rfl rfl rfl (fun za zC zh zk => wp_assign rfl (zh.ev rfl) zk) ?_
  refine WL.nil (WE.sub (K' := [(0, .slice a l.length c), (2, .int .i64 0), (3, .int .i64 0)]) ⟨rfl, rfl, rfl, trivial⟩ ?_)
  refine WE.next ?_
  refine WC.seq ?_
  refine WC.seq ?_
  refine WC.region ?_
  refine WL.val (.slice a l.length c) rfl rfl rfl (fun za zC zh zk => wp_move rfl (zh.ev rfl) zk) ?_
  refine WL.val (.int .i64 (((l.length : Nat) : Int))) rfl rfl rfl (fun za zC zh zk => len_90 rfl (zh.ev rfl) zk) ?_
  refine WL.val (.int .i64 0) rfl rfl rfl (fun za zC zh zk => wp_move rfl (zh.ev rfl) zk) ?_
  refine WL.nil (WE.sub (K' := [(0, .slice a l.length c), (2, .int .i64 0), (3, .int .i64 0), (6, .int .i64 (((l.length : Nat) : Int))), (7, .int .i64 0)]) ⟨rfl, rfl, rfl, rfl, rfl, trivial⟩ ?_)
  refine WE.next ?_
  refine WC.block ?_
  refine WC.loop (X := Nat) (fun k => l.length - k) (fun k => [(0, .slice a l.length c), (2, .int .i64 0), (3, .int .i64 ((((clSize (l.take k)) : Nat) : Int))), (6, .int .i64 (((l.length : Nat) : Int))), (7, .int .i64 (((k : Nat) : Int)))]) (fun k w1 => k ≤ l.length ∧ Below w.heap.size w w1) 0 ⟨rfl, rfl, rfl, rfl, rfl, trivial⟩ ?_ ?_
  · exact ⟨Nat.zero_le _, (Below.refl _ _)⟩
  · rintro k w1 ⟨hk, hb2⟩
    refine WC.seq ?_
    refine WC.region ?_
    refine WL.val (.bool ((decide ((((k : Nat) : Int) : Int) < (((l.length : Nat) : Int) : Int))))) rfl rfl rfl (fun za zC zh zk => lss_3 rfl (zh.ev rfl) (zh.ev rfl) zk) ?_
    refine WL.nil (WE.sub (K' := [(0, .slice a l.length c), (2, .int .i64 0), (3, .int .i64 ((((clSize (l.take k)) : Nat) : Int))), (6, .int .i64 (((l.length : Nat) : Int))), (7, .int .i64 (((k : Nat) : Int))), (8, .bool ((decide ((((k : Nat) : Int) : Int) < (((l.length : Nat) : Int) : Int)))))]) ⟨rfl, rfl, rfl, rfl, rfl, rfl, trivial⟩ ?_)
    refine WE.next ?_
    refine WC.seq ?_
    refine WC.cond rfl (fun h3 => ?_) (fun h3 => ?_)
    · have h3 : (((k : Nat) : Int) : Int) < (((l.length : Nat) : Int) : Int) := by simpa using h3
      refine WC.skip ?_
      refine WE.next ?_
      refine WC.seq ?_
      refine WC.block ?_
      refine WC.seq ?_
      refine WC.region ?_
      refine WL.val (.int .i64 (((k : Nat) : Int))) rfl rfl rfl (fun za zC zh zk => wp_move rfl (zh.ev rfl) zk) ?_
      refine WL.val (.int .i64 (((k : Nat) : Int))) rfl rfl rfl (fun za zC zh zk => wp_assign rfl (zh.ev rfl) zk) ?_
      refine WL.nil (WE.sub (K' := [(0, .slice a l.length c), (2, .int .i64 0), (3, .int .i64 ((((clSize (l.take k)) : Nat) : Int))), (4, .int .i64 (((k : Nat) : Int))), (6, .int .i64 (((l.length : Nat) : Int))), (7, .int .i64 (((k : Nat) : Int))), (8, .bool ((decide ((((k : Nat) : Int) : Int) < (((l.length : Nat) : Int) : Int)))))]) ⟨rfl, rfl, rfl, rfl, rfl, rfl, rfl, trivial⟩ ?_)
      refine WE.next ?_
      refine WC.region ?_
      refine WL.val (.int .i64 ((((clSize (l.take k)) : Nat) : Int))) rfl rfl rfl (fun za zC zh zk => wp_move rfl (zh.ev rfl) zk) ?_
      refine WL.val (.slice a l.length c) rfl rfl rfl (fun za zC zh zk => wp_move rfl (zh.ev rfl) zk) ?_
      refine WL.val (.int .i64 (((k : Nat) : Int))) rfl rfl rfl (fun za zC zh zk => wp_move rfl (zh.ev rfl) zk) ?_
      obtain ⟨b4, o5, A6, C7, A8, C9, ha10, hc11⟩ := InRow.openL hr
      refine WL.val (.pointer (some ⟨b4, o5 + k * 5, none⟩)) rfl rfl rfl (fun za zC zh zk => ix_90 (k := k) rfl (zh.ev rfl) (ha10 k (by first | omega | (simp; omega))) (zh.ev rfl) (by first | omega | (simp; omega)) zk) ?_
      refine WL.call rfl rfl rfl (fun za zh zC => wp_call (by kernel_rfl) rfl (hv1 (zh.ev rfl))) (csize_any (lget l k) _ b4 (o5 + k * 5) _ _ _ _ (hpl k (by omega)) (hpr k (by omega)) (bkeeps hb2 _ _ (hc11 k (by first | omega | (simp; omega))).2.1) (bkeeps hb2 _ _ (hc11 k (by first | omega | (simp; omega))).2.2.1) (bkeeps hb2 _ _ (hc11 k (by first | omega | (simp; omega))).2.2.2.1) (bkeeps hb2 _ _ (hc11 k (by first | omega | (simp; omega))).2.2.2.2.1) (IsT.below hb2 (InT.isT (hc11 k (by first | omega | (simp; omega))).2.2.2.2.2.1)) (IsT.below hb2 (InT.isT (hc11 k (by first | omega | (simp; omega))).2.2.2.2.2.2))) ?_
      rintro _ w13 ⟨rfl, hq12⟩
      refine WL.val (.int .i64 ((((clSize (l.take (k + 1))) : Nat) : Int))) rfl rfl rfl (fun za zC zh zk => addb_3 rfl (zh.ev rfl) (zh.ev rfl) (wrap_eq (by rw [clSize_take (by omega)]; omega) (by omega) (by have z := hle (k + 1); omega)) zk) ?_
      refine WL.val (.int .i64 ((((clSize (l.take (k + 1))) : Nat) : Int))) rfl rfl rfl (fun za zC zh zk => wp_assign rfl (zh.ev rfl) zk) ?_
      refine WL.nil (WE.sub (K' := [(0, .slice a l.length c), (2, .int .i64 0), (3, .int .i64 ((((clSize (l.take (k + 1))) : Nat) : Int))), (4, .int .i64 (((k : Nat) : Int))), (6, .int .i64 (((l.length : Nat) : Int))), (7, .int .i64 (((k : Nat) : Int))), (8, .bool ((decide ((((k : Nat) : Int) : Int) < (((l.length : Nat) : Int) : Int)))))]) ⟨rfl, rfl, rfl, rfl, rfl, rfl, rfl, trivial⟩ ?_)
      refine WE.blockNormal ?_
      refine WE.next ?_
      refine WC.region ?_
      refine WL.val (.int .i64 ((((k + 1) : Nat) : Int))) rfl rfl rfl (fun za zC zh zk => addb_3 rfl (zh.ev rfl) (zh.ev rfl) (wrap_eq (by omega) (by omega) (by omega)) zk) ?_
      refine WL.val (.int .i64 ((((k + 1) : Nat) : Int))) rfl rfl rfl (fun za zC zh zk => wp_move rfl (zh.ev rfl) zk) ?_
      refine WL.nil (WE.sub (K' := [(0, .slice a l.length c), (2, .int .i64 0), (3, .int .i64 ((((clSize (l.take (k + 1))) : Nat) : Int))), (4, .int .i64 (((k : Nat) : Int))), (6, .int .i64 (((l.length : Nat) : Int))), (7, .int .i64 ((((k + 1) : Nat) : Int))), (8, .bool ((decide ((((k : Nat) : Int) : Int) < (((l.length : Nat) : Int) : Int)))))]) ⟨rfl, rfl, rfl, rfl, rfl, rfl, rfl, trivial⟩ ?_)
      refine WE.round (k + 1) ⟨rfl, rfl, rfl, rfl, rfl, trivial⟩ ?_ ?_
      · have hb14 : Below w.heap.size w w13 := (bstep hb2 hq12)
        exact ⟨by omega, hb14⟩
      · omega
    · have h3 : ¬ ((((k : Nat) : Int) : Int) < (((l.length : Nat) : Int) : Int)) := by simpa using h3
      refine WC.exit ?_
      refine WE.thenExit ?_
      refine WE.thenExit ?_
      refine WE.blockIs rfl ?_
      refine WE.next ?_
      refine WC.seq ?_
      refine WC.region ?_
      refine WL.val (.int .i64 ((((clSize (l.take k)) : Nat) : Int))) rfl rfl rfl (fun za zC zh zk => wp_move rfl (zh.ev rfl) zk) ?_
      refine WL.val (.int .i64 ((((clSize (l.take k)) : Nat) : Int))) rfl rfl rfl (fun za zC zh zk => wp_assign rfl (zh.ev rfl) zk) ?_
      refine WL.nil (WE.sub (K' := [(0, .slice a l.length c), (2, .int .i64 ((((clSize (l.take k)) : Nat) : Int))), (3, .int .i64 ((((clSize (l.take k)) : Nat) : Int))), (6, .int .i64 (((l.length : Nat) : Int))), (7, .int .i64 (((k : Nat) : Int))), (8, .bool ((decide ((((k : Nat) : Int) : Int) < (((l.length : Nat) : Int) : Int)))))]) ⟨rfl, rfl, rfl, rfl, rfl, rfl, trivial⟩ ?_)
      refine WE.next ?_
      refine WC.ret ?_
      refine WE.ret1 rfl rfl ?_
      exact ⟨_, rfl, by rw [List.take_of_length_le (show l.length ≤ k by omega)], hb2⟩

set_option maxRecDepth 100000 in
theorem psize_any (l : List Li) (w : World) (a : Option Addr) (c : Nat) (hl : IsCl w l a c) (hlz : l.length ≤ 1048576) : Calls Try.prog 33 #[.slice a l.length c] w (Ret fun v' w' => v' = .int .i64 (clSize l : Int) ∧ Below w.heap.size w w') := by
  refine Calls.walk (l := [.slice a l.length c]) Try.func33 rfl (by kernel_rfl) ?_
  refine WC.sub (K' := [(0, .slice a l.length c)]) ⟨rfl, trivial⟩ ?_
  refine WC.seq ?_
  refine WC.region ?_
  refine WL.val (.int .i64 0) rfl rfl rfl (fun za zC zh zk => wp_assign rfl (zh.ev rfl) zk) ?_
  refine WL.nil (WE.sub (K' := [(0, .slice a l.length c), (2, .int .i64 0)]) ⟨rfl, rfl, trivial⟩ ?_)
  refine WE.next ?_
  refine WC.seq ?_
  refine WC.region ?_
  refine WL.val (.slice a l.length c) rfl rfl rfl (fun za zC zh zk => wp_move rfl (zh.ev rfl) zk) ?_
  refine WL.call rfl rfl rfl (fun za zh zC => wp_call (by kernel_rfl) rfl (hv1 (zh.ev rfl))) (clsize_any l _ _ _ (hl.below (Below.refl _ _)) hlz) ?_
  rintro _ w2 ⟨rfl, hq1⟩
  refine WL.val (.int .i64 ((((clSize l) : Nat) : Int))) rfl rfl rfl (fun za zC zh zk => wp_assign rfl (zh.ev rfl) zk) ?_
  refine WL.nil (WE.sub (K' := [(0, .slice a l.length c), (2, .int .i64 ((((clSize l) : Nat) : Int)))]) ⟨rfl, rfl, trivial⟩ ?_)
  refine WE.next ?_
  refine WC.ret ?_
  refine WE.ret1 rfl rfl ?_
  exact ⟨_, rfl, rfl, hq1⟩

set_option maxRecDepth 100000 in
theorem rsizec_any (l : List Li) (w : World) (a : Option Addr) (c : Nat) (hl : IsCl w l a c) (hlz : l.length ≤ 1048576) : Calls Try.prog 20 #[.slice a l.length c] w (Ret fun v' w' => v' = .int .i64 (clSize l : Int) ∧ Below w.heap.size w w') := by
  have hr := hl.rows
  have hle : ∀ k, clSize (l.take k) ≤ l.length * 8589934592 := fun k => clSize_le (fun x hx => ⟨hl.partsL x hx, hl.partsR x hx⟩) k
  have hpl : ∀ k, k < l.length → (lget l k).l.size ≤ 4294967296 := fun k h => hl.pl h
  have hpr : ∀ k, k < l.length → (lget l k).r.size ≤ 4294967296 := fun k h => hl.pr h
  refine Calls.walk (l := [.slice a l.length c]) Try.func20 rfl (by kernel_rfl) ?_
  refine WC.sub (K' := [(0, .slice a l.length c)]) ⟨rfl, trivial⟩ ?_
  refine WC.seq ?_
  refine WC.region ?_
  refine WL.val (.int .i64 0) rfl rfl rfl (fun za zC zh zk => wp_assign rfl (zh.ev rfl) zk) ?_
  refine WL.nil (WE.sub (K' := [(0, .slice a l.length c), (2, .int .i64 0)]) ⟨rfl, rfl, trivial⟩ ?_)
  refine WE.next ?_
  refine WC.seq ?_
  refine WC.region ?_
  refine WL.val (.int .i64 0) rfl rfl rfl (fun za zC zh zk => wp_assign rfl (zh.ev rfl) zk) ?_
  refine WL.nil (WE.sub (K' := [(0, .slice a l.length c), (2, .int .i64 0), (3, .int .i64 0)]) ⟨rfl, rfl, rfl, trivial⟩ ?_)
  refine WE.next ?_
  refine WC.seq ?_
  refine WC.seq ?_
  refine WC.region ?_
  refine WL.val (.int .i64 0) rfl rfl rfl (fun za zC zh zk => wp_assign rfl (zh.ev rfl) zk) ?_
  refine WL.nil (WE.sub (K' := [(0, .slice a l.length c), (2, .int .i64 0), (3, .int .i64 0), (4, .int .i64 0)]) ⟨rfl, rfl, rfl, rfl, trivial⟩ ?_)
  refine WE.next ?_
  refine WC.block ?_
  refine WC.loop (X := Nat) (fun k => l.length - k) (fun k => [(0, .slice a l.length c), (2, .int .i64 0), (3, .int .i64 ((((clSize (l.take k)) : Nat) : Int))), (4, .int .i64 (((k : Nat) : Int)))]) (fun k w1 => k ≤ l.length ∧ Below w.heap.size w w1) 0 ⟨rfl, rfl, rfl, rfl, trivial⟩ ?_ ?_
  · exact ⟨Nat.zero_le _, (Below.refl _ _)⟩
  · rintro k w1 ⟨hk, hb2⟩
    refine WC.seq ?_
    refine WC.seq ?_
    refine WC.region ?_
    refine WL.val (.int .i64 (((k : Nat) : Int))) rfl rfl rfl (fun za zC zh zk => wp_move rfl (zh.ev rfl) zk) ?_
    refine WL.val (.slice a l.length c) rfl rfl rfl (fun za zC zh zk => wp_move rfl (zh.ev rfl) zk) ?_
    refine WL.val (.int .i64 (((l.length : Nat) : Int))) rfl rfl rfl (fun za zC zh zk => len_24 rfl (zh.ev rfl) zk) ?_
    refine WL.val (.bool ((decide ((((k : Nat) : Int) : Int) < (((l.length : Nat) : Int) : Int))))) rfl rfl rfl (fun za zC zh zk => lss_3 rfl (zh.ev rfl) (zh.ev rfl) zk) ?_
    refine WL.nil (WE.sub (K' := [(0, .slice a l.length c), (2, .int .i64 0), (3, .int .i64 ((((clSize (l.take k)) : Nat) : Int))), (4, .int .i64 (((k : Nat) : Int))), (8, .bool ((decide ((((k : Nat) : Int) : Int) < (((l.length : Nat) : Int) : Int)))))]) ⟨rfl, rfl, rfl, rfl, rfl, trivial⟩ ?_)
    refine WE.next ?_
    refine WC.cond rfl (fun h3 => ?_) (fun h3 => ?_)
    · have h3 : (((k : Nat) : Int) : Int) < (((l.length : Nat) : Int) : Int) := by simpa using h3
      refine WC.skip ?_
      refine WE.next ?_
      refine WC.seq ?_
      refine WC.block ?_
      refine WC.region ?_
      refine WL.val (.int .i64 ((((clSize (l.take k)) : Nat) : Int))) rfl rfl rfl (fun za zC zh zk => wp_move rfl (zh.ev rfl) zk) ?_
      refine WL.val (.slice a l.length c) rfl rfl rfl (fun za zC zh zk => wp_move rfl (zh.ev rfl) zk) ?_
      refine WL.val (.int .i64 (((k : Nat) : Int))) rfl rfl rfl (fun za zC zh zk => wp_move rfl (zh.ev rfl) zk) ?_
      obtain ⟨b4, o5, A6, C7, A8, C9, ha10, hc11⟩ := InRow.openL hr
      refine WL.val (.pointer (some ⟨b4, o5 + k * 5, none⟩)) rfl rfl rfl (fun za zC zh zk => ix_24 (k := k) rfl (zh.ev rfl) (ha10 k (by first | omega | (simp; omega))) (zh.ev rfl) (by first | omega | (simp; omega)) zk) ?_
      refine WL.val (.agg #[.bool ((lget l k).neg), .int .i64 ((lget l k).l.f), .slice ((A6 k)) ((lget l k).l.args.length) ((C7 k)), .int .i64 ((lget l k).r.f), .slice ((A8 k)) ((lget l k).r.args.length) ((C9 k))]) rfl rfl rfl (fun za zC zh zk => ld_65 rfl (zh.ev rfl) (bkeeps hb2 _ _ (hc11 k (by first | omega | (simp; omega))).1) (bkeeps hb2 _ _ (hc11 k (by first | omega | (simp; omega))).2.1) (bkeeps hb2 _ _ (hc11 k (by first | omega | (simp; omega))).2.2.1) (bkeeps hb2 _ _ (hc11 k (by first | omega | (simp; omega))).2.2.2.1) (bkeeps hb2 _ _ (hc11 k (by first | omega | (simp; omega))).2.2.2.2.1) zk) ?_
      refine WL.call rfl rfl rfl (fun za zh zC => wp_call (by kernel_rfl) rfl (hv1 (zh.ev rfl))) (rlit_any (lget l k) _ _ _ _ _ (hpl k (by omega)) (hpr k (by omega)) (IsT.below hb2 (InT.isT (hc11 k (by first | omega | (simp; omega))).2.2.2.2.2.1)) (IsT.below hb2 (InT.isT (hc11 k (by first | omega | (simp; omega))).2.2.2.2.2.2))) ?_
      rintro _ w13 ⟨rfl, hq12⟩
      refine WL.val (.int .i64 ((((clSize (l.take (k + 1))) : Nat) : Int))) rfl rfl rfl (fun za zC zh zk => addb_3 rfl (zh.ev rfl) (zh.ev rfl) (wrap_eq (by rw [clSize_take (by omega)]; omega) (by omega) (by have z := hle (k + 1); omega)) zk) ?_
      refine WL.val (.int .i64 ((((clSize (l.take (k + 1))) : Nat) : Int))) rfl rfl rfl (fun za zC zh zk => wp_assign rfl (zh.ev rfl) zk) ?_
      refine WL.nil (WE.sub (K' := [(0, .slice a l.length c), (2, .int .i64 0), (3, .int .i64 ((((clSize (l.take (k + 1))) : Nat) : Int))), (4, .int .i64 (((k : Nat) : Int))), (8, .bool ((decide ((((k : Nat) : Int) : Int) < (((l.length : Nat) : Int) : Int)))))]) ⟨rfl, rfl, rfl, rfl, rfl, trivial⟩ ?_)
      refine WE.blockNormal ?_
      refine WE.next ?_
      refine WC.region ?_
      refine WL.val (.int .i64 (((k : Nat) : Int))) rfl rfl rfl (fun za zC zh zk => wp_move rfl (zh.ev rfl) zk) ?_
      refine WL.val (.int .i64 ((((k + 1) : Nat) : Int))) rfl rfl rfl (fun za zC zh zk => addb_3 rfl (zh.ev rfl) (zh.ev rfl) (wrap_eq (by omega) (by omega) (by omega)) zk) ?_
      refine WL.val (.int .i64 ((((k + 1) : Nat) : Int))) rfl rfl rfl (fun za zC zh zk => wp_assign rfl (zh.ev rfl) zk) ?_
      refine WL.nil (WE.sub (K' := [(0, .slice a l.length c), (2, .int .i64 0), (3, .int .i64 ((((clSize (l.take (k + 1))) : Nat) : Int))), (4, .int .i64 ((((k + 1) : Nat) : Int))), (8, .bool ((decide ((((k : Nat) : Int) : Int) < (((l.length : Nat) : Int) : Int)))))]) ⟨rfl, rfl, rfl, rfl, rfl, trivial⟩ ?_)
      refine WE.round (k + 1) ⟨rfl, rfl, rfl, rfl, trivial⟩ ?_ ?_
      · have hb14 : Below w.heap.size w w13 := (bstep hb2 hq12)
        exact ⟨by omega, hb14⟩
      · omega
    · have h3 : ¬ ((((k : Nat) : Int) : Int) < (((l.length : Nat) : Int) : Int)) := by simpa using h3
      refine WC.exit ?_
      refine WE.thenExit ?_
      refine WE.thenExit ?_
      refine WE.blockIs rfl ?_
      refine WE.next ?_
      refine WC.seq ?_
      refine WC.region ?_
      refine WL.val (.int .i64 ((((clSize (l.take k)) : Nat) : Int))) rfl rfl rfl (fun za zC zh zk => wp_move rfl (zh.ev rfl) zk) ?_
      refine WL.val (.int .i64 ((((clSize (l.take k)) : Nat) : Int))) rfl rfl rfl (fun za zC zh zk => wp_assign rfl (zh.ev rfl) zk) ?_
      refine WL.nil (WE.sub (K' := [(0, .slice a l.length c), (2, .int .i64 ((((clSize (l.take k)) : Nat) : Int))), (3, .int .i64 ((((clSize (l.take k)) : Nat) : Int))), (4, .int .i64 (((k : Nat) : Int))), (8, .bool ((decide ((((k : Nat) : Int) : Int) < (((l.length : Nat) : Int) : Int)))))]) ⟨rfl, rfl, rfl, rfl, rfl, trivial⟩ ?_)
      refine WE.next ?_
      refine WC.ret ?_
      refine WE.ret1 rfl rfl ?_
      exact ⟨_, rfl, by rw [List.take_of_length_le (show l.length ≤ k by omega)], hb2⟩

set_option maxRecDepth 100000 in
theorem large_any (l : List Li) (w : World) (a : Option Addr) (c : Nat) (hl : IsCl w l a c) (hlz : l.length ≤ 1048576) : Calls Try.prog 7 #[.slice a l.length c] w (Ret fun v' w' => v' = .bool (decide ((40 : Int) < (l.length : Int)) || decide ((1000 : Int) < (clSize l : Int))) ∧ Below w.heap.size w w') := by
  refine Calls.walk (l := [.slice a l.length c]) Try.func7 rfl (by kernel_rfl) ?_
  refine WC.sub (K' := [(0, .slice a l.length c)]) ⟨rfl, trivial⟩ ?_
  refine WC.seq ?_
  refine WC.region ?_
  refine WL.val (.bool false) rfl rfl rfl (fun za zC zh zk => wp_assign rfl (zh.ev rfl) zk) ?_
  refine WL.nil (WE.sub (K' := [(0, .slice a l.length c), (2, .bool false)]) ⟨rfl, rfl, trivial⟩ ?_)
  refine WE.next ?_
  refine WC.seq ?_
  refine WC.opt [(true, .val (.slice a l.length c)), (true, .val (.int .i64 (((l.length : Nat) : Int)))), (true, .val (.bool ((decide ((40 : Int) < (((l.length : Nat) : Int) : Int)))))), (true, .val (.bool ((decide ((40 : Int) < (((l.length : Nat) : Int) : Int)))))), ((true && !(decide ((40 : Int) < (((l.length : Nat) : Int) : Int)))), .val (.slice a l.length c)), ((true && !(decide ((40 : Int) < (((l.length : Nat) : Int) : Int)))), .val (.int .i64 ((((clSize l) : Nat) : Int)))), ((true && !(decide ((40 : Int) < (((l.length : Nat) : Int) : Int)))), .val (.bool ((decide ((1000 : Int) < ((((clSize l) : Nat) : Int) : Int)))))), (true, .val (.bool (((decide ((40 : Int) < (((l.length : Nat) : Int) : Int))) || (decide ((1000 : Int) < ((((clSize l) : Nat) : Int) : Int))))))), (true, .val (.bool (((decide ((40 : Int) < (((l.length : Nat) : Int) : Int))) || (decide ((1000 : Int) < ((((clSize l) : Nat) : Int) : Int)))))))] [(0, .slice a l.length c)] ⟨rfl, trivial⟩ (by kernel_rfl) (by kernel_rfl) (by kernel_rfl) ?_ ?_
  · refine ⟨⟨true, .none rfl, fun h w => optUndef h, fun zβ za zw zc => ?_⟩, ?_⟩
    · exact wp_move rfl (zc.kn.ev rfl) ⟨_, rfl, Below.refl _ _, optDef zβ rfl⟩
    refine ⟨⟨true, .none rfl, fun h w => optUndef h, fun zβ za zw zc => ?_⟩, ?_⟩
    · exact len_24 rfl ((show za.eval (.tmp 3) = za.tmps.getD 3 undef from rfl).trans (optVal (zc.dep 0 3 (by kernel_rfl)) rfl rfl)) ⟨_, rfl, Below.refl _ _, optDef zβ rfl⟩
    refine ⟨⟨true, .none rfl, fun h w => optUndef h, fun zβ za zw zc => ?_⟩, ?_⟩
    · exact gtr_3 rfl ((show za.eval (.tmp 4) = za.tmps.getD 4 undef from rfl).trans (optVal (zc.dep 1 4 (by kernel_rfl)) rfl rfl)) (zc.kn.ev rfl) ⟨_, rfl, Below.refl _ _, optDef zβ rfl⟩
    refine ⟨⟨true, .none rfl, fun h w => optUndef h, fun zβ za zw zc => ?_⟩, ?_⟩
    · exact wp_move rfl ((show za.eval (.tmp 5) = za.tmps.getD 5 undef from rfl).trans (optVal (zc.dep 2 5 (by kernel_rfl)) rfl rfl)) ⟨_, rfl, Below.refl _ _, optDef zβ rfl⟩
    refine ⟨⟨(true && !(decide ((40 : Int) < (((l.length : Nat) : Int) : Int)))), .no (c := (decide ((40 : Int) < (((l.length : Nat) : Int) : Int)))) (d := true) rfl (fun v w h => h), fun h w => optUndef h, fun zβ za zw zc => ?_⟩, ?_⟩
    · exact wp_move rfl (zc.kn.ev rfl) ⟨_, rfl, Below.refl _ _, optDef zβ rfl⟩
    refine ⟨⟨(true && !(decide ((40 : Int) < (((l.length : Nat) : Int) : Int)))), .no (c := (decide ((40 : Int) < (((l.length : Nat) : Int) : Int)))) (d := true) rfl (fun v w h => h), fun h w => optUndef h, fun zβ za zw zc => ?_⟩, ?_⟩
    · exact wp_call (by kernel_rfl) rfl (hv1 ((show za.eval (.tmp 7) = za.tmps.getD 7 undef from rfl).trans (optVal (zc.dep 4 7 (by kernel_rfl)) rfl zβ))) (rsizec_any l _ _ _ (hl.below zc.below) hlz) (fun v w' h => ⟨v, rfl, h.2, optDef zβ h.1⟩)
    refine ⟨⟨(true && !(decide ((40 : Int) < (((l.length : Nat) : Int) : Int)))), .no (c := (decide ((40 : Int) < (((l.length : Nat) : Int) : Int)))) (d := true) rfl (fun v w h => h), fun h w => optUndef h, fun zβ za zw zc => ?_⟩, ?_⟩
    · exact gtr_3 rfl ((show za.eval (.tmp 8) = za.tmps.getD 8 undef from rfl).trans (optVal (zc.dep 5 8 (by kernel_rfl)) rfl zβ)) (zc.kn.ev rfl) ⟨_, rfl, Below.refl _ _, optDef zβ rfl⟩
    refine ⟨⟨true, .none rfl, fun h w => optUndef h, fun zβ za zw zc => ?_⟩, ?_⟩
    · exact wp_or rfl ((show za.eval (.tmp 6) = za.tmps.getD 6 undef from rfl).trans (optVal (zc.dep 3 6 (by kernel_rfl)) rfl rfl)) (fun hp => ((show za.eval (.tmp 9) = za.tmps.getD 9 undef from rfl).trans (optVal (zc.dep 6 9 (by kernel_rfl)) rfl (bMkN zβ hp)))) ⟨_, rfl, Below.refl _ _, optDef zβ rfl⟩
    refine ⟨⟨true, .none rfl, fun h w => optUndef h, fun zβ za zw zc => ?_⟩, ?_⟩
    · exact wp_assign rfl ((show za.eval (.tmp 10) = za.tmps.getD 10 undef from rfl).trans (optVal (zc.dep 7 10 (by kernel_rfl)) rfl rfl)) ⟨_, rfl, Below.refl _ _, optDef zβ rfl⟩
    exact trivial
  · intro za w2 zh hb3 zu
    have zh := zh.cons (d := 2) (v := .bool (((decide ((40 : Int) < (((l.length : Nat) : Int) : Int))) || (decide ((1000 : Int) < ((((clSize l) : Nat) : Int) : Int)))))) (optVal (zu 8 2 (by kernel_rfl)) rfl rfl)
    clear zu
    refine (show WE _ [(0, .slice a l.length c), (2, .bool (((decide ((40 : Int) < (((l.length : Nat) : Int) : Int))) || (decide ((1000 : Int) < ((((clSize l) : Nat) : Int) : Int))))))] w2 _ .normal from ?_) za (zh.sub ⟨rfl, rfl, trivial⟩)
    refine WE.next ?_
    refine WC.ret ?_
    refine WE.ret1 rfl rfl ?_
    exact ⟨_, rfl, by rfl, hb3⟩

end Go.Proofs.Ytjhkoiggeepajaa
