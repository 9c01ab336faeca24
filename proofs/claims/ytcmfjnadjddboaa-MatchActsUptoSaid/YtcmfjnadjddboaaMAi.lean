/- Match and Variant: the document; substitutions compared. -/
import Derived.Test.YtcmfjnadjddboaaMAf
import Derived.Test.YtcmfjnadjddboaaMAh
import Derived.Test.YtcmfjnadjddboaaMAd

/- The document tells its bindings: the program. -/
namespace Go.Proofs.Ytcmfjnadjddboaa
open Go.RowKit Go
set_option linter.unusedVariables false
set_option linter.unusedSimpArgs false

set_option maxRecDepth 100000 in
theorem rsub_any {g : Nat} {st : List Bd} {D : Nat → Prop} (w : World) (h : RefAt w g st D) (hnd : (st.map (·.var)).Nodup) (hz : st.length ≤ 4294967296) : Calls Try.prog 24 #[.pointer (some ⟨g, 0, none⟩)] w (Ret fun v' w' => (∃ R p c, v' = .slice p R.length c ∧ SubOf st R ∧ NewBs w w' R p c) ∧ Below w.heap.size w w') := by
  obtain ⟨a, c, hR⟩ := h
  have hgl := hR.blk.lt
  have hrow := hR.rows
  have hcapR := hR.cap
  have hcap3 := hcapR.2
  unfold maxLen at hcap3
  refine Calls.walk (l := [.pointer (some ⟨g, 0, none⟩)]) Try.func24 rfl (by kernel_rfl) ?_
  refine WC.sub (K' := [(0, .pointer (some ⟨g, 0, none⟩))]) ⟨rfl, trivial⟩ ?_
  refine WC.seq ?_
  refine WC.region ?_
  refine WL.val (.slice none 0 0) rfl rfl rfl (fun za zC zh zk => wp_assign rfl (zh.ev rfl) zk) ?_
  refine WL.nil (WE.sub (K' := [(0, .pointer (some ⟨g, 0, none⟩)), (2, .slice none 0 0)]) ⟨rfl, rfl, trivial⟩ ?_)
  refine WE.next ?_
  refine WC.seq ?_
  refine WC.region ?_
  refine WL.val (.slice none 0 0) rfl rfl rfl (fun za zC zh zk => wp_assign rfl (zh.ev rfl) zk) ?_
  refine WL.nil (WE.sub (K' := [(0, .pointer (some ⟨g, 0, none⟩)), (2, .slice none 0 0), (3, .slice none 0 0)]) ⟨rfl, rfl, rfl, trivial⟩ ?_)
  refine WE.next ?_
  refine WC.seq ?_
  refine WC.seq ?_
  refine WC.region ?_
  refine WL.val (.int .i64 0) rfl rfl rfl (fun za zC zh zk => wp_assign rfl (zh.ev rfl) zk) ?_
  refine WL.nil (WE.sub (K' := [(0, .pointer (some ⟨g, 0, none⟩)), (2, .slice none 0 0), (3, .slice none 0 0), (4, .int .i64 0)]) ⟨rfl, rfl, rfl, rfl, trivial⟩ ?_)
  refine WE.next ?_
  refine WC.block ?_
  have hl1 : g < w.heap.size := by have z1 := hR.blk.lt; omega
  have hR2 : RowE eltB w w.heap.size 57 none 0 0 [] := RowE.nil
  refine WC.loop (X := RX) (fun x => st.length - x.i) (fun x => [(0, .pointer (some ⟨g, 0, none⟩)), (2, .slice none 0 0), (3, .slice x.a x.n x.c), (4, .int .i64 (((x.i : Nat) : Int)))]) (fun x w3 => x.i ≤ st.length ∧ w.heap.size ≤ (w3).heap.size ∧ SubOf (st.take x.i) x.L ∧ Below w.heap.size w w3 ∧ Blk w3 g 37 #[.slice a st.length c] ∧ RowE eltB (w3) w.heap.size 57 x.a x.c x.n x.L) (⟨0, none, 0, 0, []⟩) ⟨rfl, rfl, rfl, rfl, trivial⟩ ?_ ?_
  · exact ⟨Nat.zero_le _, Nat.le_refl _, subOf_nil, (Below.refl _ _), hR.blk, hR2⟩
  · rintro x w3 ⟨hk, hBw, hso, hb4, hB5, ho6⟩
    have hLl := hso.length_le
    have hLl2 : x.L.length ≤ x.i := by have z := hso.length_le; simp at z; omega
    refine WC.seq ?_
    refine WC.seq ?_
    refine WC.region ?_
    refine WL.val (.int .i64 (((x.i : Nat) : Int))) rfl rfl rfl (fun za zC zh zk => wp_move rfl (zh.ev rfl) zk) ?_
    refine WL.val (.pointer (some ⟨g, 0, none⟩)) rfl rfl rfl (fun za zC zh zk => wp_move rfl (zh.ev rfl) zk) ?_
    refine WL.val (.pointer (some ⟨g, 0, none⟩)) rfl rfl rfl (fun za zC zh zk => nilCheck_ rfl (zh.ev rfl) zk) ?_
    refine WL.val (.pointer (some ⟨g, 0, none⟩)) rfl rfl rfl (fun za zC zh zk => fld_37_0 rfl (zh.ev rfl) zk) ?_
    refine WL.val (.slice a st.length c) rfl rfl rfl (fun za zC zh zk => ld_25 rfl (zh.ev rfl) ((hB5.cell 0).trans rfl) zk) ?_
    refine WL.val (.int .i64 (((st.length : Nat) : Int))) rfl rfl rfl (fun za zC zh zk => len_25 rfl (zh.ev rfl) zk) ?_
    refine WL.val (.bool ((decide ((((x.i : Nat) : Int) : Int) < (((st.length : Nat) : Int) : Int))))) rfl rfl rfl (fun za zC zh zk => lss_3 rfl (zh.ev rfl) (zh.ev rfl) zk) ?_
    refine WL.nil (WE.sub (K' := [(0, .pointer (some ⟨g, 0, none⟩)), (2, .slice none 0 0), (3, .slice x.a x.n x.c), (4, .int .i64 (((x.i : Nat) : Int))), (13, .bool ((decide ((((x.i : Nat) : Int) : Int) < (((st.length : Nat) : Int) : Int)))))]) ⟨rfl, rfl, rfl, rfl, rfl, trivial⟩ ?_)
    refine WE.next ?_
    refine WC.cond rfl (fun h7 => ?_) (fun h7 => ?_)
    · have h7 : (((x.i : Nat) : Int) : Int) < (((st.length : Nat) : Int) : Int) := by simpa using h7
      refine WC.skip ?_
      refine WE.next ?_
      refine WC.seq ?_
      refine WC.block ?_
      refine WC.seq ?_
      refine WC.seq ?_
      have hi64 := (hR.rows x.i (by omega))
      have hi64b : I64 (dget st x.i).var := by obtain ⟨_, _, _, _, _, ⟨_, _, _, q, _⟩, _⟩ := hi64; rw [dget_lt (by omega)]; exact q
      unfold I64 at hi64b
      have hszi := hR.sz _ (dget_mem (l := st) (k := x.i) (by omega))
      obtain ⟨b8, o9, A10, C11, ha12, hc13⟩ := InRow.openB hrow
      refine WC.opt [(true, .val (.pointer (some ⟨g, 0, none⟩))), (true, .val (.pointer (some ⟨g, 0, none⟩))), (true, .val (.pointer (some ⟨g, 0, none⟩))), (true, .val (.slice a st.length c)), (true, .val (.int .i64 (((x.i : Nat) : Int)))), (true, .val (.pointer (some ⟨b8, o9 + x.i * 3, none⟩))), (true, .val (.pointer (some ⟨b8, o9 + x.i * 3 + 1, none⟩))), (true, .val (.pointer (some ⟨b8, o9 + x.i * 3 + 1, none⟩))), (true, .val (.int .i64 ((dget st x.i).t.f))), (true, .val (.pointer (some ⟨g, 0, none⟩))), (true, .val (.pointer (some ⟨g, 0, none⟩))), (true, .val (.pointer (some ⟨g, 0, none⟩))), (true, .val (.slice a st.length c)), (true, .val (.int .i64 (((x.i : Nat) : Int)))), (true, .val (.pointer (some ⟨b8, o9 + x.i * 3, none⟩))), (true, .val (.pointer (some ⟨b8, o9 + x.i * 3, none⟩))), (true, .val (.int .i64 ((dget st x.i).var))), (true, .val (.int .i64 ((-1 - (dget st x.i).var)))), (true, .val (.bool ((((dget st x.i).t.f : Int) == ((-1 - (dget st x.i).var) : Int))))), (true, .val (.bool ((((dget st x.i).t.f : Int) == ((-1 - (dget st x.i).var) : Int))))), ((true && (((dget st x.i).t.f : Int) == ((-1 - (dget st x.i).var) : Int))), .val (.pointer (some ⟨g, 0, none⟩))), ((true && (((dget st x.i).t.f : Int) == ((-1 - (dget st x.i).var) : Int))), .val (.pointer (some ⟨g, 0, none⟩))), ((true && (((dget st x.i).t.f : Int) == ((-1 - (dget st x.i).var) : Int))), .val (.pointer (some ⟨g, 0, none⟩))), ((true && (((dget st x.i).t.f : Int) == ((-1 - (dget st x.i).var) : Int))), .val (.slice a st.length c)), ((true && (((dget st x.i).t.f : Int) == ((-1 - (dget st x.i).var) : Int))), .val (.int .i64 (((x.i : Nat) : Int)))), ((true && (((dget st x.i).t.f : Int) == ((-1 - (dget st x.i).var) : Int))), .val (.pointer (some ⟨b8, o9 + x.i * 3, none⟩))), ((true && (((dget st x.i).t.f : Int) == ((-1 - (dget st x.i).var) : Int))), .val (.pointer (some ⟨b8, o9 + x.i * 3 + 1, none⟩))), ((true && (((dget st x.i).t.f : Int) == ((-1 - (dget st x.i).var) : Int))), .val (.pointer (some ⟨b8, o9 + x.i * 3 + 2, none⟩))), ((true && (((dget st x.i).t.f : Int) == ((-1 - (dget st x.i).var) : Int))), .val (.slice ((A10 x.i)) ((dget st x.i).t.args.length) ((C11 x.i)))), ((true && (((dget st x.i).t.f : Int) == ((-1 - (dget st x.i).var) : Int))), .val (.int .i64 ((((dget st x.i).t.args.length : Nat) : Int)))), ((true && (((dget st x.i).t.f : Int) == ((-1 - (dget st x.i).var) : Int))), .val (.bool ((((((dget st x.i).t.args.length : Nat) : Int) : Int) == (0 : Int))))), (true, .val (.bool (((((dget st x.i).t.f : Int) == ((-1 - (dget st x.i).var) : Int)) && (((((dget st x.i).t.args.length : Nat) : Int) : Int) == (0 : Int))))))] [(0, .pointer (some ⟨g, 0, none⟩)), (2, .slice none 0 0), (3, .slice x.a x.n x.c), (4, .int .i64 (((x.i : Nat) : Int))), (13, .bool ((decide ((((x.i : Nat) : Int) : Int) < (((st.length : Nat) : Int) : Int)))))] ⟨rfl, rfl, rfl, rfl, rfl, trivial⟩ (by kernel_rfl) (by kernel_rfl) (by kernel_rfl) ?_ ?_
      · refine ⟨⟨true, .none rfl, fun h w => optUndef h, fun zβ za zw zc => ?_⟩, ?_⟩
        · exact wp_move rfl (zc.kn.ev rfl) ⟨_, rfl, Below.refl _ _, optDef zβ rfl⟩
        refine ⟨⟨true, .none rfl, fun h w => optUndef h, fun zβ za zw zc => ?_⟩, ?_⟩
        · exact nilCheck_ rfl ((show za.eval (.tmp 16) = za.tmps.getD 16 undef from rfl).trans (optVal (zc.dep 0 16 (by kernel_rfl)) rfl rfl)) ⟨_, rfl, Below.refl _ _, optDef zβ rfl⟩
        refine ⟨⟨true, .none rfl, fun h w => optUndef h, fun zβ za zw zc => ?_⟩, ?_⟩
        · exact fld_37_0 rfl ((show za.eval (.tmp 17) = za.tmps.getD 17 undef from rfl).trans (optVal (zc.dep 1 17 (by kernel_rfl)) rfl rfl)) ⟨_, rfl, Below.refl _ _, optDef zβ rfl⟩
        refine ⟨⟨true, .none rfl, fun h w => optUndef h, fun zβ za zw zc => ?_⟩, ?_⟩
        · exact ld_25 rfl ((show za.eval (.tmp 18) = za.tmps.getD 18 undef from rfl).trans (optVal (zc.dep 2 18 (by kernel_rfl)) rfl rfl)) (bkeeps zc.below _ _ ((hB5.cell 0).trans rfl)) ⟨_, rfl, Below.refl _ _, optDef zβ rfl⟩
        refine ⟨⟨true, .none rfl, fun h w => optUndef h, fun zβ za zw zc => ?_⟩, ?_⟩
        · exact wp_move rfl (zc.kn.ev rfl) ⟨_, rfl, Below.refl _ _, optDef zβ rfl⟩
        refine ⟨⟨true, .none rfl, fun h w => optUndef h, fun zβ za zw zc => ?_⟩, ?_⟩
        · exact ix_25 (k := x.i) rfl ((show za.eval (.tmp 19) = za.tmps.getD 19 undef from rfl).trans (optVal (zc.dep 3 19 (by kernel_rfl)) rfl rfl)) (ha12 x.i (by first | omega | (simp; omega))) ((show za.eval (.tmp 20) = za.tmps.getD 20 undef from rfl).trans (optVal (zc.dep 4 20 (by kernel_rfl)) rfl rfl)) (by first | omega | (simp; omega)) ⟨_, rfl, Below.refl _ _, optDef zβ rfl⟩
        refine ⟨⟨true, .none rfl, fun h w => optUndef h, fun zβ za zw zc => ?_⟩, ?_⟩
        · exact fld_57_1 rfl ((show za.eval (.tmp 21) = za.tmps.getD 21 undef from rfl).trans (optVal (zc.dep 5 21 (by kernel_rfl)) rfl rfl)) ⟨_, rfl, Below.refl _ _, optDef zβ rfl⟩
        refine ⟨⟨true, .none rfl, fun h w => optUndef h, fun zβ za zw zc => ?_⟩, ?_⟩
        · exact fld_24_0 rfl ((show za.eval (.tmp 22) = za.tmps.getD 22 undef from rfl).trans (optVal (zc.dep 6 22 (by kernel_rfl)) rfl rfl)) ⟨_, rfl, Below.refl _ _, optDef zβ rfl⟩
        refine ⟨⟨true, .none rfl, fun h w => optUndef h, fun zβ za zw zc => ?_⟩, ?_⟩
        · exact ld_3 rfl ((show za.eval (.tmp 23) = za.tmps.getD 23 undef from rfl).trans (optVal (zc.dep 7 23 (by kernel_rfl)) rfl rfl)) (bkeeps (bstep hb4 zc.below) _ _ (hc13 x.i (by first | omega | (simp; omega))).2.1) ⟨_, rfl, Below.refl _ _, optDef zβ rfl⟩
        refine ⟨⟨true, .none rfl, fun h w => optUndef h, fun zβ za zw zc => ?_⟩, ?_⟩
        · exact wp_move rfl (zc.kn.ev rfl) ⟨_, rfl, Below.refl _ _, optDef zβ rfl⟩
        refine ⟨⟨true, .none rfl, fun h w => optUndef h, fun zβ za zw zc => ?_⟩, ?_⟩
        · exact nilCheck_ rfl ((show za.eval (.tmp 25) = za.tmps.getD 25 undef from rfl).trans (optVal (zc.dep 9 25 (by kernel_rfl)) rfl rfl)) ⟨_, rfl, Below.refl _ _, optDef zβ rfl⟩
        refine ⟨⟨true, .none rfl, fun h w => optUndef h, fun zβ za zw zc => ?_⟩, ?_⟩
        · exact fld_37_0 rfl ((show za.eval (.tmp 26) = za.tmps.getD 26 undef from rfl).trans (optVal (zc.dep 10 26 (by kernel_rfl)) rfl rfl)) ⟨_, rfl, Below.refl _ _, optDef zβ rfl⟩
        refine ⟨⟨true, .none rfl, fun h w => optUndef h, fun zβ za zw zc => ?_⟩, ?_⟩
        · exact ld_25 rfl ((show za.eval (.tmp 27) = za.tmps.getD 27 undef from rfl).trans (optVal (zc.dep 11 27 (by kernel_rfl)) rfl rfl)) (bkeeps zc.below _ _ ((hB5.cell 0).trans rfl)) ⟨_, rfl, Below.refl _ _, optDef zβ rfl⟩
        refine ⟨⟨true, .none rfl, fun h w => optUndef h, fun zβ za zw zc => ?_⟩, ?_⟩
        · exact wp_move rfl (zc.kn.ev rfl) ⟨_, rfl, Below.refl _ _, optDef zβ rfl⟩
        refine ⟨⟨true, .none rfl, fun h w => optUndef h, fun zβ za zw zc => ?_⟩, ?_⟩
        · exact ix_25 (k := x.i) rfl ((show za.eval (.tmp 28) = za.tmps.getD 28 undef from rfl).trans (optVal (zc.dep 12 28 (by kernel_rfl)) rfl rfl)) (ha12 x.i (by first | omega | (simp; omega))) ((show za.eval (.tmp 29) = za.tmps.getD 29 undef from rfl).trans (optVal (zc.dep 13 29 (by kernel_rfl)) rfl rfl)) (by first | omega | (simp; omega)) ⟨_, rfl, Below.refl _ _, optDef zβ rfl⟩
        refine ⟨⟨true, .none rfl, fun h w => optUndef h, fun zβ za zw zc => ?_⟩, ?_⟩
        · exact fld_57_0 rfl ((show za.eval (.tmp 30) = za.tmps.getD 30 undef from rfl).trans (optVal (zc.dep 14 30 (by kernel_rfl)) rfl rfl)) ⟨_, rfl, Below.refl _ _, optDef zβ rfl⟩
        refine ⟨⟨true, .none rfl, fun h w => optUndef h, fun zβ za zw zc => ?_⟩, ?_⟩
        · exact ld_3 rfl ((show za.eval (.tmp 31) = za.tmps.getD 31 undef from rfl).trans (optVal (zc.dep 15 31 (by kernel_rfl)) rfl rfl)) (bkeeps (bstep hb4 zc.below) _ _ (hc13 x.i (by first | omega | (simp; omega))).1) ⟨_, rfl, Below.refl _ _, optDef zβ rfl⟩
        refine ⟨⟨true, .none rfl, fun h w => optUndef h, fun zβ za zw zc => ?_⟩, ?_⟩
        · exact subb_3 rfl (zc.kn.ev rfl) ((show za.eval (.tmp 32) = za.tmps.getD 32 undef from rfl).trans (optVal (zc.dep 16 32 (by kernel_rfl)) rfl rfl)) (wrap_eq rfl (by omega) (by omega)) ⟨_, rfl, Below.refl _ _, optDef zβ rfl⟩
        refine ⟨⟨true, .none rfl, fun h w => optUndef h, fun zβ za zw zc => ?_⟩, ?_⟩
        · exact eql_3 rfl ((show za.eval (.tmp 24) = za.tmps.getD 24 undef from rfl).trans (optVal (zc.dep 8 24 (by kernel_rfl)) rfl rfl)) ((show za.eval (.tmp 33) = za.tmps.getD 33 undef from rfl).trans (optVal (zc.dep 17 33 (by kernel_rfl)) rfl rfl)) ⟨_, rfl, Below.refl _ _, optDef zβ rfl⟩
        refine ⟨⟨true, .none rfl, fun h w => optUndef h, fun zβ za zw zc => ?_⟩, ?_⟩
        · exact wp_move rfl ((show za.eval (.tmp 34) = za.tmps.getD 34 undef from rfl).trans (optVal (zc.dep 18 34 (by kernel_rfl)) rfl rfl)) ⟨_, rfl, Below.refl _ _, optDef zβ rfl⟩
        refine ⟨⟨(true && (((dget st x.i).t.f : Int) == ((-1 - (dget st x.i).var) : Int))), .yes (c := (((dget st x.i).t.f : Int) == ((-1 - (dget st x.i).var) : Int))) (d := true) rfl (fun v w h => h), fun h w => optUndef h, fun zβ za zw zc => ?_⟩, ?_⟩
        · exact wp_move rfl (zc.kn.ev rfl) ⟨_, rfl, Below.refl _ _, optDef zβ rfl⟩
        refine ⟨⟨(true && (((dget st x.i).t.f : Int) == ((-1 - (dget st x.i).var) : Int))), .yes (c := (((dget st x.i).t.f : Int) == ((-1 - (dget st x.i).var) : Int))) (d := true) rfl (fun v w h => h), fun h w => optUndef h, fun zβ za zw zc => ?_⟩, ?_⟩
        · exact nilCheck_ rfl ((show za.eval (.tmp 36) = za.tmps.getD 36 undef from rfl).trans (optVal (zc.dep 20 36 (by kernel_rfl)) rfl zβ)) ⟨_, rfl, Below.refl _ _, optDef zβ rfl⟩
        refine ⟨⟨(true && (((dget st x.i).t.f : Int) == ((-1 - (dget st x.i).var) : Int))), .yes (c := (((dget st x.i).t.f : Int) == ((-1 - (dget st x.i).var) : Int))) (d := true) rfl (fun v w h => h), fun h w => optUndef h, fun zβ za zw zc => ?_⟩, ?_⟩
        · exact fld_37_0 rfl ((show za.eval (.tmp 37) = za.tmps.getD 37 undef from rfl).trans (optVal (zc.dep 21 37 (by kernel_rfl)) rfl zβ)) ⟨_, rfl, Below.refl _ _, optDef zβ rfl⟩
        refine ⟨⟨(true && (((dget st x.i).t.f : Int) == ((-1 - (dget st x.i).var) : Int))), .yes (c := (((dget st x.i).t.f : Int) == ((-1 - (dget st x.i).var) : Int))) (d := true) rfl (fun v w h => h), fun h w => optUndef h, fun zβ za zw zc => ?_⟩, ?_⟩
        · exact ld_25 rfl ((show za.eval (.tmp 38) = za.tmps.getD 38 undef from rfl).trans (optVal (zc.dep 22 38 (by kernel_rfl)) rfl zβ)) (bkeeps zc.below _ _ ((hB5.cell 0).trans rfl)) ⟨_, rfl, Below.refl _ _, optDef zβ rfl⟩
        refine ⟨⟨(true && (((dget st x.i).t.f : Int) == ((-1 - (dget st x.i).var) : Int))), .yes (c := (((dget st x.i).t.f : Int) == ((-1 - (dget st x.i).var) : Int))) (d := true) rfl (fun v w h => h), fun h w => optUndef h, fun zβ za zw zc => ?_⟩, ?_⟩
        · exact wp_move rfl (zc.kn.ev rfl) ⟨_, rfl, Below.refl _ _, optDef zβ rfl⟩
        refine ⟨⟨(true && (((dget st x.i).t.f : Int) == ((-1 - (dget st x.i).var) : Int))), .yes (c := (((dget st x.i).t.f : Int) == ((-1 - (dget st x.i).var) : Int))) (d := true) rfl (fun v w h => h), fun h w => optUndef h, fun zβ za zw zc => ?_⟩, ?_⟩
        · exact ix_25 (k := x.i) rfl ((show za.eval (.tmp 39) = za.tmps.getD 39 undef from rfl).trans (optVal (zc.dep 23 39 (by kernel_rfl)) rfl zβ)) (ha12 x.i (by first | omega | (have zz := zβ; simp only [Bool.and_eq_true, Bool.or_eq_true, Bool.true_and, Bool.not_eq_true', Bool.or_eq_false_iff, Bool.and_eq_false_iff, beq_eq_false_iff_ne, ne_eq, beq_iff_eq, decide_eq_true_eq, decide_eq_false_iff_not, bne_iff_ne] at zz; omega))) ((show za.eval (.tmp 40) = za.tmps.getD 40 undef from rfl).trans (optVal (zc.dep 24 40 (by kernel_rfl)) rfl zβ)) (by first | omega | (have zz := zβ; simp only [Bool.and_eq_true, Bool.or_eq_true, Bool.true_and, Bool.not_eq_true', Bool.or_eq_false_iff, Bool.and_eq_false_iff, beq_eq_false_iff_ne, ne_eq, beq_iff_eq, decide_eq_true_eq, decide_eq_false_iff_not, bne_iff_ne] at zz; omega)) ⟨_, rfl, Below.refl _ _, optDef zβ rfl⟩
        refine ⟨⟨(true && (((dget st x.i).t.f : Int) == ((-1 - (dget st x.i).var) : Int))), .yes (c := (((dget st x.i).t.f : Int) == ((-1 - (dget st x.i).var) : Int))) (d := true) rfl (fun v w h => h), fun h w => optUndef h, fun zβ za zw zc => ?_⟩, ?_⟩
        · exact fld_57_1 rfl ((show za.eval (.tmp 41) = za.tmps.getD 41 undef from rfl).trans (optVal (zc.dep 25 41 (by kernel_rfl)) rfl zβ)) ⟨_, rfl, Below.refl _ _, optDef zβ rfl⟩
        refine ⟨⟨(true && (((dget st x.i).t.f : Int) == ((-1 - (dget st x.i).var) : Int))), .yes (c := (((dget st x.i).t.f : Int) == ((-1 - (dget st x.i).var) : Int))) (d := true) rfl (fun v w h => h), fun h w => optUndef h, fun zβ za zw zc => ?_⟩, ?_⟩
        · exact fld_24_1 rfl ((show za.eval (.tmp 42) = za.tmps.getD 42 undef from rfl).trans (optVal (zc.dep 26 42 (by kernel_rfl)) rfl zβ)) ⟨_, rfl, Below.refl _ _, optDef zβ rfl⟩
        refine ⟨⟨(true && (((dget st x.i).t.f : Int) == ((-1 - (dget st x.i).var) : Int))), .yes (c := (((dget st x.i).t.f : Int) == ((-1 - (dget st x.i).var) : Int))) (d := true) rfl (fun v w h => h), fun h w => optUndef h, fun zβ za zw zc => ?_⟩, ?_⟩
        · exact ld_22 rfl ((show za.eval (.tmp 43) = za.tmps.getD 43 undef from rfl).trans (optVal (zc.dep 27 43 (by kernel_rfl)) rfl zβ)) (bkeeps (bstep hb4 zc.below) _ _ (hc13 x.i (by first | omega | (have zz := zβ; simp only [Bool.and_eq_true, Bool.or_eq_true, Bool.true_and, Bool.not_eq_true', Bool.or_eq_false_iff, Bool.and_eq_false_iff, beq_eq_false_iff_ne, ne_eq, beq_iff_eq, decide_eq_true_eq, decide_eq_false_iff_not, bne_iff_ne] at zz; omega))).2.2.1) ⟨_, rfl, Below.refl _ _, optDef zβ rfl⟩
        refine ⟨⟨(true && (((dget st x.i).t.f : Int) == ((-1 - (dget st x.i).var) : Int))), .yes (c := (((dget st x.i).t.f : Int) == ((-1 - (dget st x.i).var) : Int))) (d := true) rfl (fun v w h => h), fun h w => optUndef h, fun zβ za zw zc => ?_⟩, ?_⟩
        · exact len_22 rfl ((show za.eval (.tmp 44) = za.tmps.getD 44 undef from rfl).trans (optVal (zc.dep 28 44 (by kernel_rfl)) rfl zβ)) ⟨_, rfl, Below.refl _ _, optDef zβ rfl⟩
        refine ⟨⟨(true && (((dget st x.i).t.f : Int) == ((-1 - (dget st x.i).var) : Int))), .yes (c := (((dget st x.i).t.f : Int) == ((-1 - (dget st x.i).var) : Int))) (d := true) rfl (fun v w h => h), fun h w => optUndef h, fun zβ za zw zc => ?_⟩, ?_⟩
        · exact eql_3 rfl ((show za.eval (.tmp 45) = za.tmps.getD 45 undef from rfl).trans (optVal (zc.dep 29 45 (by kernel_rfl)) rfl zβ)) (zc.kn.ev rfl) ⟨_, rfl, Below.refl _ _, optDef zβ rfl⟩
        refine ⟨⟨true, .none rfl, fun h w => optUndef h, fun zβ za zw zc => ?_⟩, ?_⟩
        · exact wp_and rfl ((show za.eval (.tmp 35) = za.tmps.getD 35 undef from rfl).trans (optVal (zc.dep 19 35 (by kernel_rfl)) rfl rfl)) (fun hp => ((show za.eval (.tmp 46) = za.tmps.getD 46 undef from rfl).trans (optVal (zc.dep 30 46 (by kernel_rfl)) rfl (bMk zβ hp)))) ⟨_, rfl, Below.refl _ _, optDef zβ rfl⟩
        exact trivial
      · intro za w14 zh hb15 zu
        have zh := zh.cons (d := 47) (v := .bool (((((dget st x.i).t.f : Int) == ((-1 - (dget st x.i).var) : Int)) && (((((dget st x.i).t.args.length : Nat) : Int) : Int) == (0 : Int))))) (optVal (zu 31 47 (by kernel_rfl)) rfl rfl)
        clear zu
        refine (show WE _ [(0, .pointer (some ⟨g, 0, none⟩)), (2, .slice none 0 0), (3, .slice x.a x.n x.c), (4, .int .i64 (((x.i : Nat) : Int))), (13, .bool ((decide ((((x.i : Nat) : Int) : Int) < (((st.length : Nat) : Int) : Int))))), (47, .bool (((((dget st x.i).t.f : Int) == ((-1 - (dget st x.i).var) : Int)) && (((((dget st x.i).t.args.length : Nat) : Int) : Int) == (0 : Int)))))] w14 _ .normal from ?_) za (zh.sub ⟨rfl, rfl, rfl, rfl, rfl, rfl, trivial⟩)
        refine WE.next ?_
        refine WC.cond rfl (fun h16 => ?_) (fun h16 => ?_)
        · have h16 : (((dget st x.i).t.f : Int) = ((-1 - (dget st x.i).var) : Int)) ∧ (((((dget st x.i).t.args.length : Nat) : Int) : Int) = (0 : Int)) := by simpa using h16
          refine WC.exit ?_
          refine WE.thenExit ?_
          refine WE.blockIs rfl ?_
          refine WE.next ?_
          refine WC.region ?_
          refine WL.val (.int .i64 (((x.i : Nat) : Int))) rfl rfl rfl (fun za zC zh zk => wp_move rfl (zh.ev rfl) zk) ?_
          refine WL.val (.int .i64 ((((x.i + 1) : Nat) : Int))) rfl rfl rfl (fun za zC zh zk => addb_3 rfl (zh.ev rfl) (zh.ev rfl) (wrap_eq (by omega) (by omega) (by omega)) zk) ?_
          refine WL.val (.int .i64 ((((x.i + 1) : Nat) : Int))) rfl rfl rfl (fun za zC zh zk => wp_assign rfl (zh.ev rfl) zk) ?_
          refine WL.nil (WE.sub (K' := [(0, .pointer (some ⟨g, 0, none⟩)), (2, .slice none 0 0), (3, .slice x.a x.n x.c), (4, .int .i64 ((((x.i + 1) : Nat) : Int))), (13, .bool ((decide ((((x.i : Nat) : Int) : Int) < (((st.length : Nat) : Int) : Int))))), (47, .bool (((((dget st x.i).t.f : Int) == ((-1 - (dget st x.i).var) : Int)) && (((((dget st x.i).t.args.length : Nat) : Int) : Int) == (0 : Int)))))]) ⟨rfl, rfl, rfl, rfl, rfl, rfl, trivial⟩ ?_)
          refine WE.round (⟨x.i + 1, x.a, x.c, x.n, x.L⟩) ⟨rfl, rfl, rfl, rfl, trivial⟩ ?_ ?_
          · have hb17 : Below w.heap.size w w14 := (bstep hb4 hb15)
            have hB18 := hB5.below hb15
            have ho19 := ho6.below hb15
            exact ⟨by (try dsimp only); omega, (Nat.le_trans hBw hb15.size), subOf_skip hso (by omega) (itself_iff.2 (by omega)), hb17, hB18, ho19⟩
          · (try dsimp only); omega
        · have h16 : ¬ ((((dget st x.i).t.f : Int) = ((-1 - (dget st x.i).var) : Int)) ∧ (((((dget st x.i).t.args.length : Nat) : Int) : Int) = (0 : Int))) := by simpa using h16
          have hns : ¬ (dget st x.i).itself = true := fun q => by have z := itself_iff.1 q; omega
          refine WC.skip ?_
          refine WE.next ?_
          refine WC.seq ?_
          have ho20 := ho6.below hb15
          have hB21 := hB5.below hb15
          have hb22 : Below w.heap.size w w14 := (bstep hb4 hb15)
          have hSlt : ∀ b, (fun b => (Value.slice x.a x.n x.c).ownBlock = some b) b → b < w14.heap.size := fun b h => (ho20.lt b h).2
          have hSlo : ∀ b, (fun b => (Value.slice x.a x.n x.c).ownBlock = some b) b → w.heap.size ≤ b ∧ b < w3.heap.size := fun b h => ho6.lt b h
          have hBW : w.heap.size ≤ w14.heap.size := by have z1 := hb22.size; omega
          have hlL : x.n = (x.L).length := ho20.len
          refine WC.tail3 (S := ((fun b => (Value.slice x.a x.n x.c).ownBlock = some b))) [(true, .val (.slice x.a x.n x.c)), (true, .val (.pointer (some ⟨g, 0, none⟩))), (true, .val (.pointer (some ⟨g, 0, none⟩))), (true, .val (.pointer (some ⟨g, 0, none⟩))), (true, .val (.slice a st.length c)), (true, .val (.int .i64 (((x.i : Nat) : Int)))), (true, .val (.pointer (some ⟨b8, o9 + x.i * 3, none⟩))), (true, .val (.pointer (some ⟨b8, o9 + x.i * 3, none⟩))), (true, .val (.int .i64 ((dget st x.i).var))), (true, .val (.pointer (some ⟨g, 0, none⟩))), (true, .val (.pointer (some ⟨g, 0, none⟩))), (true, .val (.pointer (some ⟨g, 0, none⟩))), (true, .val (.slice a st.length c)), (true, .val (.int .i64 (((x.i : Nat) : Int)))), (true, .val (.pointer (some ⟨b8, o9 + x.i * 3, none⟩))), (true, .val (.pointer (some ⟨b8, o9 + x.i * 3 + 1, none⟩))), (true, .val (.agg #[.int .i64 ((dget st x.i).t.f), .slice ((A10 x.i)) ((dget st x.i).t.args.length) ((C11 x.i))])), (true, .mem (fun v w' => NewT w14 w' ((dget st x.i).t) v) (fun v w w' hc h => InT.chg h hc (fun b hb hs => by have z := hSlt b hs; omega))), (true, .mem (fun v w' => BdNew w14 w' ((dget st x.i)) v) (fun v w w' hc h => h.chg hc hSlt)), (true, .mem (fun v w' => OneRow eltB w14 57 ((dget st x.i)) v w') (fun v w w' hc h => h.chg hc hSlt)), (true, .val undef), (true, .val undef)] [(0, .pointer (some ⟨g, 0, none⟩)), (2, .slice none 0 0), (4, .int .i64 (((x.i : Nat) : Int))), (13, .bool ((decide ((((x.i : Nat) : Int) : Int) < (((st.length : Nat) : Int) : Int))))), (47, .bool (((((dget st x.i).t.f : Int) == ((-1 - (dget st x.i).var) : Int)) && (((((dget st x.i).t.args.length : Nat) : Int) : Int) == (0 : Int)))))] 20 21 ((x.n + 1)) 68 3 (fun ra rc wz => RowE eltB wz w.heap.size 57 ra rc (x.n + 1) ((x.L ++ [(dget st x.i)]))) (by decide) (fun ra rc w w' hb h => h.below hb) ⟨rfl, rfl, rfl, rfl, rfl, trivial⟩ (by kernel_rfl) (by kernel_rfl) (by kernel_rfl) (by kernel_rfl) (by kernel_rfl) (by kernel_rfl) ?_ ?_
          · refine ⟨.inl ⟨rfl, true, .none rfl, (fun gg b h => by cases h), fun h w => optUndef h, fun zβ za zw zc => ?_⟩, ?_⟩
            · exact wp_move rfl ((show za.eval (.tmp 3) = za.tmps.getD 3 undef from rfl).trans (zc.old 3 _ rfl (by kernel_rfl))) ⟨_, rfl, Below.refl _ _, optDef zβ rfl⟩
            refine ⟨.inl ⟨rfl, true, .none rfl, (fun gg b h => by cases h), fun h w => optUndef h, fun zβ za zw zc => ?_⟩, ?_⟩
            · exact wp_move rfl (zc.kn.ev rfl) ⟨_, rfl, Below.refl _ _, optDef zβ rfl⟩
            refine ⟨.inl ⟨rfl, true, .none rfl, (fun gg b h => by cases h), fun h w => optUndef h, fun zβ za zw zc => ?_⟩, ?_⟩
            · exact nilCheck_ rfl ((show za.eval (.tmp 49) = za.tmps.getD 49 undef from rfl).trans (optSVal (zc.dep 1 49 (by kernel_rfl) (by decide)) rfl rfl)) ⟨_, rfl, Below.refl _ _, optDef zβ rfl⟩
            refine ⟨.inl ⟨rfl, true, .none rfl, (fun gg b h => by cases h), fun h w => optUndef h, fun zβ za zw zc => ?_⟩, ?_⟩
            · exact fld_37_0 rfl ((show za.eval (.tmp 50) = za.tmps.getD 50 undef from rfl).trans (optSVal (zc.dep 2 50 (by kernel_rfl) (by decide)) rfl rfl)) ⟨_, rfl, Below.refl _ _, optDef zβ rfl⟩
            refine ⟨.inl ⟨rfl, true, .none rfl, (fun gg b h => by cases h), fun h w => optUndef h, fun zβ za zw zc => ?_⟩, ?_⟩
            · exact ld_25 rfl ((show za.eval (.tmp 51) = za.tmps.getD 51 undef from rfl).trans (optSVal (zc.dep 3 51 (by kernel_rfl) (by decide)) rfl rfl)) (bkeeps (zc.early (by kernel_rfl)) _ _ ((hB21.cell 0).trans rfl)) ⟨_, rfl, Below.refl _ _, optDef zβ rfl⟩
            refine ⟨.inl ⟨rfl, true, .none rfl, (fun gg b h => by cases h), fun h w => optUndef h, fun zβ za zw zc => ?_⟩, ?_⟩
            · exact wp_move rfl (zc.kn.ev rfl) ⟨_, rfl, Below.refl _ _, optDef zβ rfl⟩
            refine ⟨.inl ⟨rfl, true, .none rfl, (fun gg b h => by cases h), fun h w => optUndef h, fun zβ za zw zc => ?_⟩, ?_⟩
            · exact ix_25 (k := x.i) rfl ((show za.eval (.tmp 52) = za.tmps.getD 52 undef from rfl).trans (optSVal (zc.dep 4 52 (by kernel_rfl) (by decide)) rfl rfl)) (ha12 x.i (by first | omega | (simp; omega))) ((show za.eval (.tmp 53) = za.tmps.getD 53 undef from rfl).trans (optSVal (zc.dep 5 53 (by kernel_rfl) (by decide)) rfl rfl)) (by first | omega | (simp; omega)) ⟨_, rfl, Below.refl _ _, optDef zβ rfl⟩
            refine ⟨.inl ⟨rfl, true, .none rfl, (fun gg b h => by cases h), fun h w => optUndef h, fun zβ za zw zc => ?_⟩, ?_⟩
            · exact fld_57_0 rfl ((show za.eval (.tmp 54) = za.tmps.getD 54 undef from rfl).trans (optSVal (zc.dep 6 54 (by kernel_rfl) (by decide)) rfl rfl)) ⟨_, rfl, Below.refl _ _, optDef zβ rfl⟩
            refine ⟨.inl ⟨rfl, true, .none rfl, (fun gg b h => by cases h), fun h w => optUndef h, fun zβ za zw zc => ?_⟩, ?_⟩
            · exact ld_3 rfl ((show za.eval (.tmp 55) = za.tmps.getD 55 undef from rfl).trans (optSVal (zc.dep 7 55 (by kernel_rfl) (by decide)) rfl rfl)) (bkeeps (bstep hb22 (zc.early (by kernel_rfl))) _ _ (hc13 x.i (by first | omega | (simp; omega))).1) ⟨_, rfl, Below.refl _ _, optDef zβ rfl⟩
            refine ⟨.inl ⟨rfl, true, .none rfl, (fun gg b h => by cases h), fun h w => optUndef h, fun zβ za zw zc => ?_⟩, ?_⟩
            · exact wp_move rfl (zc.kn.ev rfl) ⟨_, rfl, Below.refl _ _, optDef zβ rfl⟩
            refine ⟨.inl ⟨rfl, true, .none rfl, (fun gg b h => by cases h), fun h w => optUndef h, fun zβ za zw zc => ?_⟩, ?_⟩
            · exact nilCheck_ rfl ((show za.eval (.tmp 57) = za.tmps.getD 57 undef from rfl).trans (optSVal (zc.dep 9 57 (by kernel_rfl) (by decide)) rfl rfl)) ⟨_, rfl, Below.refl _ _, optDef zβ rfl⟩
            refine ⟨.inl ⟨rfl, true, .none rfl, (fun gg b h => by cases h), fun h w => optUndef h, fun zβ za zw zc => ?_⟩, ?_⟩
            · exact fld_37_0 rfl ((show za.eval (.tmp 58) = za.tmps.getD 58 undef from rfl).trans (optSVal (zc.dep 10 58 (by kernel_rfl) (by decide)) rfl rfl)) ⟨_, rfl, Below.refl _ _, optDef zβ rfl⟩
            refine ⟨.inl ⟨rfl, true, .none rfl, (fun gg b h => by cases h), fun h w => optUndef h, fun zβ za zw zc => ?_⟩, ?_⟩
            · exact ld_25 rfl ((show za.eval (.tmp 59) = za.tmps.getD 59 undef from rfl).trans (optSVal (zc.dep 11 59 (by kernel_rfl) (by decide)) rfl rfl)) (bkeeps (zc.early (by kernel_rfl)) _ _ ((hB21.cell 0).trans rfl)) ⟨_, rfl, Below.refl _ _, optDef zβ rfl⟩
            refine ⟨.inl ⟨rfl, true, .none rfl, (fun gg b h => by cases h), fun h w => optUndef h, fun zβ za zw zc => ?_⟩, ?_⟩
            · exact wp_move rfl (zc.kn.ev rfl) ⟨_, rfl, Below.refl _ _, optDef zβ rfl⟩
            refine ⟨.inl ⟨rfl, true, .none rfl, (fun gg b h => by cases h), fun h w => optUndef h, fun zβ za zw zc => ?_⟩, ?_⟩
            · exact ix_25 (k := x.i) rfl ((show za.eval (.tmp 60) = za.tmps.getD 60 undef from rfl).trans (optSVal (zc.dep 12 60 (by kernel_rfl) (by decide)) rfl rfl)) (ha12 x.i (by first | omega | (simp; omega))) ((show za.eval (.tmp 61) = za.tmps.getD 61 undef from rfl).trans (optSVal (zc.dep 13 61 (by kernel_rfl) (by decide)) rfl rfl)) (by first | omega | (simp; omega)) ⟨_, rfl, Below.refl _ _, optDef zβ rfl⟩
            refine ⟨.inl ⟨rfl, true, .none rfl, (fun gg b h => by cases h), fun h w => optUndef h, fun zβ za zw zc => ?_⟩, ?_⟩
            · exact fld_57_1 rfl ((show za.eval (.tmp 62) = za.tmps.getD 62 undef from rfl).trans (optSVal (zc.dep 14 62 (by kernel_rfl) (by decide)) rfl rfl)) ⟨_, rfl, Below.refl _ _, optDef zβ rfl⟩
            refine ⟨.inl ⟨rfl, true, .none rfl, (fun gg b h => by cases h), fun h w => optUndef h, fun zβ za zw zc => ?_⟩, ?_⟩
            · exact ld_24 rfl ((show za.eval (.tmp 63) = za.tmps.getD 63 undef from rfl).trans (optSVal (zc.dep 15 63 (by kernel_rfl) (by decide)) rfl rfl)) (bkeeps (bstep hb22 (zc.early (by kernel_rfl))) _ _ (hc13 x.i (by first | omega | (simp; omega))).2.1) (bkeeps (bstep hb22 (zc.early (by kernel_rfl))) _ _ (hc13 x.i (by first | omega | (simp; omega))).2.2.1) ⟨_, rfl, Below.refl _ _, optDef zβ rfl⟩
            refine ⟨.inl ⟨rfl, true, .none rfl, (fun gg b h => by cases h), fun h w => optUndef h, fun zβ za zw zc => ?_⟩, ?_⟩
            · exact wp_call (by kernel_rfl) rfl (hv1 ((show za.eval (.tmp 64) = za.tmps.getD 64 undef from rfl).trans (optSVal (zc.dep 16 64 (by kernel_rfl) (by decide)) rfl rfl))) (rcopy_any (dget st x.i).t _ _ hszi (IsT.below (bstep hb22 (zc.early (by kernel_rfl))) (InT.isT (hc13 x.i (by first | omega | (simp; omega))).2.2.2.1))) (fun v w' h => ⟨v, rfl, h.2, optDef zβ (InT.mono (fun b hb _ => Nat.le_trans (zc.early (by kernel_rfl)).size hb) h.1)⟩)
            refine ⟨.inl ⟨rfl, true, .none rfl, (fun gg b h => by cases h), fun h w => optUndef h, fun zβ za zw zc => ?_⟩, ?_⟩
            · have zv := (optSMem (zc.dep 17 65 (by kernel_rfl) (by decide)) rfl rfl)
              obtain ⟨_, a1, c1, e1, _⟩ := zv.form
              rw [e1] at zv
              exact build_57_0_1 rfl ((show za.eval (.tmp 56) = za.tmps.getD 56 undef from rfl).trans (optSVal (zc.dep 8 56 (by kernel_rfl) (by decide)) rfl rfl)) ((show za.eval (.tmp 65) = za.tmps.getD 65 undef from rfl).trans e1) ⟨_, rfl, Below.refl _ _, optDef zβ ⟨_, _, rfl, (show I64 (dget st x.i).var by unfold I64; omega), zv⟩⟩
            refine ⟨.inl ⟨rfl, true, .none rfl, (fun gg b h => by cases h), fun h w => optUndef h, fun zβ za zw zc => ?_⟩, ?_⟩
            · have zv := (optSMem (zc.dep 18 66 (by kernel_rfl) (by decide)) rfl rfl)
              obtain ⟨u1, u2, e1, h0, zv⟩ := zv
              exact row_26_1 rfl ((show za.eval (.tmp 66) = za.tmps.getD 66 undef from rfl).trans e1) ⟨_, rfl, balloc _ _, optDef zβ ⟨_, _, rfl, zc.chg.size, Blk.new' rfl, ⟨_, _, rfl, h0, zv.below (balloc _ _)⟩⟩⟩
            refine ⟨.inr (.inl ⟨rfl, rfl, fun za zw zc => ?_⟩), ?_⟩
            · obtain ⟨g1, cs, e1, hg1, hB1, hin⟩ := (optSMem (zc.dep 19 67 (by kernel_rfl) (by decide)) rfl rfl)
              exact wp_appE (E := eltB) (size := 3) (bytes := 40) (z := .agg #[.int .i64 0, .int .i64 0, .slice none 0 0]) rfl Try.underlying26 (by kernel_rfl) rfl (by decide) rfl ((show za.eval (.tmp 48) = za.tmps.getD 48 undef from rfl).trans (optSVal (zc.dep 0 48 (by kernel_rfl) (by decide)) rfl rfl)) ((show za.eval (.tmp 67) = za.tmps.getD 67 undef from rfl).trans e1) (ho20.below zc.below) hB1 (eltB.mono (fun b hb _ => ⟨by omega, fun e => by have z := (ho20.lt b e).2; omega⟩) hin) (by omega) (by omega) (by have z := zc.below.size; omega) (fun ra rc w' h1 h2 _ => ⟨ra, rc, rfl, h1, h2⟩)
            refine ⟨.inr (.inr ⟨rfl, rfl, 68, by kernel_rfl, rfl⟩), ?_⟩
            exact trivial
          · intro za w23 ra26 rc27 zh zv zv2 hG24 hc25 zu
            have zh := zh.cons (d := 3) zv2
            have hb28 := chg_below hb22 hc25 (fun b hb => (fun h => by have h := hSlo _ h; (try dsimp only at *); omega))
            have hB29 := chg_blk hB21 hc25 (fun h => by have h := hSlo _ h; (try dsimp only at *); omega)
            clear zu
            refine (show WE _ [(0, .pointer (some ⟨g, 0, none⟩)), (2, .slice none 0 0), (3, .slice ra26 ((x.n + 1)) rc27), (4, .int .i64 (((x.i : Nat) : Int))), (13, .bool ((decide ((((x.i : Nat) : Int) : Int) < (((st.length : Nat) : Int) : Int))))), (47, .bool (((((dget st x.i).t.f : Int) == ((-1 - (dget st x.i).var) : Int)) && (((((dget st x.i).t.args.length : Nat) : Int) : Int) == (0 : Int)))))] w23 _ .normal from ?_) za (zh.sub ⟨rfl, rfl, rfl, rfl, rfl, rfl, trivial⟩)
            refine WE.next ?_
            refine WC.seq ?_
            have hnl := hG24.len
            have hxn : x.n = x.L.length := by simp at hnl; omega
            obtain ⟨gr, hgr⟩ : ∃ gr, ra26 = some ⟨gr, 0, none⟩ := by
              rcases hG24.nilOr with ⟨_, e, _⟩ | q
              · omega
              · exact q
            subst hgr
            have hgr := hG24.lt gr own_some
            have hgB : w.heap.size ≤ w.heap.size := (Nat.le_refl _)
            refine WC.region ?_
            refine WL.val (.slice ((some ⟨gr, 0, none⟩)) ((x.n + 1)) rc27) rfl rfl rfl (fun za zC zh zk => wp_move rfl (zh.ev rfl) zk) ?_
            refine WL.val (.int .i64 ((((x.n + 1) : Nat) : Int))) rfl rfl rfl (fun za zC zh zk => len_26 rfl (zh.ev rfl) zk) ?_
            refine WL.val (.int .i64 (((x.L.length : Nat) : Int))) rfl rfl rfl (fun za zC zh zk => subb_3 rfl (zh.ev rfl) (zh.ev rfl) (wrap_eq (by omega) (by omega) (by omega)) zk) ?_
            refine WL.val (.int .i64 (((x.L.length : Nat) : Int))) rfl rfl rfl (fun za zC zh zk => wp_assign rfl (zh.ev rfl) zk) ?_
            refine WL.nil (WE.sub (K' := [(0, .pointer (some ⟨g, 0, none⟩)), (2, .slice none 0 0), (3, .slice ((some ⟨gr, 0, none⟩)) ((x.n + 1)) rc27), (4, .int .i64 (((x.i : Nat) : Int))), (5, .int .i64 (((x.L.length : Nat) : Int))), (13, .bool ((decide ((((x.i : Nat) : Int) : Int) < (((st.length : Nat) : Int) : Int))))), (47, .bool (((((dget st x.i).t.f : Int) == ((-1 - (dget st x.i).var) : Int)) && (((((dget st x.i).t.args.length : Nat) : Int) : Int) == (0 : Int)))))]) ⟨rfl, rfl, rfl, rfl, rfl, rfl, rfl, trivial⟩ ?_)
            refine WE.next ?_
            refine WC.block ?_
            have hst9 : RowE eltB w23 w.heap.size 57 (some ⟨gr, 0, none⟩) rc27 (x.n + 1) (insAt x.L x.L.length (dget st x.i)) := by rw [insAt_end]; exact hG24
            refine WC.loop (X := Nat) (fun j => j) (fun j => [(0, .pointer (some ⟨g, 0, none⟩)), (2, .slice none 0 0), (3, .slice ((some ⟨gr, 0, none⟩)) ((x.n + 1)) rc27), (4, .int .i64 (((x.i : Nat) : Int))), (5, .int .i64 (((j : Nat) : Int))), (13, .bool ((decide ((((x.i : Nat) : Int) : Int) < (((st.length : Nat) : Int) : Int))))), (47, .bool (((((dget st x.i).t.f : Int) == ((-1 - (dget st x.i).var) : Int)) && (((((dget st x.i).t.args.length : Nat) : Int) : Int) == (0 : Int)))))]) (fun j w30 => j ≤ x.L.length ∧ w23.heap.size ≤ (w30).heap.size ∧ (∀ k, j ≤ k → k < x.L.length → (dget st x.i).var < (dget x.L k).var) ∧ Below w.heap.size w w30 ∧ Blk w30 g 37 #[.slice a st.length c] ∧ RowE eltB (w30) w.heap.size 57 (some ⟨gr, 0, none⟩) rc27 (x.n + 1) ((insAt x.L j (dget st x.i)))) x.L.length ⟨rfl, rfl, rfl, rfl, rfl, rfl, rfl, trivial⟩ ?_ ?_
            · exact ⟨Nat.le_refl _, Nat.le_refl _, fun k h1 h2 => by omega, hb28, hB29, hst9⟩
            · rintro j w30 ⟨hj, hBw3, hjr, hb31, hB32, ho33⟩
              have hPl := insAt_len (x := (dget st x.i)) hj
              have hgl2 := (ho33.lt gr own_some).2
              have hcp := ho33.inRow
              have hcp3 := hcp.2.2.2
              unfold maxLen at hcp3
              refine WC.seq ?_
              refine WC.seq ?_
              obtain ⟨A34, C35, hc36⟩ := ho33.cells
              refine WC.opt [(true, .val (.int .i64 (((j : Nat) : Int)))), (true, .val (.bool ((decide ((0 : Int) < (((j : Nat) : Int) : Int)))))), (true, .val (.bool ((decide ((0 : Int) < (((j : Nat) : Int) : Int)))))), ((true && (decide ((0 : Int) < (((j : Nat) : Int) : Int)))), .val (.slice ((some ⟨gr, 0, none⟩)) ((x.n + 1)) rc27)), ((true && (decide ((0 : Int) < (((j : Nat) : Int) : Int)))), .val (.int .i64 (((j : Nat) : Int)))), ((true && (decide ((0 : Int) < (((j : Nat) : Int) : Int)))), .val (.pointer (some ⟨gr, 0 + j * 3, none⟩))), ((true && (decide ((0 : Int) < (((j : Nat) : Int) : Int)))), .val (.pointer (some ⟨gr, 0 + j * 3, none⟩))), ((true && (decide ((0 : Int) < (((j : Nat) : Int) : Int)))), .val (.int .i64 ((dget ((insAt x.L j (dget st x.i))) j).var))), ((true && (decide ((0 : Int) < (((j : Nat) : Int) : Int)))), .val (.slice ((some ⟨gr, 0, none⟩)) ((x.n + 1)) rc27)), ((true && (decide ((0 : Int) < (((j : Nat) : Int) : Int)))), .val (.int .i64 (((j : Nat) : Int)))), ((true && (decide ((0 : Int) < (((j : Nat) : Int) : Int)))), .val (.int .i64 ((((j - 1) : Nat) : Int)))), ((true && (decide ((0 : Int) < (((j : Nat) : Int) : Int)))), .val (.pointer (some ⟨gr, 0 + ((j - 1)) * 3, none⟩))), ((true && (decide ((0 : Int) < (((j : Nat) : Int) : Int)))), .val (.pointer (some ⟨gr, 0 + ((j - 1)) * 3, none⟩))), ((true && (decide ((0 : Int) < (((j : Nat) : Int) : Int)))), .val (.int .i64 ((dget ((insAt x.L j (dget st x.i))) ((j - 1))).var))), ((true && (decide ((0 : Int) < (((j : Nat) : Int) : Int)))), .val (.bool ((decide (((dget ((insAt x.L j (dget st x.i))) j).var : Int) < ((dget ((insAt x.L j (dget st x.i))) ((j - 1))).var : Int)))))), (true, .val (.bool (((decide ((0 : Int) < (((j : Nat) : Int) : Int))) && (decide (((dget ((insAt x.L j (dget st x.i))) j).var : Int) < ((dget ((insAt x.L j (dget st x.i))) ((j - 1))).var : Int)))))))] [(0, .pointer (some ⟨g, 0, none⟩)), (2, .slice none 0 0), (3, .slice ((some ⟨gr, 0, none⟩)) ((x.n + 1)) rc27), (4, .int .i64 (((x.i : Nat) : Int))), (5, .int .i64 (((j : Nat) : Int))), (13, .bool ((decide ((((x.i : Nat) : Int) : Int) < (((st.length : Nat) : Int) : Int))))), (47, .bool (((((dget st x.i).t.f : Int) == ((-1 - (dget st x.i).var) : Int)) && (((((dget st x.i).t.args.length : Nat) : Int) : Int) == (0 : Int)))))] ⟨rfl, rfl, rfl, rfl, rfl, rfl, rfl, trivial⟩ (by kernel_rfl) (by kernel_rfl) (by kernel_rfl) ?_ ?_
              · refine ⟨⟨true, .none rfl, fun h w => optUndef h, fun zβ za zw zc => ?_⟩, ?_⟩
                · exact wp_move rfl (zc.kn.ev rfl) ⟨_, rfl, Below.refl _ _, optDef zβ rfl⟩
                refine ⟨⟨true, .none rfl, fun h w => optUndef h, fun zβ za zw zc => ?_⟩, ?_⟩
                · exact gtr_3 rfl ((show za.eval (.tmp 72) = za.tmps.getD 72 undef from rfl).trans (optVal (zc.dep 0 72 (by kernel_rfl)) rfl rfl)) (zc.kn.ev rfl) ⟨_, rfl, Below.refl _ _, optDef zβ rfl⟩
                refine ⟨⟨true, .none rfl, fun h w => optUndef h, fun zβ za zw zc => ?_⟩, ?_⟩
                · exact wp_move rfl ((show za.eval (.tmp 73) = za.tmps.getD 73 undef from rfl).trans (optVal (zc.dep 1 73 (by kernel_rfl)) rfl rfl)) ⟨_, rfl, Below.refl _ _, optDef zβ rfl⟩
                refine ⟨⟨(true && (decide ((0 : Int) < (((j : Nat) : Int) : Int)))), .yes (c := (decide ((0 : Int) < (((j : Nat) : Int) : Int)))) (d := true) rfl (fun v w h => h), fun h w => optUndef h, fun zβ za zw zc => ?_⟩, ?_⟩
                · exact wp_move rfl (zc.kn.ev rfl) ⟨_, rfl, Below.refl _ _, optDef zβ rfl⟩
                refine ⟨⟨(true && (decide ((0 : Int) < (((j : Nat) : Int) : Int)))), .yes (c := (decide ((0 : Int) < (((j : Nat) : Int) : Int)))) (d := true) rfl (fun v w h => h), fun h w => optUndef h, fun zβ za zw zc => ?_⟩, ?_⟩
                · exact wp_move rfl (zc.kn.ev rfl) ⟨_, rfl, Below.refl _ _, optDef zβ rfl⟩
                refine ⟨⟨(true && (decide ((0 : Int) < (((j : Nat) : Int) : Int)))), .yes (c := (decide ((0 : Int) < (((j : Nat) : Int) : Int)))) (d := true) rfl (fun v w h => h), fun h w => optUndef h, fun zβ za zw zc => ?_⟩, ?_⟩
                · exact ix_26 (k := j) rfl ((show za.eval (.tmp 75) = za.tmps.getD 75 undef from rfl).trans (optVal (zc.dep 3 75 (by kernel_rfl)) rfl zβ)) rfl ((show za.eval (.tmp 76) = za.tmps.getD 76 undef from rfl).trans (optVal (zc.dep 4 76 (by kernel_rfl)) rfl zβ)) (by first | omega | (have zz := zβ; simp only [Bool.and_eq_true, Bool.or_eq_true, Bool.true_and, Bool.not_eq_true', Bool.or_eq_false_iff, Bool.and_eq_false_iff, beq_eq_false_iff_ne, ne_eq, beq_iff_eq, decide_eq_true_eq, decide_eq_false_iff_not, bne_iff_ne] at zz; omega)) ⟨_, rfl, Below.refl _ _, optDef zβ rfl⟩
                refine ⟨⟨(true && (decide ((0 : Int) < (((j : Nat) : Int) : Int)))), .yes (c := (decide ((0 : Int) < (((j : Nat) : Int) : Int)))) (d := true) rfl (fun v w h => h), fun h w => optUndef h, fun zβ za zw zc => ?_⟩, ?_⟩
                · exact fld_57_0 rfl ((show za.eval (.tmp 77) = za.tmps.getD 77 undef from rfl).trans (optVal (zc.dep 5 77 (by kernel_rfl)) rfl zβ)) ⟨_, rfl, Below.refl _ _, optDef zβ rfl⟩
                refine ⟨⟨(true && (decide ((0 : Int) < (((j : Nat) : Int) : Int)))), .yes (c := (decide ((0 : Int) < (((j : Nat) : Int) : Int)))) (d := true) rfl (fun v w h => h), fun h w => optUndef h, fun zβ za zw zc => ?_⟩, ?_⟩
                · exact ld_3 rfl ((show za.eval (.tmp 78) = za.tmps.getD 78 undef from rfl).trans (optVal (zc.dep 6 78 (by kernel_rfl)) rfl zβ)) (bkeeps zc.below _ _ (hc36 j (by first | omega | (have zz := zβ; simp only [Bool.and_eq_true, Bool.or_eq_true, Bool.true_and, Bool.not_eq_true', Bool.or_eq_false_iff, Bool.and_eq_false_iff, beq_eq_false_iff_ne, ne_eq, beq_iff_eq, decide_eq_true_eq, decide_eq_false_iff_not, bne_iff_ne] at zz; omega))).1) ⟨_, rfl, Below.refl _ _, optDef zβ rfl⟩
                refine ⟨⟨(true && (decide ((0 : Int) < (((j : Nat) : Int) : Int)))), .yes (c := (decide ((0 : Int) < (((j : Nat) : Int) : Int)))) (d := true) rfl (fun v w h => h), fun h w => optUndef h, fun zβ za zw zc => ?_⟩, ?_⟩
                · exact wp_move rfl (zc.kn.ev rfl) ⟨_, rfl, Below.refl _ _, optDef zβ rfl⟩
                refine ⟨⟨(true && (decide ((0 : Int) < (((j : Nat) : Int) : Int)))), .yes (c := (decide ((0 : Int) < (((j : Nat) : Int) : Int)))) (d := true) rfl (fun v w h => h), fun h w => optUndef h, fun zβ za zw zc => ?_⟩, ?_⟩
                · exact wp_move rfl (zc.kn.ev rfl) ⟨_, rfl, Below.refl _ _, optDef zβ rfl⟩
                refine ⟨⟨(true && (decide ((0 : Int) < (((j : Nat) : Int) : Int)))), .yes (c := (decide ((0 : Int) < (((j : Nat) : Int) : Int)))) (d := true) rfl (fun v w h => h), fun h w => optUndef h, fun zβ za zw zc => ?_⟩, ?_⟩
                · exact subb_3 rfl ((show za.eval (.tmp 81) = za.tmps.getD 81 undef from rfl).trans (optVal (zc.dep 9 81 (by kernel_rfl)) rfl zβ)) (zc.kn.ev rfl) (wrap_eq (by have z := zβ; simp at z; omega) (by omega) (by omega)) ⟨_, rfl, Below.refl _ _, optDef zβ rfl⟩
                refine ⟨⟨(true && (decide ((0 : Int) < (((j : Nat) : Int) : Int)))), .yes (c := (decide ((0 : Int) < (((j : Nat) : Int) : Int)))) (d := true) rfl (fun v w h => h), fun h w => optUndef h, fun zβ za zw zc => ?_⟩, ?_⟩
                · exact ix_26 (k := (j - 1)) rfl ((show za.eval (.tmp 80) = za.tmps.getD 80 undef from rfl).trans (optVal (zc.dep 8 80 (by kernel_rfl)) rfl zβ)) rfl ((show za.eval (.tmp 82) = za.tmps.getD 82 undef from rfl).trans (optVal (zc.dep 10 82 (by kernel_rfl)) rfl zβ)) (by first | omega | (have zz := zβ; simp only [Bool.and_eq_true, Bool.or_eq_true, Bool.true_and, Bool.not_eq_true', Bool.or_eq_false_iff, Bool.and_eq_false_iff, beq_eq_false_iff_ne, ne_eq, beq_iff_eq, decide_eq_true_eq, decide_eq_false_iff_not, bne_iff_ne] at zz; omega)) ⟨_, rfl, Below.refl _ _, optDef zβ rfl⟩
                refine ⟨⟨(true && (decide ((0 : Int) < (((j : Nat) : Int) : Int)))), .yes (c := (decide ((0 : Int) < (((j : Nat) : Int) : Int)))) (d := true) rfl (fun v w h => h), fun h w => optUndef h, fun zβ za zw zc => ?_⟩, ?_⟩
                · exact fld_57_0 rfl ((show za.eval (.tmp 83) = za.tmps.getD 83 undef from rfl).trans (optVal (zc.dep 11 83 (by kernel_rfl)) rfl zβ)) ⟨_, rfl, Below.refl _ _, optDef zβ rfl⟩
                refine ⟨⟨(true && (decide ((0 : Int) < (((j : Nat) : Int) : Int)))), .yes (c := (decide ((0 : Int) < (((j : Nat) : Int) : Int)))) (d := true) rfl (fun v w h => h), fun h w => optUndef h, fun zβ za zw zc => ?_⟩, ?_⟩
                · exact ld_3 rfl ((show za.eval (.tmp 84) = za.tmps.getD 84 undef from rfl).trans (optVal (zc.dep 12 84 (by kernel_rfl)) rfl zβ)) (bkeeps zc.below _ _ (hc36 ((j - 1)) (by first | omega | (have zz := zβ; simp only [Bool.and_eq_true, Bool.or_eq_true, Bool.true_and, Bool.not_eq_true', Bool.or_eq_false_iff, Bool.and_eq_false_iff, beq_eq_false_iff_ne, ne_eq, beq_iff_eq, decide_eq_true_eq, decide_eq_false_iff_not, bne_iff_ne] at zz; omega))).1) ⟨_, rfl, Below.refl _ _, optDef zβ rfl⟩
                refine ⟨⟨(true && (decide ((0 : Int) < (((j : Nat) : Int) : Int)))), .yes (c := (decide ((0 : Int) < (((j : Nat) : Int) : Int)))) (d := true) rfl (fun v w h => h), fun h w => optUndef h, fun zβ za zw zc => ?_⟩, ?_⟩
                · exact lss_3 rfl ((show za.eval (.tmp 79) = za.tmps.getD 79 undef from rfl).trans (optVal (zc.dep 7 79 (by kernel_rfl)) rfl zβ)) ((show za.eval (.tmp 85) = za.tmps.getD 85 undef from rfl).trans (optVal (zc.dep 13 85 (by kernel_rfl)) rfl zβ)) ⟨_, rfl, Below.refl _ _, optDef zβ rfl⟩
                refine ⟨⟨true, .none rfl, fun h w => optUndef h, fun zβ za zw zc => ?_⟩, ?_⟩
                · exact wp_and rfl ((show za.eval (.tmp 74) = za.tmps.getD 74 undef from rfl).trans (optVal (zc.dep 2 74 (by kernel_rfl)) rfl rfl)) (fun hp => ((show za.eval (.tmp 86) = za.tmps.getD 86 undef from rfl).trans (optVal (zc.dep 14 86 (by kernel_rfl)) rfl (bMk zβ hp)))) ⟨_, rfl, Below.refl _ _, optDef zβ rfl⟩
                exact trivial
              · intro za w37 zh hb38 zu
                have zh := zh.cons (d := 87) (v := .bool (((decide ((0 : Int) < (((j : Nat) : Int) : Int))) && (decide (((dget ((insAt x.L j (dget st x.i))) j).var : Int) < ((dget ((insAt x.L j (dget st x.i))) ((j - 1))).var : Int)))))) (optVal (zu 15 87 (by kernel_rfl)) rfl rfl)
                clear zu
                refine (show WE _ [(0, .pointer (some ⟨g, 0, none⟩)), (2, .slice none 0 0), (3, .slice ((some ⟨gr, 0, none⟩)) ((x.n + 1)) rc27), (4, .int .i64 (((x.i : Nat) : Int))), (5, .int .i64 (((j : Nat) : Int))), (13, .bool ((decide ((((x.i : Nat) : Int) : Int) < (((st.length : Nat) : Int) : Int))))), (47, .bool (((((dget st x.i).t.f : Int) == ((-1 - (dget st x.i).var) : Int)) && (((((dget st x.i).t.args.length : Nat) : Int) : Int) == (0 : Int))))), (87, .bool (((decide ((0 : Int) < (((j : Nat) : Int) : Int))) && (decide (((dget ((insAt x.L j (dget st x.i))) j).var : Int) < ((dget ((insAt x.L j (dget st x.i))) ((j - 1))).var : Int))))))] w37 _ .normal from ?_) za (zh.sub ⟨rfl, rfl, rfl, rfl, rfl, rfl, rfl, rfl, trivial⟩)
                refine WE.next ?_
                refine WC.cond rfl (fun h39 => ?_) (fun h39 => ?_)
                · have h39 : ((0 : Int) < (((j : Nat) : Int) : Int)) ∧ (((dget ((insAt x.L j (dget st x.i))) j).var : Int) < ((dget ((insAt x.L j (dget st x.i))) ((j - 1))).var : Int)) := by simpa using h39
                  have hgo9 := h39
                  have hsw : (dget st x.i).var < (dget x.L (j - 1)).var := by have z := hgo9.2; rw [dget_ins_at hj, dget_ins_lt (by omega) hj] at z; exact z
                  refine WC.skip ?_
                  refine WE.next ?_
                  refine WC.seq ?_
                  refine WC.block ?_
                  refine WC.seq ?_
                  refine WC.region ?_
                  refine WL.val (.slice ((some ⟨gr, 0, none⟩)) ((x.n + 1)) rc27) rfl rfl rfl (fun za zC zh zk => wp_move rfl (zh.ev rfl) zk) ?_
                  refine WL.val (.int .i64 (((j : Nat) : Int))) rfl rfl rfl (fun za zC zh zk => wp_move rfl (zh.ev rfl) zk) ?_
                  refine WL.val (.pointer (some ⟨gr, 0 + j * 3, none⟩)) rfl rfl rfl (fun za zC zh zk => ix_26 (k := j) rfl (zh.ev rfl) rfl (zh.ev rfl) (by first | omega | (simp; omega)) zk) ?_
                  refine WL.val (.agg #[.int .i64 ((dget ((insAt x.L j (dget st x.i))) j).var), .int .i64 ((dget ((insAt x.L j (dget st x.i))) j).t.f), .slice ((A34 j)) ((dget ((insAt x.L j (dget st x.i))) j).t.args.length) ((C35 j))]) rfl rfl rfl (fun za zC zh zk => ld_57 rfl (zh.ev rfl) (bkeeps hb38 _ _ (hc36 j (by first | omega | (simp; omega))).1) (bkeeps hb38 _ _ (hc36 j (by first | omega | (simp; omega))).2.1) (bkeeps hb38 _ _ (hc36 j (by first | omega | (simp; omega))).2.2.1) zk) ?_
                  refine WL.step (post := NewBlk w37 57 #[.int .i64 0, .int .i64 0, .slice none 0 0]) rfl rfl rfl (fun za zC zh zk => alloc_57 rfl (zk _ _ (newBlk _ _ _))) ?_
                  rintro _ w40 ⟨g41, rfl, hg42, hB43, hb44, hz45⟩
                  have hl46 : g < g41 := by have z1 := hB32.lt; have z2 := (hb38).size; omega
                  have hb47 : Below w.heap.size w w37 := (bstep hb31 hb38)
                  have hl48 : w.heap.size ≤ g41 := by have z2 := (hb47).size; omega
                  have hl49 : w30.heap.size ≤ g41 := by have z2 := (hb38).size; omega
                  refine WL.step (post := fun _ w' => Upd g41 w40 w' ∧ Blk w' g41 57 #[.int .i64 ((dget ((insAt x.L j (dget st x.i))) j).var), .int .i64 ((dget ((insAt x.L j (dget st x.i))) j).t.f), .slice ((A34 j)) ((dget ((insAt x.L j (dget st x.i))) j).t.args.length) ((C35 j))]) rfl rfl rfl (fun za zC zh zk => st_57 rfl (zh.ev rfl) (zh.ev rfl) rfl rfl rfl hB43 (by first | decide | simp) (fun v => zk v _ ⟨((Upd.at_ _ _ _ _).trans (Upd.at_ _ _ _ _)).trans (Upd.at_ _ _ _ _), ((hB43.set_ 0 _).set_ 1 _).set_ 2 _⟩)) ?_
                  rintro v53 w50 ⟨hu51, hB52⟩
                  have hb54 : Below w.heap.size w w40 := (bstep hb47 hb44)
                  have hb55 : Below w30.heap.size w30 w40 := (bstep hb38 hb44)
                  have hb56 := upd_below hb54 hu51 (by omega)
                  have hb57 := upd_below hb55 hu51 (by omega)
                  have hB58 := hB32.below hb55
                  have hB59 := upd_blk hB58 hu51 (by omega)
                  refine WL.nil (WE.sub (K' := [(0, .pointer (some ⟨g, 0, none⟩)), (2, .slice none 0 0), (3, .slice ((some ⟨gr, 0, none⟩)) ((x.n + 1)) rc27), (4, .int .i64 (((x.i : Nat) : Int))), (5, .int .i64 (((j : Nat) : Int))), (6, .pointer (some ⟨g41, 0, none⟩)), (13, .bool ((decide ((((x.i : Nat) : Int) : Int) < (((st.length : Nat) : Int) : Int))))), (47, .bool (((((dget st x.i).t.f : Int) == ((-1 - (dget st x.i).var) : Int)) && (((((dget st x.i).t.args.length : Nat) : Int) : Int) == (0 : Int))))), (87, .bool (((decide ((0 : Int) < (((j : Nat) : Int) : Int))) && (decide (((dget ((insAt x.L j (dget st x.i))) j).var : Int) < ((dget ((insAt x.L j (dget st x.i))) ((j - 1))).var : Int))))))]) ⟨rfl, rfl, rfl, rfl, rfl, rfl, rfl, rfl, rfl, trivial⟩ ?_)
                  refine WE.next ?_
                  refine WC.seq ?_
                  refine WC.region ?_
                  refine WL.val (.slice ((some ⟨gr, 0, none⟩)) ((x.n + 1)) rc27) rfl rfl rfl (fun za zC zh zk => wp_move rfl (zh.ev rfl) zk) ?_
                  refine WL.val (.int .i64 (((j : Nat) : Int))) rfl rfl rfl (fun za zC zh zk => wp_move rfl (zh.ev rfl) zk) ?_
                  refine WL.val (.slice ((some ⟨gr, 0, none⟩)) ((x.n + 1)) rc27) rfl rfl rfl (fun za zC zh zk => wp_move rfl (zh.ev rfl) zk) ?_
                  refine WL.val (.int .i64 (((j : Nat) : Int))) rfl rfl rfl (fun za zC zh zk => wp_move rfl (zh.ev rfl) zk) ?_
                  refine WL.val (.int .i64 ((((j - 1) : Nat) : Int))) rfl rfl rfl (fun za zC zh zk => subb_3 rfl (zh.ev rfl) (zh.ev rfl) (wrap_eq (by omega) (by omega) (by omega)) zk) ?_
                  refine WL.val (.pointer (some ⟨gr, 0 + ((j - 1)) * 3, none⟩)) rfl rfl rfl (fun za zC zh zk => ix_26 (k := (j - 1)) rfl (zh.ev rfl) rfl (zh.ev rfl) (by first | omega | (simp; omega)) zk) ?_
                  refine WL.val (.agg #[.int .i64 ((dget ((insAt x.L j (dget st x.i))) ((j - 1))).var), .int .i64 ((dget ((insAt x.L j (dget st x.i))) ((j - 1))).t.f), .slice ((A34 ((j - 1)))) ((dget ((insAt x.L j (dget st x.i))) ((j - 1))).t.args.length) ((C35 ((j - 1))))]) rfl rfl rfl (fun za zC zh zk => ld_57 rfl (zh.ev rfl) (bkeeps hb57 _ _ (hc36 ((j - 1)) (by first | omega | (simp; omega))).1) (bkeeps hb57 _ _ (hc36 ((j - 1)) (by first | omega | (simp; omega))).2.1) (bkeeps hb57 _ _ (hc36 ((j - 1)) (by first | omega | (simp; omega))).2.2.1) zk) ?_
                  refine WL.val (.pointer (some ⟨gr, 0 + j * 3, none⟩)) rfl rfl rfl (fun za zC zh zk => ix_26 (k := j) rfl (zh.ev rfl) rfl (zh.ev rfl) (by first | omega | (simp; omega)) zk) ?_
                  have ho60 := ho33.below hb57
                  have hs70 : Chg ((fun b => b = gr)) w30 w50 := (Chg.trans2 (Chg.refl ((fun b => b = gr)) _) (Chg.ofBelow (S := fun k => k < 0) hb57) (fun i h1 h2 => by first | exact h2 | exact .inl h2 | exact .inr h2 | exact .inr (.inl h2) | exact .inr (.inr h2) | ((try dsimp only at *); omega)))
                  obtain ⟨cu65, ds66, hb67, _, _, _, _, _, hs68, _, _⟩ := ho60.open3
                  have hin69 := InT.chg (hc36 ((j - 1)) (by first | omega | (simp; omega))).2.2.2.1 hs70 (fun b q e => q.2 e)
                  refine WL.step (post := fun _ w' => Upd gr w50 w' ∧ RowE eltB w' w.heap.size 57 (some ⟨gr, 0, none⟩) rc27 (x.n + 1) (((insAt x.L j (dget st x.i)).set j (dget ((insAt x.L j (dget st x.i))) ((j - 1)))))) rfl rfl rfl (fun za zC zh zk => st_57 rfl (zh.ev rfl) (zh.ev rfl) rfl rfl rfl hb67 (by omega) (fun v => zk v _ ⟨((Upd.at_ _ _ _ _).trans (Upd.at_ _ _ _ _)).trans (Upd.at_ _ _ _ _), ho60.store3 (by omega) (hc36 ((j - 1)) (by first | omega | (simp; omega))).2.2.2.2 hin69⟩)) ?_
                  rintro v64 w61 ⟨hu62, hr63⟩
                  have hb71 := upd_below hb56 hu62 (by omega)
                  have hB72 := upd_blk hB59 hu62 (by omega)
                  have hB73 := upd_blk hB52 hu62 (by omega)
                  refine WL.nil (WE.sub (K' := [(0, .pointer (some ⟨g, 0, none⟩)), (2, .slice none 0 0), (3, .slice ((some ⟨gr, 0, none⟩)) ((x.n + 1)) rc27), (4, .int .i64 (((x.i : Nat) : Int))), (5, .int .i64 (((j : Nat) : Int))), (6, .pointer (some ⟨g41, 0, none⟩)), (13, .bool ((decide ((((x.i : Nat) : Int) : Int) < (((st.length : Nat) : Int) : Int))))), (47, .bool (((((dget st x.i).t.f : Int) == ((-1 - (dget st x.i).var) : Int)) && (((((dget st x.i).t.args.length : Nat) : Int) : Int) == (0 : Int))))), (87, .bool (((decide ((0 : Int) < (((j : Nat) : Int) : Int))) && (decide (((dget ((insAt x.L j (dget st x.i))) j).var : Int) < ((dget ((insAt x.L j (dget st x.i))) ((j - 1))).var : Int))))))]) ⟨rfl, rfl, rfl, rfl, rfl, rfl, rfl, rfl, rfl, trivial⟩ ?_)
                  refine WE.next ?_
                  refine WC.region ?_
                  refine WL.val (.slice ((some ⟨gr, 0, none⟩)) ((x.n + 1)) rc27) rfl rfl rfl (fun za zC zh zk => wp_move rfl (zh.ev rfl) zk) ?_
                  refine WL.val (.int .i64 (((j : Nat) : Int))) rfl rfl rfl (fun za zC zh zk => wp_move rfl (zh.ev rfl) zk) ?_
                  refine WL.val (.int .i64 ((((j - 1) : Nat) : Int))) rfl rfl rfl (fun za zC zh zk => subb_3 rfl (zh.ev rfl) (zh.ev rfl) (wrap_eq (by omega) (by omega) (by omega)) zk) ?_
                  refine WL.val (.agg #[.int .i64 ((dget ((insAt x.L j (dget st x.i))) j).var), .int .i64 ((dget ((insAt x.L j (dget st x.i))) j).t.f), .slice ((A34 j)) ((dget ((insAt x.L j (dget st x.i))) j).t.args.length) ((C35 j))]) rfl rfl rfl (fun za zC zh zk => ld_57 rfl (zh.ev rfl) ((hB73.cell 0).trans rfl) ((hB73.cell 1).trans rfl) ((hB73.cell 2).trans rfl) zk) ?_
                  obtain ⟨A74, C75, hc76⟩ := hr63.cells
                  refine WL.val (.pointer (some ⟨gr, 0 + ((j - 1)) * 3, none⟩)) rfl rfl rfl (fun za zC zh zk => ix_26 (k := (j - 1)) rfl (zh.ev rfl) rfl (zh.ev rfl) (by first | omega | (simp; omega)) zk) ?_
                  have hs86 : Chg ((fun b => b = gr)) w30 w61 := (Chg.trans2 (Chg.trans2 (Chg.refl ((fun b => b = gr)) _) (Chg.ofBelow (S := fun k => k < 0) hb57) (fun i h1 h2 => by first | exact h2 | exact .inl h2 | exact .inr h2 | exact .inr (.inl h2) | exact .inr (.inr h2) | ((try dsimp only at *); omega))) (Chg.ofUpd (S := fun k => k = gr) hu62 rfl) (fun i h1 h2 => by first | exact h2 | exact .inl h2 | exact .inr h2 | exact .inr (.inl h2) | exact .inr (.inr h2) | ((try dsimp only at *); omega)))
                  obtain ⟨cu81, ds82, hb83, _, _, _, _, _, hs84, _, _⟩ := hr63.open3
                  have hin85 := InT.chg (hc36 j (by first | omega | (simp; omega))).2.2.2.1 hs86 (fun b q e => q.2 e)
                  refine WL.step (post := fun _ w' => Upd gr w61 w' ∧ RowE eltB w' w.heap.size 57 (some ⟨gr, 0, none⟩) rc27 (x.n + 1) ((((insAt x.L j (dget st x.i)).set j (dget ((insAt x.L j (dget st x.i))) ((j - 1)))).set (j - 1) (dget ((insAt x.L j (dget st x.i))) j)))) rfl rfl rfl (fun za zC zh zk => st_57 rfl (zh.ev rfl) (zh.ev rfl) rfl rfl rfl hb83 (by omega) (fun v => zk v _ ⟨((Upd.at_ _ _ _ _).trans (Upd.at_ _ _ _ _)).trans (Upd.at_ _ _ _ _), hr63.store3 (by omega) (hc36 j (by first | omega | (simp; omega))).2.2.2.2 hin85⟩)) ?_
                  rintro v80 w77 ⟨hu78, hr79⟩
                  have hb87 := upd_below hb71 hu78 (by omega)
                  have hB88 := upd_blk hB72 hu78 (by omega)
                  have hB89 := upd_blk hB73 hu78 (by omega)
                  refine WL.nil (WE.sub (K' := [(0, .pointer (some ⟨g, 0, none⟩)), (2, .slice none 0 0), (3, .slice ((some ⟨gr, 0, none⟩)) ((x.n + 1)) rc27), (4, .int .i64 (((x.i : Nat) : Int))), (5, .int .i64 (((j : Nat) : Int))), (6, .pointer (some ⟨g41, 0, none⟩)), (13, .bool ((decide ((((x.i : Nat) : Int) : Int) < (((st.length : Nat) : Int) : Int))))), (47, .bool (((((dget st x.i).t.f : Int) == ((-1 - (dget st x.i).var) : Int)) && (((((dget st x.i).t.args.length : Nat) : Int) : Int) == (0 : Int))))), (87, .bool (((decide ((0 : Int) < (((j : Nat) : Int) : Int))) && (decide (((dget ((insAt x.L j (dget st x.i))) j).var : Int) < ((dget ((insAt x.L j (dget st x.i))) ((j - 1))).var : Int))))))]) ⟨rfl, rfl, rfl, rfl, rfl, rfl, rfl, rfl, rfl, trivial⟩ ?_)
                  refine WE.blockNormal ?_
                  refine WE.next ?_
                  refine WC.region ?_
                  refine WL.val (.int .i64 (((j : Nat) : Int))) rfl rfl rfl (fun za zC zh zk => wp_move rfl (zh.ev rfl) zk) ?_
                  refine WL.val (.int .i64 ((((j - 1) : Nat) : Int))) rfl rfl rfl (fun za zC zh zk => subb_3 rfl (zh.ev rfl) (zh.ev rfl) (wrap_eq (by omega) (by omega) (by omega)) zk) ?_
                  refine WL.val (.int .i64 ((((j - 1) : Nat) : Int))) rfl rfl rfl (fun za zC zh zk => wp_assign rfl (zh.ev rfl) zk) ?_
                  refine WL.nil (WE.sub (K' := [(0, .pointer (some ⟨g, 0, none⟩)), (2, .slice none 0 0), (3, .slice ((some ⟨gr, 0, none⟩)) ((x.n + 1)) rc27), (4, .int .i64 (((x.i : Nat) : Int))), (5, .int .i64 ((((j - 1) : Nat) : Int))), (6, .pointer (some ⟨g41, 0, none⟩)), (13, .bool ((decide ((((x.i : Nat) : Int) : Int) < (((st.length : Nat) : Int) : Int))))), (47, .bool (((((dget st x.i).t.f : Int) == ((-1 - (dget st x.i).var) : Int)) && (((((dget st x.i).t.args.length : Nat) : Int) : Int) == (0 : Int))))), (87, .bool (((decide ((0 : Int) < (((j : Nat) : Int) : Int))) && (decide (((dget ((insAt x.L j (dget st x.i))) j).var : Int) < ((dget ((insAt x.L j (dget st x.i))) ((j - 1))).var : Int))))))]) ⟨rfl, rfl, rfl, rfl, rfl, rfl, rfl, rfl, rfl, trivial⟩ ?_)
                  refine WE.round (j - 1) ⟨rfl, rfl, rfl, rfl, rfl, rfl, rfl, trivial⟩ ?_ ?_
                  · exact ⟨by omega, (Nat.le_trans (Nat.le_trans (Nat.le_trans hBw3 hb57.size) (Nat.le_of_eq hu62.size.symm)) (Nat.le_of_eq hu78.size.symm)), fun k h1 h2 => by rcases Nat.lt_or_ge k j with q | q; (obtain rfl : k = j - 1 := by omega); exact hsw; exact hjr k q h2, hb87, hB88, (by rw [← ins_swap (x := (dget st x.i)) (by omega) hj]; exact hr79)⟩
                  · omega
                · have h39 : ¬ (((0 : Int) < (((j : Nat) : Int) : Int)) ∧ (((dget ((insAt x.L j (dget st x.i))) j).var : Int) < ((dget ((insAt x.L j (dget st x.i))) ((j - 1))).var : Int))) := by simpa using h39
                  have hgo9 := h39
                  have hstop : ¬ (0 < j ∧ (dget st x.i).var < (dget x.L (j - 1)).var) := fun q => hgo9 ⟨by omega, by rw [dget_ins_at hj, dget_ins_lt (by omega) hj]; exact q.2⟩
                  refine WC.exit ?_
                  refine WE.thenExit ?_
                  refine WE.thenExit ?_
                  refine WE.blockIs rfl ?_
                  refine WE.blockNormal ?_
                  refine WE.next ?_
                  refine WC.region ?_
                  refine WL.val (.int .i64 (((x.i : Nat) : Int))) rfl rfl rfl (fun za zC zh zk => wp_move rfl (zh.ev rfl) zk) ?_
                  refine WL.val (.int .i64 ((((x.i + 1) : Nat) : Int))) rfl rfl rfl (fun za zC zh zk => addb_3 rfl (zh.ev rfl) (zh.ev rfl) (wrap_eq (by omega) (by omega) (by omega)) zk) ?_
                  refine WL.val (.int .i64 ((((x.i + 1) : Nat) : Int))) rfl rfl rfl (fun za zC zh zk => wp_assign rfl (zh.ev rfl) zk) ?_
                  refine WL.nil (WE.sub (K' := [(0, .pointer (some ⟨g, 0, none⟩)), (2, .slice none 0 0), (3, .slice ((some ⟨gr, 0, none⟩)) ((x.n + 1)) rc27), (4, .int .i64 ((((x.i + 1) : Nat) : Int))), (5, .int .i64 (((j : Nat) : Int))), (13, .bool ((decide ((((x.i : Nat) : Int) : Int) < (((st.length : Nat) : Int) : Int))))), (47, .bool (((((dget st x.i).t.f : Int) == ((-1 - (dget st x.i).var) : Int)) && (((((dget st x.i).t.args.length : Nat) : Int) : Int) == (0 : Int))))), (87, .bool (((decide ((0 : Int) < (((j : Nat) : Int) : Int))) && (decide (((dget ((insAt x.L j (dget st x.i))) j).var : Int) < ((dget ((insAt x.L j (dget st x.i))) ((j - 1))).var : Int))))))]) ⟨rfl, rfl, rfl, rfl, rfl, rfl, rfl, rfl, trivial⟩ ?_)
                  refine WE.round (⟨x.i + 1, (some ⟨gr, 0, none⟩), rc27, (x.n + 1), (insAt x.L j (dget st x.i))⟩) ⟨rfl, rfl, rfl, rfl, trivial⟩ ?_ ?_
                  · have hb90 : Below w.heap.size w w37 := (bstep hb31 hb38)
                    have hB91 := hB32.below hb38
                    have ho92 := ho33.below hb38
                    exact ⟨by (try dsimp only); omega, (Nat.le_trans hb31.size hb38.size), subOf_ins hso hnd (by omega) hns hj hjr hstop, hb90, hB91, ho92⟩
                  · (try dsimp only); omega
    · have h7 : ¬ ((((x.i : Nat) : Int) : Int) < (((st.length : Nat) : Int) : Int)) := by simpa using h7
      refine WC.exit ?_
      refine WE.thenExit ?_
      refine WE.thenExit ?_
      refine WE.blockIs rfl ?_
      refine WE.next ?_
      refine WC.seq ?_
      refine WC.region ?_
      refine WL.val (.slice x.a x.n x.c) rfl rfl rfl (fun za zC zh zk => wp_move rfl (zh.ev rfl) zk) ?_
      refine WL.val (.slice x.a x.n x.c) rfl rfl rfl (fun za zC zh zk => wp_assign rfl (zh.ev rfl) zk) ?_
      refine WL.nil (WE.sub (K' := [(0, .pointer (some ⟨g, 0, none⟩)), (2, .slice x.a x.n x.c), (3, .slice x.a x.n x.c), (4, .int .i64 (((x.i : Nat) : Int))), (13, .bool ((decide ((((x.i : Nat) : Int) : Int) < (((st.length : Nat) : Int) : Int)))))]) ⟨rfl, rfl, rfl, rfl, rfl, trivial⟩ ?_)
      refine WE.next ?_
      refine WC.ret ?_
      refine WE.ret1 rfl rfl ?_
      have hRo := (ho6).inRow
      rw [hRo.2.1]
      refine ⟨_, rfl, ⟨x.L, _, _, rfl, by rw [show x.i = st.length by omega, List.take_length] at hso; exact hso, hRo.1.mono (by decide) (fun b hb _ => by omega), by omega, hRo.2.2.2⟩, hb4⟩

end Go.Proofs.Ytcmfjnadjddboaa

namespace Go.Proofs.Ytcmfjnadjddboaa
open Go.RowKit Go
set_option linter.unusedVariables false
set_option linter.unusedSimpArgs false

instance : DecidableEq T := fun s t => decidable_of_iff _ (T.same_iff s t)
instance : DecidableEq Bd := fun x y => decidable_of_iff (x.var = y.var ∧ x.t = y.t) (by cases x; cases y; simp)
def subSame (a b : List Bd) : Bool := decide (a = b)
/-- So far they are the same. -/
def EqTo (a b : List Bd) (k : Nat) : Prop := ∀ i, i < k → dget a i = dget b i
theorem bd_eq {x y : Bd} (h1 : x.var = y.var) (h2 : T.same x.t y.t = true) : x = y := by
  obtain ⟨v, t⟩ := x; obtain ⟨u, s⟩ := y
  have := (T.same_iff t s).1 h2
  simp only at h1 this
  rw [h1, this]
theorem EqTo.step {a b : List Bd} {k : Nat} (h : EqTo a b k) (h1 : (dget a k).var = (dget b k).var) (h2 : T.same (dget a k).t (dget b k).t = true) : EqTo a b (k + 1) := fun i hi => by
  rcases Nat.lt_or_ge i k with q | q
  · exact h i q
  · obtain rfl : i = k := by omega
    exact bd_eq h1 h2
theorem subSame_all {a b : List Bd} {k : Nat} (hl : a.length = b.length) (h : EqTo a b k) (hk : a.length ≤ k) : subSame a b = true := by
  rw [subSame, decide_eq_true_eq]
  refine List.ext_getElem hl fun i h1 h2 => ?_
  have := h i (by omega)
  rwa [dget_lt h1, dget_lt h2] at this
theorem subSame_len {a b : List Bd} (h : a.length ≠ b.length) : subSame a b = false := by
  rw [subSame, decide_eq_false_iff_not]; rintro rfl; exact h rfl
theorem subSame_at {a b : List Bd} {k : Nat} (h : ¬ ((dget a k).var = (dget b k).var ∧ T.same (dget a k).t (dget b k).t = true)) : subSame a b = false := by
  rw [subSame, decide_eq_false_iff_not]; rintro rfl; exact h ⟨rfl, T.same_refl _⟩
set_option maxRecDepth 100000 in
theorem rsubSame_any (s1 s2 : List Bd) (w : World) (pa pb : Option Addr) (ca cb : Nat) (h1 : s1.length ≤ maxLen) (ha : IsBs w s1 pa) (hb : IsBs w s2 pb) : Calls Try.prog 10 #[.slice pa s1.length ca, .slice pb s2.length cb] w (Ret fun v' w' => v' = .bool (subSame s1 s2) ∧ Below w.heap.size w w') := by
  unfold maxLen at h1
  refine Calls.walk (l := [.slice pa s1.length ca, .slice pb s2.length cb]) Try.func10 rfl (by kernel_rfl) ?_
  refine WC.sub (K' := [(0, .slice pa s1.length ca), (1, .slice pb s2.length cb)]) ⟨rfl, rfl, trivial⟩ ?_
  refine WC.seq ?_
  refine WC.region ?_
  refine WL.val (.bool false) rfl rfl rfl (fun za zC zh zk => wp_assign rfl (zh.ev rfl) zk) ?_
  refine WL.nil (WE.sub (K' := [(0, .slice pa s1.length ca), (1, .slice pb s2.length cb), (4, .bool false)]) ⟨rfl, rfl, rfl, trivial⟩ ?_)
  refine WE.next ?_
  refine WC.seq ?_
  refine WC.seq ?_
  refine WC.region ?_
  refine WL.val (.slice pa s1.length ca) rfl rfl rfl (fun za zC zh zk => wp_move rfl (zh.ev rfl) zk) ?_
  refine WL.val (.int .i64 (((s1.length : Nat) : Int))) rfl rfl rfl (fun za zC zh zk => len_26 rfl (zh.ev rfl) zk) ?_
  refine WL.val (.slice pb s2.length cb) rfl rfl rfl (fun za zC zh zk => wp_move rfl (zh.ev rfl) zk) ?_
  refine WL.val (.int .i64 (((s2.length : Nat) : Int))) rfl rfl rfl (fun za zC zh zk => len_26 rfl (zh.ev rfl) zk) ?_
  refine WL.val (.bool (((((s1.length : Nat) : Int) : Int) != (((s2.length : Nat) : Int) : Int)))) rfl rfl rfl (fun za zC zh zk => neq_3 rfl (zh.ev rfl) (zh.ev rfl) zk) ?_
  refine WL.nil (WE.sub (K' := [(0, .slice pa s1.length ca), (1, .slice pb s2.length cb), (4, .bool false), (10, .bool (((((s1.length : Nat) : Int) : Int) != (((s2.length : Nat) : Int) : Int))))]) ⟨rfl, rfl, rfl, rfl, trivial⟩ ?_)
  refine WE.next ?_
  refine WC.cond rfl (fun h1 => ?_) (fun h1 => ?_)
  · have h1 : (((s1.length : Nat) : Int) : Int) ≠ (((s2.length : Nat) : Int) : Int) := by simpa using h1
    refine WC.seq ?_
    refine WC.region ?_
    refine WL.val (.bool false) rfl rfl rfl (fun za zC zh zk => wp_assign rfl (zh.ev rfl) zk) ?_
    refine WL.nil (WE.sub (K' := [(0, .slice pa s1.length ca), (1, .slice pb s2.length cb), (4, .bool false), (10, .bool (((((s1.length : Nat) : Int) : Int) != (((s2.length : Nat) : Int) : Int))))]) ⟨rfl, rfl, rfl, rfl, trivial⟩ ?_)
    refine WE.next ?_
    refine WC.ret ?_
    refine WE.thenRet ?_
    refine WE.ret1 rfl rfl ?_
    exact ⟨_, rfl, congrArg Value.bool (Eq.symm (subSame_len (by omega))), (Below.refl _ _)⟩
  · have h1 : ¬ ((((s1.length : Nat) : Int) : Int) ≠ (((s2.length : Nat) : Int) : Int)) := by simpa using h1
    refine WC.skip ?_
    refine WE.next ?_
    refine WC.seq ?_
    refine WC.seq ?_
    refine WC.region ?_
    refine WL.val (.int .i64 0) rfl rfl rfl (fun za zC zh zk => wp_assign rfl (zh.ev rfl) zk) ?_
    refine WL.nil (WE.sub (K' := [(0, .slice pa s1.length ca), (1, .slice pb s2.length cb), (4, .bool false), (5, .int .i64 0), (10, .bool (((((s1.length : Nat) : Int) : Int) != (((s2.length : Nat) : Int) : Int))))]) ⟨rfl, rfl, rfl, rfl, rfl, trivial⟩ ?_)
    refine WE.next ?_
    refine WC.block ?_
    have hlen : s1.length = s2.length := by omega
    refine WC.loop (X := Nat) (fun k => s1.length - k) (fun k => [(0, .slice pa s1.length ca), (1, .slice pb s2.length cb), (5, .int .i64 (((k : Nat) : Int))), (10, .bool (((((s1.length : Nat) : Int) : Int) != (((s2.length : Nat) : Int) : Int))))]) (fun k w2 => k ≤ s1.length ∧ EqTo s1 s2 k ∧ Below w.heap.size w w2) 0 ⟨rfl, rfl, rfl, rfl, trivial⟩ ?_ ?_
    · exact ⟨Nat.zero_le _, fun i h => absurd h (Nat.not_lt_zero i), (Below.refl _ _)⟩
    · rintro k w2 ⟨hk, hE, hb3⟩
      refine WC.seq ?_
      refine WC.seq ?_
      refine WC.region ?_
      refine WL.val (.int .i64 (((k : Nat) : Int))) rfl rfl rfl (fun za zC zh zk => wp_move rfl (zh.ev rfl) zk) ?_
      refine WL.val (.slice pa s1.length ca) rfl rfl rfl (fun za zC zh zk => wp_move rfl (zh.ev rfl) zk) ?_
      refine WL.val (.int .i64 (((s1.length : Nat) : Int))) rfl rfl rfl (fun za zC zh zk => len_26 rfl (zh.ev rfl) zk) ?_
      refine WL.val (.bool ((decide ((((k : Nat) : Int) : Int) < (((s1.length : Nat) : Int) : Int))))) rfl rfl rfl (fun za zC zh zk => lss_3 rfl (zh.ev rfl) (zh.ev rfl) zk) ?_
      refine WL.nil (WE.sub (K' := [(0, .slice pa s1.length ca), (1, .slice pb s2.length cb), (5, .int .i64 (((k : Nat) : Int))), (10, .bool (((((s1.length : Nat) : Int) : Int) != (((s2.length : Nat) : Int) : Int)))), (14, .bool ((decide ((((k : Nat) : Int) : Int) < (((s1.length : Nat) : Int) : Int)))))]) ⟨rfl, rfl, rfl, rfl, rfl, trivial⟩ ?_)
      refine WE.next ?_
      refine WC.cond rfl (fun h4 => ?_) (fun h4 => ?_)
      · have h4 : (((k : Nat) : Int) : Int) < (((s1.length : Nat) : Int) : Int) := by simpa using h4
        refine WC.skip ?_
        refine WE.next ?_
        refine WC.seq ?_
        refine WC.block ?_
        refine WC.seq ?_
        obtain ⟨b5, o6, A7, C8, ha9, hc10⟩ := InRow.openB ha
        obtain ⟨b11, o12, A13, C14, ha15, hc16⟩ := InRow.openB hb
        refine WC.opt [(true, .val (.slice pa s1.length ca)), (true, .val (.int .i64 (((k : Nat) : Int)))), (true, .val (.pointer (some ⟨b5, o6 + k * 3, none⟩))), (true, .val (.pointer (some ⟨b5, o6 + k * 3, none⟩))), (true, .val (.int .i64 ((dget s1 k).var))), (true, .val (.slice pb s2.length cb)), (true, .val (.int .i64 (((k : Nat) : Int)))), (true, .val (.pointer (some ⟨b11, o12 + k * 3, none⟩))), (true, .val (.pointer (some ⟨b11, o12 + k * 3, none⟩))), (true, .val (.int .i64 ((dget s2 k).var))), (true, .val (.bool ((((dget s1 k).var : Int) != ((dget s2 k).var : Int))))), (true, .val (.bool ((((dget s1 k).var : Int) != ((dget s2 k).var : Int))))), ((true && !(((dget s1 k).var : Int) != ((dget s2 k).var : Int))), .val (.slice pa s1.length ca)), ((true && !(((dget s1 k).var : Int) != ((dget s2 k).var : Int))), .val (.int .i64 (((k : Nat) : Int)))), ((true && !(((dget s1 k).var : Int) != ((dget s2 k).var : Int))), .val (.pointer (some ⟨b5, o6 + k * 3, none⟩))), ((true && !(((dget s1 k).var : Int) != ((dget s2 k).var : Int))), .val (.pointer (some ⟨b5, o6 + k * 3 + 1, none⟩))), ((true && !(((dget s1 k).var : Int) != ((dget s2 k).var : Int))), .val (.agg #[.int .i64 ((dget s1 k).t.f), .slice ((A7 k)) ((dget s1 k).t.args.length) ((C8 k))])), ((true && !(((dget s1 k).var : Int) != ((dget s2 k).var : Int))), .val (.slice pb s2.length cb)), ((true && !(((dget s1 k).var : Int) != ((dget s2 k).var : Int))), .val (.int .i64 (((k : Nat) : Int)))), ((true && !(((dget s1 k).var : Int) != ((dget s2 k).var : Int))), .val (.pointer (some ⟨b11, o12 + k * 3, none⟩))), ((true && !(((dget s1 k).var : Int) != ((dget s2 k).var : Int))), .val (.pointer (some ⟨b11, o12 + k * 3 + 1, none⟩))), ((true && !(((dget s1 k).var : Int) != ((dget s2 k).var : Int))), .val (.agg #[.int .i64 ((dget s2 k).t.f), .slice ((A13 k)) ((dget s2 k).t.args.length) ((C14 k))])), ((true && !(((dget s1 k).var : Int) != ((dget s2 k).var : Int))), .val (.bool ((T.same (dget s1 k).t (dget s2 k).t)))), ((true && !(((dget s1 k).var : Int) != ((dget s2 k).var : Int))), .val (.bool ((!(T.same (dget s1 k).t (dget s2 k).t))))), (true, .val (.bool (((((dget s1 k).var : Int) != ((dget s2 k).var : Int)) || (!(T.same (dget s1 k).t (dget s2 k).t))))))] [(0, .slice pa s1.length ca), (1, .slice pb s2.length cb), (5, .int .i64 (((k : Nat) : Int))), (10, .bool (((((s1.length : Nat) : Int) : Int) != (((s2.length : Nat) : Int) : Int)))), (14, .bool ((decide ((((k : Nat) : Int) : Int) < (((s1.length : Nat) : Int) : Int)))))] ⟨rfl, rfl, rfl, rfl, rfl, trivial⟩ (by kernel_rfl) (by kernel_rfl) (by kernel_rfl) ?_ ?_
        · refine ⟨⟨true, .none rfl, fun h w => optUndef h, fun zβ za zw zc => ?_⟩, ?_⟩
          · exact wp_move rfl (zc.kn.ev rfl) ⟨_, rfl, Below.refl _ _, optDef zβ rfl⟩
          refine ⟨⟨true, .none rfl, fun h w => optUndef h, fun zβ za zw zc => ?_⟩, ?_⟩
          · exact wp_move rfl (zc.kn.ev rfl) ⟨_, rfl, Below.refl _ _, optDef zβ rfl⟩
          refine ⟨⟨true, .none rfl, fun h w => optUndef h, fun zβ za zw zc => ?_⟩, ?_⟩
          · exact ix_26 (k := k) rfl ((show za.eval (.tmp 17) = za.tmps.getD 17 undef from rfl).trans (optVal (zc.dep 0 17 (by kernel_rfl)) rfl rfl)) (ha9 k (by first | omega | (simp; omega))) ((show za.eval (.tmp 18) = za.tmps.getD 18 undef from rfl).trans (optVal (zc.dep 1 18 (by kernel_rfl)) rfl rfl)) (by first | omega | (simp; omega)) ⟨_, rfl, Below.refl _ _, optDef zβ rfl⟩
          refine ⟨⟨true, .none rfl, fun h w => optUndef h, fun zβ za zw zc => ?_⟩, ?_⟩
          · exact fld_57_0 rfl ((show za.eval (.tmp 19) = za.tmps.getD 19 undef from rfl).trans (optVal (zc.dep 2 19 (by kernel_rfl)) rfl rfl)) ⟨_, rfl, Below.refl _ _, optDef zβ rfl⟩
          refine ⟨⟨true, .none rfl, fun h w => optUndef h, fun zβ za zw zc => ?_⟩, ?_⟩
          · exact ld_3 rfl ((show za.eval (.tmp 20) = za.tmps.getD 20 undef from rfl).trans (optVal (zc.dep 3 20 (by kernel_rfl)) rfl rfl)) (bkeeps (bstep hb3 zc.below) _ _ (hc10 k (by first | omega | (simp; omega))).1) ⟨_, rfl, Below.refl _ _, optDef zβ rfl⟩
          refine ⟨⟨true, .none rfl, fun h w => optUndef h, fun zβ za zw zc => ?_⟩, ?_⟩
          · exact wp_move rfl (zc.kn.ev rfl) ⟨_, rfl, Below.refl _ _, optDef zβ rfl⟩
          refine ⟨⟨true, .none rfl, fun h w => optUndef h, fun zβ za zw zc => ?_⟩, ?_⟩
          · exact wp_move rfl (zc.kn.ev rfl) ⟨_, rfl, Below.refl _ _, optDef zβ rfl⟩
          refine ⟨⟨true, .none rfl, fun h w => optUndef h, fun zβ za zw zc => ?_⟩, ?_⟩
          · exact ix_26 (k := k) rfl ((show za.eval (.tmp 22) = za.tmps.getD 22 undef from rfl).trans (optVal (zc.dep 5 22 (by kernel_rfl)) rfl rfl)) (ha15 k (by first | omega | (simp; omega))) ((show za.eval (.tmp 23) = za.tmps.getD 23 undef from rfl).trans (optVal (zc.dep 6 23 (by kernel_rfl)) rfl rfl)) (by first | omega | (simp; omega)) ⟨_, rfl, Below.refl _ _, optDef zβ rfl⟩
          refine ⟨⟨true, .none rfl, fun h w => optUndef h, fun zβ za zw zc => ?_⟩, ?_⟩
          · exact fld_57_0 rfl ((show za.eval (.tmp 24) = za.tmps.getD 24 undef from rfl).trans (optVal (zc.dep 7 24 (by kernel_rfl)) rfl rfl)) ⟨_, rfl, Below.refl _ _, optDef zβ rfl⟩
          refine ⟨⟨true, .none rfl, fun h w => optUndef h, fun zβ za zw zc => ?_⟩, ?_⟩
          · exact ld_3 rfl ((show za.eval (.tmp 25) = za.tmps.getD 25 undef from rfl).trans (optVal (zc.dep 8 25 (by kernel_rfl)) rfl rfl)) (bkeeps (bstep hb3 zc.below) _ _ (hc16 k (by first | omega | (simp; omega))).1) ⟨_, rfl, Below.refl _ _, optDef zβ rfl⟩
          refine ⟨⟨true, .none rfl, fun h w => optUndef h, fun zβ za zw zc => ?_⟩, ?_⟩
          · exact neq_3 rfl ((show za.eval (.tmp 21) = za.tmps.getD 21 undef from rfl).trans (optVal (zc.dep 4 21 (by kernel_rfl)) rfl rfl)) ((show za.eval (.tmp 26) = za.tmps.getD 26 undef from rfl).trans (optVal (zc.dep 9 26 (by kernel_rfl)) rfl rfl)) ⟨_, rfl, Below.refl _ _, optDef zβ rfl⟩
          refine ⟨⟨true, .none rfl, fun h w => optUndef h, fun zβ za zw zc => ?_⟩, ?_⟩
          · exact wp_move rfl ((show za.eval (.tmp 27) = za.tmps.getD 27 undef from rfl).trans (optVal (zc.dep 10 27 (by kernel_rfl)) rfl rfl)) ⟨_, rfl, Below.refl _ _, optDef zβ rfl⟩
          refine ⟨⟨(true && !(((dget s1 k).var : Int) != ((dget s2 k).var : Int))), .no (c := (((dget s1 k).var : Int) != ((dget s2 k).var : Int))) (d := true) rfl (fun v w h => h), fun h w => optUndef h, fun zβ za zw zc => ?_⟩, ?_⟩
          · exact wp_move rfl (zc.kn.ev rfl) ⟨_, rfl, Below.refl _ _, optDef zβ rfl⟩
          refine ⟨⟨(true && !(((dget s1 k).var : Int) != ((dget s2 k).var : Int))), .no (c := (((dget s1 k).var : Int) != ((dget s2 k).var : Int))) (d := true) rfl (fun v w h => h), fun h w => optUndef h, fun zβ za zw zc => ?_⟩, ?_⟩
          · exact wp_move rfl (zc.kn.ev rfl) ⟨_, rfl, Below.refl _ _, optDef zβ rfl⟩
          refine ⟨⟨(true && !(((dget s1 k).var : Int) != ((dget s2 k).var : Int))), .no (c := (((dget s1 k).var : Int) != ((dget s2 k).var : Int))) (d := true) rfl (fun v w h => h), fun h w => optUndef h, fun zβ za zw zc => ?_⟩, ?_⟩
          · exact ix_26 (k := k) rfl ((show za.eval (.tmp 29) = za.tmps.getD 29 undef from rfl).trans (optVal (zc.dep 12 29 (by kernel_rfl)) rfl zβ)) (ha9 k (by first | omega | (have zz := zβ; simp only [Bool.and_eq_true, Bool.or_eq_true, Bool.true_and, Bool.not_eq_true', Bool.or_eq_false_iff, Bool.and_eq_false_iff, beq_eq_false_iff_ne, ne_eq, beq_iff_eq, decide_eq_true_eq, decide_eq_false_iff_not, bne_iff_ne] at zz; omega))) ((show za.eval (.tmp 30) = za.tmps.getD 30 undef from rfl).trans (optVal (zc.dep 13 30 (by kernel_rfl)) rfl zβ)) (by first | omega | (have zz := zβ; simp only [Bool.and_eq_true, Bool.or_eq_true, Bool.true_and, Bool.not_eq_true', Bool.or_eq_false_iff, Bool.and_eq_false_iff, beq_eq_false_iff_ne, ne_eq, beq_iff_eq, decide_eq_true_eq, decide_eq_false_iff_not, bne_iff_ne] at zz; omega)) ⟨_, rfl, Below.refl _ _, optDef zβ rfl⟩
          refine ⟨⟨(true && !(((dget s1 k).var : Int) != ((dget s2 k).var : Int))), .no (c := (((dget s1 k).var : Int) != ((dget s2 k).var : Int))) (d := true) rfl (fun v w h => h), fun h w => optUndef h, fun zβ za zw zc => ?_⟩, ?_⟩
          · exact fld_57_1 rfl ((show za.eval (.tmp 31) = za.tmps.getD 31 undef from rfl).trans (optVal (zc.dep 14 31 (by kernel_rfl)) rfl zβ)) ⟨_, rfl, Below.refl _ _, optDef zβ rfl⟩
          refine ⟨⟨(true && !(((dget s1 k).var : Int) != ((dget s2 k).var : Int))), .no (c := (((dget s1 k).var : Int) != ((dget s2 k).var : Int))) (d := true) rfl (fun v w h => h), fun h w => optUndef h, fun zβ za zw zc => ?_⟩, ?_⟩
          · exact ld_24 rfl ((show za.eval (.tmp 32) = za.tmps.getD 32 undef from rfl).trans (optVal (zc.dep 15 32 (by kernel_rfl)) rfl zβ)) (bkeeps (bstep hb3 zc.below) _ _ (hc10 k (by first | omega | (have zz := zβ; simp only [Bool.and_eq_true, Bool.or_eq_true, Bool.true_and, Bool.not_eq_true', Bool.or_eq_false_iff, Bool.and_eq_false_iff, beq_eq_false_iff_ne, ne_eq, beq_iff_eq, decide_eq_true_eq, decide_eq_false_iff_not, bne_iff_ne] at zz; omega))).2.1) (bkeeps (bstep hb3 zc.below) _ _ (hc10 k (by first | omega | (have zz := zβ; simp only [Bool.and_eq_true, Bool.or_eq_true, Bool.true_and, Bool.not_eq_true', Bool.or_eq_false_iff, Bool.and_eq_false_iff, beq_eq_false_iff_ne, ne_eq, beq_iff_eq, decide_eq_true_eq, decide_eq_false_iff_not, bne_iff_ne] at zz; omega))).2.2.1) ⟨_, rfl, Below.refl _ _, optDef zβ rfl⟩
          refine ⟨⟨(true && !(((dget s1 k).var : Int) != ((dget s2 k).var : Int))), .no (c := (((dget s1 k).var : Int) != ((dget s2 k).var : Int))) (d := true) rfl (fun v w h => h), fun h w => optUndef h, fun zβ za zw zc => ?_⟩, ?_⟩
          · exact wp_move rfl (zc.kn.ev rfl) ⟨_, rfl, Below.refl _ _, optDef zβ rfl⟩
          refine ⟨⟨(true && !(((dget s1 k).var : Int) != ((dget s2 k).var : Int))), .no (c := (((dget s1 k).var : Int) != ((dget s2 k).var : Int))) (d := true) rfl (fun v w h => h), fun h w => optUndef h, fun zβ za zw zc => ?_⟩, ?_⟩
          · exact wp_move rfl (zc.kn.ev rfl) ⟨_, rfl, Below.refl _ _, optDef zβ rfl⟩
          refine ⟨⟨(true && !(((dget s1 k).var : Int) != ((dget s2 k).var : Int))), .no (c := (((dget s1 k).var : Int) != ((dget s2 k).var : Int))) (d := true) rfl (fun v w h => h), fun h w => optUndef h, fun zβ za zw zc => ?_⟩, ?_⟩
          · exact ix_26 (k := k) rfl ((show za.eval (.tmp 34) = za.tmps.getD 34 undef from rfl).trans (optVal (zc.dep 17 34 (by kernel_rfl)) rfl zβ)) (ha15 k (by first | omega | (have zz := zβ; simp only [Bool.and_eq_true, Bool.or_eq_true, Bool.true_and, Bool.not_eq_true', Bool.or_eq_false_iff, Bool.and_eq_false_iff, beq_eq_false_iff_ne, ne_eq, beq_iff_eq, decide_eq_true_eq, decide_eq_false_iff_not, bne_iff_ne] at zz; omega))) ((show za.eval (.tmp 35) = za.tmps.getD 35 undef from rfl).trans (optVal (zc.dep 18 35 (by kernel_rfl)) rfl zβ)) (by first | omega | (have zz := zβ; simp only [Bool.and_eq_true, Bool.or_eq_true, Bool.true_and, Bool.not_eq_true', Bool.or_eq_false_iff, Bool.and_eq_false_iff, beq_eq_false_iff_ne, ne_eq, beq_iff_eq, decide_eq_true_eq, decide_eq_false_iff_not, bne_iff_ne] at zz; omega)) ⟨_, rfl, Below.refl _ _, optDef zβ rfl⟩
          refine ⟨⟨(true && !(((dget s1 k).var : Int) != ((dget s2 k).var : Int))), .no (c := (((dget s1 k).var : Int) != ((dget s2 k).var : Int))) (d := true) rfl (fun v w h => h), fun h w => optUndef h, fun zβ za zw zc => ?_⟩, ?_⟩
          · exact fld_57_1 rfl ((show za.eval (.tmp 36) = za.tmps.getD 36 undef from rfl).trans (optVal (zc.dep 19 36 (by kernel_rfl)) rfl zβ)) ⟨_, rfl, Below.refl _ _, optDef zβ rfl⟩
          refine ⟨⟨(true && !(((dget s1 k).var : Int) != ((dget s2 k).var : Int))), .no (c := (((dget s1 k).var : Int) != ((dget s2 k).var : Int))) (d := true) rfl (fun v w h => h), fun h w => optUndef h, fun zβ za zw zc => ?_⟩, ?_⟩
          · exact ld_24 rfl ((show za.eval (.tmp 37) = za.tmps.getD 37 undef from rfl).trans (optVal (zc.dep 20 37 (by kernel_rfl)) rfl zβ)) (bkeeps (bstep hb3 zc.below) _ _ (hc16 k (by first | omega | (have zz := zβ; simp only [Bool.and_eq_true, Bool.or_eq_true, Bool.true_and, Bool.not_eq_true', Bool.or_eq_false_iff, Bool.and_eq_false_iff, beq_eq_false_iff_ne, ne_eq, beq_iff_eq, decide_eq_true_eq, decide_eq_false_iff_not, bne_iff_ne] at zz; omega))).2.1) (bkeeps (bstep hb3 zc.below) _ _ (hc16 k (by first | omega | (have zz := zβ; simp only [Bool.and_eq_true, Bool.or_eq_true, Bool.true_and, Bool.not_eq_true', Bool.or_eq_false_iff, Bool.and_eq_false_iff, beq_eq_false_iff_ne, ne_eq, beq_iff_eq, decide_eq_true_eq, decide_eq_false_iff_not, bne_iff_ne] at zz; omega))).2.2.1) ⟨_, rfl, Below.refl _ _, optDef zβ rfl⟩
          refine ⟨⟨(true && !(((dget s1 k).var : Int) != ((dget s2 k).var : Int))), .no (c := (((dget s1 k).var : Int) != ((dget s2 k).var : Int))) (d := true) rfl (fun v w h => h), fun h w => optUndef h, fun zβ za zw zc => ?_⟩, ?_⟩
          · exact wp_call (by kernel_rfl) rfl (hv2 ((show za.eval (.tmp 33) = za.tmps.getD 33 undef from rfl).trans (optVal (zc.dep 16 33 (by kernel_rfl)) rfl zβ)) ((show za.eval (.tmp 38) = za.tmps.getD 38 undef from rfl).trans (optVal (zc.dep 21 38 (by kernel_rfl)) rfl zβ))) (ret_of (rsame_any _ _ _ _ _ (IsT.below (bstep hb3 zc.below) (InT.isT (hc10 k (by first | omega | (have zz := zβ; simp only [Bool.and_eq_true, Bool.or_eq_true, Bool.true_and, Bool.not_eq_true', Bool.or_eq_false_iff, Bool.and_eq_false_iff, beq_eq_false_iff_ne, ne_eq, beq_iff_eq, decide_eq_true_eq, decide_eq_false_iff_not, bne_iff_ne] at zz; omega))).2.2.2.1)) (IsT.below (bstep hb3 zc.below) (InT.isT (hc16 k (by first | omega | (have zz := zβ; simp only [Bool.and_eq_true, Bool.or_eq_true, Bool.true_and, Bool.not_eq_true', Bool.or_eq_false_iff, Bool.and_eq_false_iff, beq_eq_false_iff_ne, ne_eq, beq_iff_eq, decide_eq_true_eq, decide_eq_false_iff_not, bne_iff_ne] at zz; omega))).2.2.2.1)))) (fun v w' h => ⟨v, rfl, h.2, optDef zβ h.1⟩)
          refine ⟨⟨(true && !(((dget s1 k).var : Int) != ((dget s2 k).var : Int))), .no (c := (((dget s1 k).var : Int) != ((dget s2 k).var : Int))) (d := true) rfl (fun v w h => h), fun h w => optUndef h, fun zβ za zw zc => ?_⟩, ?_⟩
          · exact wp_not rfl ((show za.eval (.tmp 39) = za.tmps.getD 39 undef from rfl).trans (optVal (zc.dep 22 39 (by kernel_rfl)) rfl zβ)) ⟨_, rfl, Below.refl _ _, optDef zβ rfl⟩
          refine ⟨⟨true, .none rfl, fun h w => optUndef h, fun zβ za zw zc => ?_⟩, ?_⟩
          · exact wp_or rfl ((show za.eval (.tmp 28) = za.tmps.getD 28 undef from rfl).trans (optVal (zc.dep 11 28 (by kernel_rfl)) rfl rfl)) (fun hp => ((show za.eval (.tmp 40) = za.tmps.getD 40 undef from rfl).trans (optVal (zc.dep 23 40 (by kernel_rfl)) rfl (bMkN zβ hp)))) ⟨_, rfl, Below.refl _ _, optDef zβ rfl⟩
          exact trivial
        · intro za w17 zh hb18 zu
          have zh := zh.cons (d := 41) (v := .bool (((((dget s1 k).var : Int) != ((dget s2 k).var : Int)) || (!(T.same (dget s1 k).t (dget s2 k).t))))) (optVal (zu 24 41 (by kernel_rfl)) rfl rfl)
          clear zu
          refine (show WE _ [(0, .slice pa s1.length ca), (1, .slice pb s2.length cb), (5, .int .i64 (((k : Nat) : Int))), (10, .bool (((((s1.length : Nat) : Int) : Int) != (((s2.length : Nat) : Int) : Int)))), (14, .bool ((decide ((((k : Nat) : Int) : Int) < (((s1.length : Nat) : Int) : Int))))), (41, .bool (((((dget s1 k).var : Int) != ((dget s2 k).var : Int)) || (!(T.same (dget s1 k).t (dget s2 k).t)))))] w17 _ .normal from ?_) za (zh.sub ⟨rfl, rfl, rfl, rfl, rfl, rfl, trivial⟩)
          refine WE.next ?_
          refine WC.cond rfl (fun h19 => ?_) (fun h19 => ?_)
          · have h19 : (((dget s1 k).var : Int) ≠ ((dget s2 k).var : Int)) ∨ (¬ ((T.same (dget s1 k).t (dget s2 k).t) = true)) := by simpa using h19
            refine WC.seq ?_
            refine WC.region ?_
            refine WL.val (.bool false) rfl rfl rfl (fun za zC zh zk => wp_assign rfl (zh.ev rfl) zk) ?_
            refine WL.nil (WE.sub (K' := [(0, .slice pa s1.length ca), (1, .slice pb s2.length cb), (4, .bool false), (5, .int .i64 (((k : Nat) : Int))), (10, .bool (((((s1.length : Nat) : Int) : Int) != (((s2.length : Nat) : Int) : Int)))), (14, .bool ((decide ((((k : Nat) : Int) : Int) < (((s1.length : Nat) : Int) : Int))))), (41, .bool (((((dget s1 k).var : Int) != ((dget s2 k).var : Int)) || (!(T.same (dget s1 k).t (dget s2 k).t)))))]) ⟨rfl, rfl, rfl, rfl, rfl, rfl, rfl, trivial⟩ ?_)
            refine WE.next ?_
            refine WC.ret ?_
            refine WE.blockRet ?_
            refine WE.thenRet ?_
            refine WE.thenRet ?_
            refine WE.blockRet ?_
            refine WE.thenRet ?_
            refine WE.ret1 rfl rfl ?_
            have hb20 : Below w.heap.size w w17 := (bstep hb3 hb18)
            exact ⟨_, rfl, congrArg Value.bool (Eq.symm (subSame_at (fun hh => by have z := h19; simp at z; rcases z with z | z; exact z hh.1; rw [hh.2] at z; cases z))), hb20⟩
          · have h19 : ¬ ((((dget s1 k).var : Int) ≠ ((dget s2 k).var : Int)) ∨ (¬ ((T.same (dget s1 k).t (dget s2 k).t) = true))) := by simpa using h19
            refine WC.skip ?_
            refine WE.blockNormal ?_
            refine WE.next ?_
            refine WC.region ?_
            refine WL.val (.int .i64 (((k : Nat) : Int))) rfl rfl rfl (fun za zC zh zk => wp_move rfl (zh.ev rfl) zk) ?_
            refine WL.val (.int .i64 ((((k + 1) : Nat) : Int))) rfl rfl rfl (fun za zC zh zk => addb_3 rfl (zh.ev rfl) (zh.ev rfl) (wrap_eq (by omega) (by omega) (by omega)) zk) ?_
            refine WL.val (.int .i64 ((((k + 1) : Nat) : Int))) rfl rfl rfl (fun za zC zh zk => wp_assign rfl (zh.ev rfl) zk) ?_
            refine WL.nil (WE.sub (K' := [(0, .slice pa s1.length ca), (1, .slice pb s2.length cb), (5, .int .i64 ((((k + 1) : Nat) : Int))), (10, .bool (((((s1.length : Nat) : Int) : Int) != (((s2.length : Nat) : Int) : Int)))), (14, .bool ((decide ((((k : Nat) : Int) : Int) < (((s1.length : Nat) : Int) : Int))))), (41, .bool (((((dget s1 k).var : Int) != ((dget s2 k).var : Int)) || (!(T.same (dget s1 k).t (dget s2 k).t)))))]) ⟨rfl, rfl, rfl, rfl, rfl, rfl, trivial⟩ ?_)
            refine WE.round (k + 1) ⟨rfl, rfl, rfl, rfl, trivial⟩ ?_ ?_
            · have hb21 : Below w.heap.size w w17 := (bstep hb3 hb18)
              exact ⟨by omega, hE.step (by have z := h19; simp at z; omega) (by have z := h19; simp at z; exact z.2), hb21⟩
            · omega
      · have h4 : ¬ ((((k : Nat) : Int) : Int) < (((s1.length : Nat) : Int) : Int)) := by simpa using h4
        refine WC.exit ?_
        refine WE.thenExit ?_
        refine WE.thenExit ?_
        refine WE.blockIs rfl ?_
        refine WE.next ?_
        refine WC.seq ?_
        refine WC.region ?_
        refine WL.val (.bool true) rfl rfl rfl (fun za zC zh zk => wp_assign rfl (zh.ev rfl) zk) ?_
        refine WL.nil (WE.sub (K' := [(0, .slice pa s1.length ca), (1, .slice pb s2.length cb), (4, .bool true), (5, .int .i64 (((k : Nat) : Int))), (10, .bool (((((s1.length : Nat) : Int) : Int) != (((s2.length : Nat) : Int) : Int)))), (14, .bool ((decide ((((k : Nat) : Int) : Int) < (((s1.length : Nat) : Int) : Int)))))]) ⟨rfl, rfl, rfl, rfl, rfl, rfl, trivial⟩ ?_)
        refine WE.next ?_
        refine WC.ret ?_
        refine WE.ret1 rfl rfl ?_
        exact ⟨_, rfl, congrArg Value.bool (Eq.symm (subSame_all hlen hE (by omega))), hb3⟩

set_option maxRecDepth 100000 in
theorem rmatch_any (p t : T) (w : World) (u v : Value) (hp : IsT w p u) (ht : IsT w t v) (hzp : p.size ≤ 4294967296) (hzt : t.size ≤ 4294967296) : Calls Try.prog 9 #[u, v] w (Ret fun v' w' => MatchIs w w' p t v' ∧ Below w.heap.size w w') := by
  obtain ⟨hfp, pa0, pc0, rfl, _, _, _⟩ := hp.form
  obtain ⟨hft, ta0, tc0, rfl, _, _, _⟩ := ht.form
  have hpI := hp.inT
  have htI := ht.inT
  refine Calls.walk (l := [.agg #[.int .i64 p.f, .slice pa0 p.args.length pc0], .agg #[.int .i64 t.f, .slice ta0 t.args.length tc0]]) Try.func9 rfl (by kernel_rfl) ?_
  refine WC.sub (K' := [(0, .agg #[.int .i64 p.f, .slice pa0 p.args.length pc0]), (1, .agg #[.int .i64 t.f, .slice ta0 t.args.length tc0])]) ⟨rfl, rfl, trivial⟩ ?_
  refine WC.seq ?_
  refine WC.region ?_
  refine WL.step (post := NewBlk w 24 #[.int .i64 p.f, .slice pa0 p.args.length pc0]) rfl rfl rfl (fun za zC zh zk => box_24 rfl (zh.ev rfl) (zk _ _ (newBlk _ _ _))) ?_
  rintro _ w1 ⟨g2, rfl, hg3, hB4, hb5, hz6⟩
  have hl7 : w.heap.size ≤ g2 := by omega
  refine WL.step (post := NewBlk w1 24 #[.int .i64 t.f, .slice ta0 t.args.length tc0]) rfl rfl rfl (fun za zC zh zk => box_24 rfl (zh.ev rfl) (zk _ _ (newBlk _ _ _))) ?_
  rintro _ w8 ⟨g9, rfl, hg10, hB11, hb12, hz13⟩
  have hl14 : g2 < g9 := by have z1 := hB4.lt; omega
  have hl15 : w.heap.size ≤ g9 := by have z2 := (hb5).size; omega
  refine WL.val (.slice none 0 0) rfl rfl rfl (fun za zC zh zk => wp_assign rfl (zh.ev rfl) zk) ?_
  refine WL.val (.bool false) rfl rfl rfl (fun za zC zh zk => wp_assign rfl (zh.ev rfl) zk) ?_
  refine WL.nil (WE.sub (K' := [(0, .agg #[.int .i64 p.f, .slice pa0 p.args.length pc0]), (1, .agg #[.int .i64 t.f, .slice ta0 t.args.length tc0]), (2, .pointer (some ⟨g2, 0, none⟩)), (3, .pointer (some ⟨g9, 0, none⟩)), (4, .slice none 0 0), (5, .bool false)]) ⟨rfl, rfl, rfl, rfl, rfl, rfl, trivial⟩ ?_)
  refine WE.next ?_
  refine WC.seq ?_
  refine WC.region ?_
  refine WL.val (.agg #[.slice none 0 0]) rfl rfl rfl (fun za zC zh zk => build_37_ rfl  zk) ?_
  refine WL.step (post := NewBlk w8 37 #[.slice none 0 0]) rfl rfl rfl (fun za zC zh zk => box_37 rfl (zh.ev rfl) (zk _ _ (newBlk _ _ _))) ?_
  rintro _ w16 ⟨g17, rfl, hg18, hB19, hb20, hz21⟩
  have hl22 : g2 < g17 := by have z1 := hB4.lt; have z2 := (hb12).size; omega
  have hl23 : g9 < g17 := by have z1 := hB11.lt; omega
  have hb24 : Below w.heap.size w w8 := (bstep hb5 hb12)
  have hl25 : w.heap.size ≤ g17 := by have z2 := (hb24).size; omega
  refine WL.val (.pointer (some ⟨g17, 0, none⟩)) rfl rfl rfl (fun za zC zh zk => wp_assign rfl (zh.ev rfl) zk) ?_
  refine WL.nil (WE.sub (K' := [(0, .agg #[.int .i64 p.f, .slice pa0 p.args.length pc0]), (1, .agg #[.int .i64 t.f, .slice ta0 t.args.length tc0]), (2, .pointer (some ⟨g2, 0, none⟩)), (3, .pointer (some ⟨g9, 0, none⟩)), (4, .slice none 0 0), (5, .bool false), (6, .pointer (some ⟨g17, 0, none⟩))]) ⟨rfl, rfl, rfl, rfl, rfl, rfl, rfl, trivial⟩ ?_)
  refine WE.next ?_
  refine WC.seq ?_
  refine WC.seq ?_
  have hb27 : Below w1.heap.size w1 w16 := (bstep hb12 hb20)
  have hB26 := hB4.below hb27
  have hl28 : g2 < w16.heap.size := hB26.lt
  have hl29 : w.heap.size ≤ g2 := by have z : w.heap.size ≤ w.heap.size := (Nat.le_refl _); omega
  have hB30 := hB11.below hb20
  have hl31 : g9 < w16.heap.size := hB30.lt
  have hl32 : w.heap.size ≤ g9 := by have z : w.heap.size ≤ w1.heap.size := hb5.size; omega
  have hl33 : g17 < w16.heap.size := hB19.lt
  have hl34 : w.heap.size ≤ g17 := by have z : w.heap.size ≤ w8.heap.size := hb24.size; omega
  have hMA : RefAt w16 g17 [] (fun b => b = g17) := ⟨_, _, RefIn.start hB19⟩
  have hC : ∀ b, (fun b => b = g17) b → w.heap.size ≤ b := fun b q => by (try dsimp only at q); omega
  have hne35 : g2 ≠ g17 := by omega
  have hne36 : g9 ≠ g17 := by omega
  refine WC.region ?_
  refine WL.val (.pointer (some ⟨g17, 0, none⟩)) rfl rfl rfl (fun za zC zh zk => wp_move rfl (zh.ev rfl) zk) ?_
  refine WL.val (.agg #[.int .i64 p.f, .slice pa0 p.args.length pc0]) rfl rfl rfl (fun za zC zh zk => ld_24 rfl (zh.ev rfl) ((hB26.cell 0).trans rfl) ((hB26.cell 1).trans rfl) zk) ?_
  refine WL.val (.agg #[.int .i64 t.f, .slice ta0 t.args.length tc0]) rfl rfl rfl (fun za zC zh zk => ld_24 rfl (zh.ev rfl) ((hB30.cell 0).trans rfl) ((hB30.cell 1).trans rfl) zk) ?_
  have hb37 : Below w.heap.size w w16 := (bstep hb5 hb27)
  refine WL.call rfl rfl rfl (fun za zh zC => wp_call (by kernel_rfl) rfl (hv3 (zh.ev rfl) (zh.ev rfl) (zh.ev rfl))) (rTerm_any p t hMA (InT.below hb37 hpI) (InT.below hb37 htI) (fun b q q2 => by have z := hC _ q2; omega) hzp hzt (by simp; omega)) ?_
  rintro _ w38 ⟨⟨C2, rfl, hMA2, hC2⟩, hcT⟩
  have hb39 := chg_below hb37 hcT (fun b hb => (fun h => by have z := hC _ h; (try dsimp only at *); omega))
  have hB40 := chg_blk hB26 hcT (fun h => by have z := hC _ h; (try dsimp only at *); omega)
  have hB41 := chg_blk hB30 hcT (fun h => by have z := hC _ h; (try dsimp only at *); omega)
  refine WL.val (.bool ((!(mOk p t [])))) rfl rfl rfl (fun za zC zh zk => wp_not rfl (zh.ev rfl) zk) ?_
  refine WL.nil (WE.sub (K' := [(0, .agg #[.int .i64 p.f, .slice pa0 p.args.length pc0]), (1, .agg #[.int .i64 t.f, .slice ta0 t.args.length tc0]), (2, .pointer (some ⟨g2, 0, none⟩)), (3, .pointer (some ⟨g9, 0, none⟩)), (4, .slice none 0 0), (5, .bool false), (6, .pointer (some ⟨g17, 0, none⟩)), (13, .bool ((!(mOk p t []))))]) ⟨rfl, rfl, rfl, rfl, rfl, rfl, rfl, rfl, trivial⟩ ?_)
  refine WE.next ?_
  refine WC.cond rfl (fun h42 => ?_) (fun h42 => ?_)
  · have h42 : ¬ ((mOk p t []) = true) := by simpa using h42
    refine WC.seq ?_
    refine WC.region ?_
    refine WL.val (.slice none 0 0) rfl rfl rfl (fun za zC zh zk => wp_assign rfl (zh.ev rfl) zk) ?_
    refine WL.val (.bool false) rfl rfl rfl (fun za zC zh zk => wp_assign rfl (zh.ev rfl) zk) ?_
    refine WL.nil (WE.sub (K' := [(0, .agg #[.int .i64 p.f, .slice pa0 p.args.length pc0]), (1, .agg #[.int .i64 t.f, .slice ta0 t.args.length tc0]), (2, .pointer (some ⟨g2, 0, none⟩)), (3, .pointer (some ⟨g9, 0, none⟩)), (4, .slice none 0 0), (5, .bool false), (6, .pointer (some ⟨g17, 0, none⟩)), (13, .bool ((!(mOk p t []))))]) ⟨rfl, rfl, rfl, rfl, rfl, rfl, rfl, rfl, trivial⟩ ?_)
    refine WE.next ?_
    refine WC.ret ?_
    refine WE.thenRet ?_
    refine WE.ret2 rfl rfl rfl ?_
    refine ⟨_, rfl, ?_, hb39⟩
    unfold MatchIs
    rw [if_neg (by simpa using h42)]
  · have h42 : ¬ (¬ ((mOk p t []) = true)) := by simpa using h42
    refine WC.skip ?_
    refine WE.next ?_
    refine WC.seq ?_
    refine WC.region ?_
    refine WL.val (.pointer (some ⟨g17, 0, none⟩)) rfl rfl rfl (fun za zC zh zk => wp_move rfl (zh.ev rfl) zk) ?_
    refine WL.call rfl rfl rfl (fun za zh zC => wp_call (by kernel_rfl) rfl (hv1 (zh.ev rfl))) (rsub_any _ hMA2 (mTo_nd p t List.nodup_nil) (by have z := (mTo_take p t []).2.1; simp at z; omega)) ?_
    rintro _ w43 ⟨⟨R, ra, rc, rfl, hSO, hNB⟩, hbs⟩
    refine WL.val (.slice ra R.length rc) rfl rfl rfl (fun za zC zh zk => wp_assign rfl (zh.ev rfl) zk) ?_
    refine WL.val (.bool true) rfl rfl rfl (fun za zC zh zk => wp_assign rfl (zh.ev rfl) zk) ?_
    refine WL.nil (WE.sub (K' := [(0, .agg #[.int .i64 p.f, .slice pa0 p.args.length pc0]), (1, .agg #[.int .i64 t.f, .slice ta0 t.args.length tc0]), (2, .pointer (some ⟨g2, 0, none⟩)), (3, .pointer (some ⟨g9, 0, none⟩)), (4, .slice ra R.length rc), (5, .bool true), (6, .pointer (some ⟨g17, 0, none⟩)), (13, .bool ((!(mOk p t []))))]) ⟨rfl, rfl, rfl, rfl, rfl, rfl, rfl, rfl, trivial⟩ ?_)
    refine WE.next ?_
    refine WC.ret ?_
    refine WE.ret2 rfl rfl rfl ?_
    have hb44 : Below w.heap.size w w43 := (bstep hb39 hbs)
    refine ⟨_, rfl, ?_, hb44⟩
    unfold MatchIs
    rw [if_pos (by simpa using h42)]
    exact ⟨R, _, _, rfl, hSO, (hNB.older hb39.size).below (Below.refl _ _)⟩

set_option maxRecDepth 100000 in
theorem rvariant_any (p t : T) (w : World) (u v : Value) (hp : IsT w p u) (ht : IsT w t v) (hzp : p.size ≤ 4294967296) (hzt : t.size ≤ 4294967296) : Calls Try.prog 12 #[u, v] w (Ret fun v' w' => v' = .bool (varB p t) ∧ Below w.heap.size w w') := by
  obtain ⟨hfp, pa0, pc0, rfl, _, _, _⟩ := hp.form
  obtain ⟨hft, ta0, tc0, rfl, _, _, _⟩ := ht.form
  have hpI := hp.inT
  have htI := ht.inT
  refine Calls.walk (l := [.agg #[.int .i64 p.f, .slice pa0 p.args.length pc0], .agg #[.int .i64 t.f, .slice ta0 t.args.length tc0]]) Try.func12 rfl (by kernel_rfl) ?_
  refine WC.sub (K' := [(0, .agg #[.int .i64 p.f, .slice pa0 p.args.length pc0]), (1, .agg #[.int .i64 t.f, .slice ta0 t.args.length tc0])]) ⟨rfl, rfl, trivial⟩ ?_
  refine WC.seq ?_
  refine WC.region ?_
  refine WL.step (post := NewBlk w 24 #[.int .i64 p.f, .slice pa0 p.args.length pc0]) rfl rfl rfl (fun za zC zh zk => box_24 rfl (zh.ev rfl) (zk _ _ (newBlk _ _ _))) ?_
  rintro _ w1 ⟨g2, rfl, hg3, hB4, hb5, hz6⟩
  have hl7 : w.heap.size ≤ g2 := by omega
  refine WL.step (post := NewBlk w1 24 #[.int .i64 t.f, .slice ta0 t.args.length tc0]) rfl rfl rfl (fun za zC zh zk => box_24 rfl (zh.ev rfl) (zk _ _ (newBlk _ _ _))) ?_
  rintro _ w8 ⟨g9, rfl, hg10, hB11, hb12, hz13⟩
  have hl14 : g2 < g9 := by have z1 := hB4.lt; omega
  have hl15 : w.heap.size ≤ g9 := by have z2 := (hb5).size; omega
  refine WL.val (.bool false) rfl rfl rfl (fun za zC zh zk => wp_assign rfl (zh.ev rfl) zk) ?_
  refine WL.nil (WE.sub (K' := [(0, .agg #[.int .i64 p.f, .slice pa0 p.args.length pc0]), (1, .agg #[.int .i64 t.f, .slice ta0 t.args.length tc0]), (2, .pointer (some ⟨g2, 0, none⟩)), (3, .pointer (some ⟨g9, 0, none⟩)), (4, .bool false)]) ⟨rfl, rfl, rfl, rfl, rfl, trivial⟩ ?_)
  refine WE.next ?_
  refine WC.seq ?_
  refine WC.region ?_
  have hB16 := hB4.below hb12
  refine WL.val (.agg #[.int .i64 p.f, .slice pa0 p.args.length pc0]) rfl rfl rfl (fun za zC zh zk => ld_24 rfl (zh.ev rfl) ((hB16.cell 0).trans rfl) ((hB16.cell 1).trans rfl) zk) ?_
  refine WL.val (.agg #[.int .i64 t.f, .slice ta0 t.args.length tc0]) rfl rfl rfl (fun za zC zh zk => ld_24 rfl (zh.ev rfl) ((hB11.cell 0).trans rfl) ((hB11.cell 1).trans rfl) zk) ?_
  have hb23 : Below w.heap.size w w8 := (bstep hb5 hb12)
  refine WL.call rfl rfl rfl (fun za zh zC => wp_call (by kernel_rfl) rfl (hv2 (zh.ev rfl) (zh.ev rfl))) (rmatch_any p t _ _ _ (IsT.below hb23 hp) (IsT.below hb23 ht) hzp hzt) ?_
  rintro v21 w24 ⟨hm22, hb20⟩
  obtain ⟨x17, n18, c19, rfl⟩ := hm22.form
  refine WL.val (.tuple #[.slice x17 n18 c19, .bool ((mOk p t []))]) rfl rfl rfl (fun za zC zh zk => wp_move rfl (zh.ev rfl) zk) ?_
  refine WL.val (.slice x17 n18 c19) rfl rfl rfl (fun za zC zh zk => ext2_0 rfl (zh.ev rfl) zk) ?_
  refine WL.val (.bool ((mOk p t []))) rfl rfl rfl (fun za zC zh zk => ext2_1 rfl (zh.ev rfl) zk) ?_
  refine WL.val (.slice x17 n18 c19) rfl rfl rfl (fun za zC zh zk => wp_assign rfl (zh.ev rfl) zk) ?_
  refine WL.val (.bool ((mOk p t []))) rfl rfl rfl (fun za zC zh zk => wp_assign rfl (zh.ev rfl) zk) ?_
  refine WL.nil (WE.sub (K' := [(0, .agg #[.int .i64 p.f, .slice pa0 p.args.length pc0]), (1, .agg #[.int .i64 t.f, .slice ta0 t.args.length tc0]), (2, .pointer (some ⟨g2, 0, none⟩)), (3, .pointer (some ⟨g9, 0, none⟩)), (4, .bool false), (6, .bool ((mOk p t [])))]) ⟨rfl, rfl, rfl, rfl, rfl, rfl, trivial⟩ ?_)
  refine WE.next ?_
  refine WC.seq ?_
  refine WC.region ?_
  have hB25 := hB11.below hb20
  refine WL.val (.agg #[.int .i64 t.f, .slice ta0 t.args.length tc0]) rfl rfl rfl (fun za zC zh zk => ld_24 rfl (zh.ev rfl) ((hB25.cell 0).trans rfl) ((hB25.cell 1).trans rfl) zk) ?_
  have hB26 := hB16.below hb20
  refine WL.val (.agg #[.int .i64 p.f, .slice pa0 p.args.length pc0]) rfl rfl rfl (fun za zC zh zk => ld_24 rfl (zh.ev rfl) ((hB26.cell 0).trans rfl) ((hB26.cell 1).trans rfl) zk) ?_
  have hb33 : Below w.heap.size w w24 := (bstep hb23 hb20)
  refine WL.call rfl rfl rfl (fun za zh zC => wp_call (by kernel_rfl) rfl (hv2 (zh.ev rfl) (zh.ev rfl))) (rmatch_any t p _ _ _ (IsT.below hb33 ht) (IsT.below hb33 hp) hzt hzp) ?_
  rintro v31 w34 ⟨hm32, hb30⟩
  obtain ⟨x27, n28, c29, rfl⟩ := hm32.form
  refine WL.val (.tuple #[.slice x27 n28 c29, .bool ((mOk t p []))]) rfl rfl rfl (fun za zC zh zk => wp_move rfl (zh.ev rfl) zk) ?_
  refine WL.val (.slice x27 n28 c29) rfl rfl rfl (fun za zC zh zk => ext2_0 rfl (zh.ev rfl) zk) ?_
  refine WL.val (.bool ((mOk t p []))) rfl rfl rfl (fun za zC zh zk => ext2_1 rfl (zh.ev rfl) zk) ?_
  refine WL.val (.slice x27 n28 c29) rfl rfl rfl (fun za zC zh zk => wp_assign rfl (zh.ev rfl) zk) ?_
  refine WL.val (.bool ((mOk t p []))) rfl rfl rfl (fun za zC zh zk => wp_assign rfl (zh.ev rfl) zk) ?_
  refine WL.nil (WE.sub (K' := [(0, .agg #[.int .i64 p.f, .slice pa0 p.args.length pc0]), (1, .agg #[.int .i64 t.f, .slice ta0 t.args.length tc0]), (2, .pointer (some ⟨g2, 0, none⟩)), (3, .pointer (some ⟨g9, 0, none⟩)), (4, .bool false), (6, .bool ((mOk p t []))), (8, .bool ((mOk t p [])))]) ⟨rfl, rfl, rfl, rfl, rfl, rfl, rfl, trivial⟩ ?_)
  refine WE.next ?_
  refine WC.seq ?_
  refine WC.region ?_
  refine WL.val (.bool ((mOk p t []))) rfl rfl rfl (fun za zC zh zk => wp_move rfl (zh.ev rfl) zk) ?_
  refine WL.val (.bool ((mOk p t []))) rfl rfl rfl (fun za zC zh zk => wp_move rfl (zh.ev rfl) zk) ?_
  refine bool_split ((mOk p t [])) (fun h35 => ?_) (fun h35 => ?_)
  · refine WL.sub (K' := [(0, .agg #[.int .i64 p.f, .slice pa0 p.args.length pc0]), (1, .agg #[.int .i64 t.f, .slice ta0 t.args.length tc0]), (2, .pointer (some ⟨g2, 0, none⟩)), (3, .pointer (some ⟨g9, 0, none⟩)), (4, .bool false), (6, .bool ((mOk p t []))), (8, .bool ((mOk t p []))), (21, .bool ((mOk p t []))), (22, .bool true)]) ⟨rfl, rfl, rfl, rfl, rfl, rfl, rfl, rfl, (by exact congrArg (fun z => some (Value.bool z)) h35), trivial⟩ ?_
    refine WL.want (d := 22) rfl rfl rfl ?_
    refine WL.val (.bool ((mOk t p []))) rfl rfl rfl (fun za zC zh zk => wp_move rfl (zh.ev rfl) zk) ?_
    refine WL.val (.bool ((mOk t p []))) rfl rfl rfl (fun za zC zh zk => wp_pickT rfl (zh.ev rfl) (zh.ev rfl) zk) ?_
    refine WL.val (.bool ((mOk t p []))) rfl rfl rfl (fun za zC zh zk => wp_assign rfl (zh.ev rfl) zk) ?_
    refine WL.nil (WE.sub (K' := [(0, .agg #[.int .i64 p.f, .slice pa0 p.args.length pc0]), (1, .agg #[.int .i64 t.f, .slice ta0 t.args.length tc0]), (2, .pointer (some ⟨g2, 0, none⟩)), (3, .pointer (some ⟨g9, 0, none⟩)), (4, .bool ((mOk t p []))), (6, .bool ((mOk p t []))), (8, .bool ((mOk t p [])))]) ⟨rfl, rfl, rfl, rfl, rfl, rfl, rfl, trivial⟩ ?_)
    refine WE.next ?_
    refine WC.ret ?_
    refine WE.ret1 rfl rfl ?_
    have hb36 : Below w.heap.size w w34 := (bstep hb33 hb30)
    exact ⟨_, rfl, congrArg Value.bool (by unfold varB; (try simp); (try simp_all)), hb36⟩
  · refine WL.sub (K' := [(0, .agg #[.int .i64 p.f, .slice pa0 p.args.length pc0]), (1, .agg #[.int .i64 t.f, .slice ta0 t.args.length tc0]), (2, .pointer (some ⟨g2, 0, none⟩)), (3, .pointer (some ⟨g9, 0, none⟩)), (4, .bool false), (6, .bool ((mOk p t []))), (8, .bool ((mOk t p []))), (21, .bool ((mOk p t []))), (22, .bool false)]) ⟨rfl, rfl, rfl, rfl, rfl, rfl, rfl, rfl, (by exact congrArg (fun z => some (Value.bool z)) h35), trivial⟩ ?_
    refine WL.skip (d := 22) rfl rfl rfl rfl rfl ?_
    refine WL.val (.bool false) rfl rfl rfl (fun za zC zh zk => wp_pickF rfl (zh.ev rfl) (zh.ev rfl) zk) ?_
    refine WL.val (.bool false) rfl rfl rfl (fun za zC zh zk => wp_assign rfl (zh.ev rfl) zk) ?_
    refine WL.nil (WE.sub (K' := [(0, .agg #[.int .i64 p.f, .slice pa0 p.args.length pc0]), (1, .agg #[.int .i64 t.f, .slice ta0 t.args.length tc0]), (2, .pointer (some ⟨g2, 0, none⟩)), (3, .pointer (some ⟨g9, 0, none⟩)), (4, .bool false), (6, .bool ((mOk p t []))), (8, .bool ((mOk t p [])))]) ⟨rfl, rfl, rfl, rfl, rfl, rfl, rfl, trivial⟩ ?_)
    refine WE.next ?_
    refine WC.ret ?_
    refine WE.ret1 rfl rfl ?_
    have hb37 : Below w.heap.size w w34 := (bstep hb33 hb30)
    exact ⟨_, rfl, congrArg Value.bool (by unfold varB; (try simp); (try simp_all)), hb37⟩

end Go.Proofs.Ytcmfjnadjddboaa
