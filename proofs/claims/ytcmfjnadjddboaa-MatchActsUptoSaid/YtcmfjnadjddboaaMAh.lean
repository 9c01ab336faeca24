/- The document matches literals. -/
import Derived.Test.YtcmfjnadjddboaaMAg

/- The document's matcher: terms, literals, marks. -/
namespace Go.Proofs.Ytcmfjnadjddboaa
open Go.RowKit Go
set_option linter.unusedVariables false
set_option linter.unusedSimpArgs false

set_option maxRecDepth 100000 in
theorem rmark_any {g : Nat} {st : List Bd} {D : Nat → Prop} (w : World) (h : RefAt w g st D) : Calls Try.prog 22 #[.pointer (some ⟨g, 0, none⟩)] w (Ret fun v' w' => v' = .int .i64 (st.length : Nat) ∧ Below w.heap.size w w') := by
  obtain ⟨a, c, hR⟩ := h
  refine Calls.walk (l := [.pointer (some ⟨g, 0, none⟩)]) Try.func22 rfl (by kernel_rfl) ?_
  refine WC.sub (K' := [(0, .pointer (some ⟨g, 0, none⟩))]) ⟨rfl, trivial⟩ ?_
  refine WC.seq ?_
  refine WC.region ?_
  refine WL.val (.int .i64 0) rfl rfl rfl (fun za zC zh zk => wp_assign rfl (zh.ev rfl) zk) ?_
  refine WL.nil (WE.sub (K' := [(0, .pointer (some ⟨g, 0, none⟩)), (2, .int .i64 0)]) ⟨rfl, rfl, trivial⟩ ?_)
  refine WE.next ?_
  refine WC.seq ?_
  refine WC.region ?_
  refine WL.val (.pointer (some ⟨g, 0, none⟩)) rfl rfl rfl (fun za zC zh zk => wp_move rfl (zh.ev rfl) zk) ?_
  refine WL.val (.pointer (some ⟨g, 0, none⟩)) rfl rfl rfl (fun za zC zh zk => nilCheck_ rfl (zh.ev rfl) zk) ?_
  refine WL.val (.pointer (some ⟨g, 0, none⟩)) rfl rfl rfl (fun za zC zh zk => fld_37_0 rfl (zh.ev rfl) zk) ?_
  refine WL.val (.slice a st.length c) rfl rfl rfl (fun za zC zh zk => ld_25 rfl (zh.ev rfl) ((hR.blk.cell 0).trans rfl) zk) ?_
  refine WL.val (.int .i64 (((st.length : Nat) : Int))) rfl rfl rfl (fun za zC zh zk => len_25 rfl (zh.ev rfl) zk) ?_
  refine WL.val (.int .i64 (((st.length : Nat) : Int))) rfl rfl rfl (fun za zC zh zk => wp_assign rfl (zh.ev rfl) zk) ?_
  refine WL.nil (WE.sub (K' := [(0, .pointer (some ⟨g, 0, none⟩)), (2, .int .i64 (((st.length : Nat) : Int)))]) ⟨rfl, rfl, trivial⟩ ?_)
  refine WE.next ?_
  refine WC.ret ?_
  refine WE.ret1 rfl rfl ?_
  exact ⟨_, rfl, rfl, (Below.refl _ _)⟩

set_option maxRecDepth 100000 in
theorem rback_any {g : Nat} {st : List Bd} {D : Nat → Prop} (m : Int) (w : World) (h : RefAt w g st D) : Calls Try.prog 20 #[.pointer (some ⟨g, 0, none⟩), .int .i64 m] w (Ret fun v' w' => RefAt w' g (backTo st m) D ∧ Chg D w w') := by
  have h0 := h
  obtain ⟨a, c, hR⟩ := h
  have hgl := hR.blk.lt
  obtain ⟨hcap1, hcap2⟩ := hR.cap
  unfold maxLen at hcap2
  refine Calls.walk (l := [.pointer (some ⟨g, 0, none⟩), .int .i64 m]) Try.func20 rfl (by kernel_rfl) ?_
  refine WC.sub (K' := [(0, .pointer (some ⟨g, 0, none⟩)), (1, .int .i64 m)]) ⟨rfl, rfl, trivial⟩ ?_
  refine WC.seq ?_
  refine WC.opt [(true, .val (.int .i64 m)), (true, .val (.bool ((decide ((0 : Int) ≤ (m : Int)))))), (true, .val (.bool ((decide ((0 : Int) ≤ (m : Int)))))), ((true && (decide ((0 : Int) ≤ (m : Int)))), .val (.int .i64 m)), ((true && (decide ((0 : Int) ≤ (m : Int)))), .val (.pointer (some ⟨g, 0, none⟩))), ((true && (decide ((0 : Int) ≤ (m : Int)))), .val (.pointer (some ⟨g, 0, none⟩))), ((true && (decide ((0 : Int) ≤ (m : Int)))), .val (.pointer (some ⟨g, 0, none⟩))), ((true && (decide ((0 : Int) ≤ (m : Int)))), .val (.slice a st.length c)), ((true && (decide ((0 : Int) ≤ (m : Int)))), .val (.int .i64 (((st.length : Nat) : Int)))), ((true && (decide ((0 : Int) ≤ (m : Int)))), .val (.bool ((decide ((m : Int) ≤ (((st.length : Nat) : Int) : Int)))))), (true, .val (.bool (((decide ((0 : Int) ≤ (m : Int))) && (decide ((m : Int) ≤ (((st.length : Nat) : Int) : Int)))))))] [(0, .pointer (some ⟨g, 0, none⟩)), (1, .int .i64 m)] ⟨rfl, rfl, trivial⟩ (by kernel_rfl) (by kernel_rfl) (by kernel_rfl) ?_ ?_
  · refine ⟨⟨true, .none rfl, fun h w => optUndef h, fun zβ za zw zc => ?_⟩, ?_⟩
    · exact wp_move rfl (zc.kn.ev rfl) ⟨_, rfl, Below.refl _ _, optDef zβ rfl⟩
    refine ⟨⟨true, .none rfl, fun h w => optUndef h, fun zβ za zw zc => ?_⟩, ?_⟩
    · exact geq_3 rfl ((show za.eval (.tmp 4) = za.tmps.getD 4 undef from rfl).trans (optVal (zc.dep 0 4 (by kernel_rfl)) rfl rfl)) (zc.kn.ev rfl) ⟨_, rfl, Below.refl _ _, optDef zβ rfl⟩
    refine ⟨⟨true, .none rfl, fun h w => optUndef h, fun zβ za zw zc => ?_⟩, ?_⟩
    · exact wp_move rfl ((show za.eval (.tmp 5) = za.tmps.getD 5 undef from rfl).trans (optVal (zc.dep 1 5 (by kernel_rfl)) rfl rfl)) ⟨_, rfl, Below.refl _ _, optDef zβ rfl⟩
    refine ⟨⟨(true && (decide ((0 : Int) ≤ (m : Int)))), .yes (c := (decide ((0 : Int) ≤ (m : Int)))) (d := true) rfl (fun v w h => h), fun h w => optUndef h, fun zβ za zw zc => ?_⟩, ?_⟩
    · exact wp_move rfl (zc.kn.ev rfl) ⟨_, rfl, Below.refl _ _, optDef zβ rfl⟩
    refine ⟨⟨(true && (decide ((0 : Int) ≤ (m : Int)))), .yes (c := (decide ((0 : Int) ≤ (m : Int)))) (d := true) rfl (fun v w h => h), fun h w => optUndef h, fun zβ za zw zc => ?_⟩, ?_⟩
    · exact wp_move rfl (zc.kn.ev rfl) ⟨_, rfl, Below.refl _ _, optDef zβ rfl⟩
    refine ⟨⟨(true && (decide ((0 : Int) ≤ (m : Int)))), .yes (c := (decide ((0 : Int) ≤ (m : Int)))) (d := true) rfl (fun v w h => h), fun h w => optUndef h, fun zβ za zw zc => ?_⟩, ?_⟩
    · exact nilCheck_ rfl ((show za.eval (.tmp 8) = za.tmps.getD 8 undef from rfl).trans (optVal (zc.dep 4 8 (by kernel_rfl)) rfl zβ)) ⟨_, rfl, Below.refl _ _, optDef zβ rfl⟩
    refine ⟨⟨(true && (decide ((0 : Int) ≤ (m : Int)))), .yes (c := (decide ((0 : Int) ≤ (m : Int)))) (d := true) rfl (fun v w h => h), fun h w => optUndef h, fun zβ za zw zc => ?_⟩, ?_⟩
    · exact fld_37_0 rfl ((show za.eval (.tmp 9) = za.tmps.getD 9 undef from rfl).trans (optVal (zc.dep 5 9 (by kernel_rfl)) rfl zβ)) ⟨_, rfl, Below.refl _ _, optDef zβ rfl⟩
    refine ⟨⟨(true && (decide ((0 : Int) ≤ (m : Int)))), .yes (c := (decide ((0 : Int) ≤ (m : Int)))) (d := true) rfl (fun v w h => h), fun h w => optUndef h, fun zβ za zw zc => ?_⟩, ?_⟩
    · exact ld_25 rfl ((show za.eval (.tmp 10) = za.tmps.getD 10 undef from rfl).trans (optVal (zc.dep 6 10 (by kernel_rfl)) rfl zβ)) (bkeeps zc.below _ _ ((hR.blk.cell 0).trans rfl)) ⟨_, rfl, Below.refl _ _, optDef zβ rfl⟩
    refine ⟨⟨(true && (decide ((0 : Int) ≤ (m : Int)))), .yes (c := (decide ((0 : Int) ≤ (m : Int)))) (d := true) rfl (fun v w h => h), fun h w => optUndef h, fun zβ za zw zc => ?_⟩, ?_⟩
    · exact len_25 rfl ((show za.eval (.tmp 11) = za.tmps.getD 11 undef from rfl).trans (optVal (zc.dep 7 11 (by kernel_rfl)) rfl zβ)) ⟨_, rfl, Below.refl _ _, optDef zβ rfl⟩
    refine ⟨⟨(true && (decide ((0 : Int) ≤ (m : Int)))), .yes (c := (decide ((0 : Int) ≤ (m : Int)))) (d := true) rfl (fun v w h => h), fun h w => optUndef h, fun zβ za zw zc => ?_⟩, ?_⟩
    · exact leq_3 rfl ((show za.eval (.tmp 7) = za.tmps.getD 7 undef from rfl).trans (optVal (zc.dep 3 7 (by kernel_rfl)) rfl zβ)) ((show za.eval (.tmp 12) = za.tmps.getD 12 undef from rfl).trans (optVal (zc.dep 8 12 (by kernel_rfl)) rfl zβ)) ⟨_, rfl, Below.refl _ _, optDef zβ rfl⟩
    refine ⟨⟨true, .none rfl, fun h w => optUndef h, fun zβ za zw zc => ?_⟩, ?_⟩
    · exact wp_and rfl ((show za.eval (.tmp 6) = za.tmps.getD 6 undef from rfl).trans (optVal (zc.dep 2 6 (by kernel_rfl)) rfl rfl)) (fun hp => ((show za.eval (.tmp 13) = za.tmps.getD 13 undef from rfl).trans (optVal (zc.dep 9 13 (by kernel_rfl)) rfl (bMk zβ hp)))) ⟨_, rfl, Below.refl _ _, optDef zβ rfl⟩
    exact trivial
  · intro za w1 zh hb2 zu
    have zh := zh.cons (d := 14) (v := .bool (((decide ((0 : Int) ≤ (m : Int))) && (decide ((m : Int) ≤ (((st.length : Nat) : Int) : Int)))))) (optVal (zu 10 14 (by kernel_rfl)) rfl rfl)
    clear zu
    refine (show WE _ [(0, .pointer (some ⟨g, 0, none⟩)), (1, .int .i64 m), (14, .bool (((decide ((0 : Int) ≤ (m : Int))) && (decide ((m : Int) ≤ (((st.length : Nat) : Int) : Int))))))] w1 _ .normal from ?_) za (zh.sub ⟨rfl, rfl, rfl, trivial⟩)
    refine WE.next ?_
    refine WC.cond rfl (fun h3 => ?_) (fun h3 => ?_)
    · have h3 : ((0 : Int) ≤ (m : Int)) ∧ ((m : Int) ≤ (((st.length : Nat) : Int) : Int)) := by simpa using h3
      obtain ⟨mk, rfl⟩ : ∃ k : Nat, m = k := ⟨m.toNat, by omega⟩
      have hmk : mk ≤ st.length := by omega
      refine WC.region ?_
      refine WL.val (.pointer (some ⟨g, 0, none⟩)) rfl rfl rfl (fun za zC zh zk => wp_move rfl (zh.ev rfl) zk) ?_
      refine WL.val (.pointer (some ⟨g, 0, none⟩)) rfl rfl rfl (fun za zC zh zk => wp_move rfl (zh.ev rfl) zk) ?_
      refine WL.val (.pointer (some ⟨g, 0, none⟩)) rfl rfl rfl (fun za zC zh zk => nilCheck_ rfl (zh.ev rfl) zk) ?_
      refine WL.val (.pointer (some ⟨g, 0, none⟩)) rfl rfl rfl (fun za zC zh zk => fld_37_0 rfl (zh.ev rfl) zk) ?_
      have hB4 := hR.blk.below hb2
      refine WL.val (.slice a st.length c) rfl rfl rfl (fun za zC zh zk => ld_25 rfl (zh.ev rfl) ((hB4.cell 0).trans rfl) zk) ?_
      refine WL.val (.int .i64 (((mk : Nat) : Int))) rfl rfl rfl (fun za zC zh zk => wp_move rfl (zh.ev rfl) zk) ?_
      refine WL.val (.slice a mk c) rfl rfl rfl (fun za zC zh zk => shi_25 (k := mk) rfl (zh.ev rfl) (zh.ev rfl) (by omega) zk) ?_
      refine WL.val (.pointer (some ⟨g, 0, none⟩)) rfl rfl rfl (fun za zC zh zk => nilCheck_ rfl (zh.ev rfl) zk) ?_
      refine WL.val (.pointer (some ⟨g, 0, none⟩)) rfl rfl rfl (fun za zC zh zk => fld_37_0 rfl (zh.ev rfl) zk) ?_
      refine WL.step (post := fun _ w' => Upd g w1 w' ∧ Blk w' g 37 #[.slice a mk c]) rfl rfl rfl (fun za zC zh zk => st_25 rfl (zh.ev rfl) (zh.ev rfl) hB4 (by first | decide | simp) (fun v => zk v _ ⟨Upd.at_ _ _ _ _, hB4.set_ 0 _⟩)) ?_
      rintro v8 w5 ⟨hu6, hB7⟩
      refine WL.nil (WE.sub (K' := [(0, .pointer (some ⟨g, 0, none⟩)), (1, .int .i64 (((mk : Nat) : Int))), (14, .bool (((decide ((0 : Int) ≤ ((mk : Int) : Int))) && (decide (((mk : Int) : Int) ≤ (((st.length : Nat) : Int) : Int))))))]) ⟨rfl, rfl, rfl, trivial⟩ ?_)
      refine WE.end0 rfl ?_
      have hRb := hR.chg (S := fun _ => False) (.ofBelow hb2) (fun _ _ => id)
      have hs9 : Chg ((fun b => b = g)) w1 w5 := (Chg.trans2 (Chg.refl ((fun b => b = g)) _) (Chg.ofUpd (S := fun k => k = g) hu6 rfl) (fun i h1 h2 => by first | exact h2 | exact .inl h2 | exact .inr h2 | exact .inr (.inl h2) | exact .inr (.inr h2) | ((try dsimp only at *); omega)))
      have hs10 : Chg ((fun b => b = g)) w w5 := (Chg.trans2 (Chg.trans2 (Chg.refl ((fun b => b = g)) _) (Chg.ofBelow (S := fun k => k < 0) hb2) (fun i h1 h2 => by first | exact h2 | exact .inl h2 | exact .inr h2 | exact .inr (.inl h2) | exact .inr (.inr h2) | ((try dsimp only at *); omega))) (Chg.ofUpd (S := fun k => k = g) hu6 rfl) (fun i h1 h2 => by first | exact h2 | exact .inl h2 | exact .inr h2 | exact .inr (.inl h2) | exact .inr (.inr h2) | ((try dsimp only at *); omega)))
      exact ⟨_, rfl, by rw [backTo_nat hmk]; exact ⟨_, _, hRb.cut mk hmk hB7 hs9⟩, hs10.mono (fun b q => q ▸ hR.dg)⟩
    · have h3 : ¬ (((0 : Int) ≤ (m : Int)) ∧ ((m : Int) ≤ (((st.length : Nat) : Int) : Int))) := by simpa using h3
      refine WC.skip ?_
      refine WE.end0 rfl ?_
      exact ⟨_, rfl, by unfold backTo; rw [if_neg (by omega)]; exact h0.below hb2, .ofBelow hb2⟩

set_option maxRecDepth 100000 in
theorem rTerm_any (p t : T) {g : Nat} {st : List Bd} {D A : Nat → Prop} {w : World} {u v : Value} (h : RefAt w g st D) (hp : InT A w p u) (ht : InT A w t v) (hA : ∀ b, A b → ¬ D b) (hzp : p.size ≤ 4294967296) (hzt : t.size ≤ 4294967296) (hn : st.length + p.size ≤ 1099511627776) :
    Calls Try.prog 16 #[.pointer (some ⟨g, 0, none⟩), u, v] w (Ret fun v' w' => (∃ D', v' = .bool (mOk p t st) ∧ RefAt w' g (mTo p t st) D' ∧ ∀ b, D' b → D b ∨ w.heap.size ≤ b) ∧ Chg D w w') := by
  have h0 := h
  obtain ⟨a, c, hR⟩ := h
  have hDlt := hR.dlt
  have hgl := hR.blk.lt
  obtain ⟨hcap1, hcap2⟩ := hR.cap
  unfold maxLen at hcap2
  obtain ⟨hfp, pa0, pc0, rfl, _, _, _⟩ := hp.form
  obtain ⟨hft, ta0, tc0, rfl, _, _, _⟩ := ht.form
  refine Calls.walk (l := [.pointer (some ⟨g, 0, none⟩), .agg #[.int .i64 p.f, .slice pa0 p.args.length pc0], .agg #[.int .i64 t.f, .slice ta0 t.args.length tc0]]) Try.func16 rfl (by kernel_rfl) ?_
  refine WC.sub (K' := [(0, .pointer (some ⟨g, 0, none⟩)), (1, .agg #[.int .i64 p.f, .slice pa0 p.args.length pc0]), (2, .agg #[.int .i64 t.f, .slice ta0 t.args.length tc0])]) ⟨rfl, rfl, rfl, trivial⟩ ?_
  refine WC.seq ?_
  refine WC.region ?_
  refine WL.step (post := NewBlk w 24 #[.int .i64 p.f, .slice pa0 p.args.length pc0]) rfl rfl rfl (fun za zC zh zk => box_24 rfl (zh.ev rfl) (zk _ _ (newBlk _ _ _))) ?_
  rintro _ w1 ⟨g2, rfl, hg3, hB4, hb5, hz6⟩
  have hl7 : g < g2 := by have z1 := hR.blk.lt; omega
  have hl8 : w.heap.size ≤ g2 := by omega
  refine WL.step (post := NewBlk w1 24 #[.int .i64 t.f, .slice ta0 t.args.length tc0]) rfl rfl rfl (fun za zC zh zk => box_24 rfl (zh.ev rfl) (zk _ _ (newBlk _ _ _))) ?_
  rintro _ w9 ⟨g10, rfl, hg11, hB12, hb13, hz14⟩
  have hl15 : g < g10 := by have z1 := hR.blk.lt; have z2 := (hb5).size; omega
  have hl16 : g2 < g10 := by have z1 := hB4.lt; omega
  have hl17 : w.heap.size ≤ g10 := by have z2 := (hb5).size; omega
  refine WL.val (.bool false) rfl rfl rfl (fun za zC zh zk => wp_assign rfl (zh.ev rfl) zk) ?_
  refine WL.nil (WE.sub (K' := [(0, .pointer (some ⟨g, 0, none⟩)), (1, .agg #[.int .i64 p.f, .slice pa0 p.args.length pc0]), (2, .agg #[.int .i64 t.f, .slice ta0 t.args.length tc0]), (4, .pointer (some ⟨g2, 0, none⟩)), (5, .pointer (some ⟨g10, 0, none⟩)), (6, .bool false)]) ⟨rfl, rfl, rfl, rfl, rfl, rfl, trivial⟩ ?_)
  refine WE.next ?_
  refine WC.seq ?_
  refine WC.region ?_
  refine WL.val (.pointer (some ⟨g, 0, none⟩)) rfl rfl rfl (fun za zC zh zk => wp_move rfl (zh.ev rfl) zk) ?_
  refine WL.val (.pointer (some ⟨g, 0, none⟩)) rfl rfl rfl (fun za zC zh zk => nilCheck_ rfl (zh.ev rfl) zk) ?_
  refine WL.val (.pointer (some ⟨g, 0, none⟩)) rfl rfl rfl (fun za zC zh zk => fld_37_0 rfl (zh.ev rfl) zk) ?_
  have hb19 : Below w.heap.size w w9 := (bstep hb5 hb13)
  have hB18 := hR.blk.below hb19
  refine WL.val (.slice a st.length c) rfl rfl rfl (fun za zC zh zk => ld_25 rfl (zh.ev rfl) ((hB18.cell 0).trans rfl) zk) ?_
  refine WL.val (.int .i64 (((st.length : Nat) : Int))) rfl rfl rfl (fun za zC zh zk => len_25 rfl (zh.ev rfl) zk) ?_
  refine WL.val (.int .i64 (((st.length : Nat) : Int))) rfl rfl rfl (fun za zC zh zk => wp_assign rfl (zh.ev rfl) zk) ?_
  refine WL.nil (WE.sub (K' := [(0, .pointer (some ⟨g, 0, none⟩)), (1, .agg #[.int .i64 p.f, .slice pa0 p.args.length pc0]), (2, .agg #[.int .i64 t.f, .slice ta0 t.args.length tc0]), (4, .pointer (some ⟨g2, 0, none⟩)), (5, .pointer (some ⟨g10, 0, none⟩)), (6, .bool false), (7, .int .i64 (((st.length : Nat) : Int)))]) ⟨rfl, rfl, rfl, rfl, rfl, rfl, rfl, trivial⟩ ?_)
  refine WE.next ?_
  refine WC.seq ?_
  refine WC.seq ?_
  refine WC.region ?_
  have hB20 := hB4.below hb13
  refine WL.val (.agg #[.int .i64 p.f, .slice pa0 p.args.length pc0]) rfl rfl rfl (fun za zC zh zk => ld_24 rfl (zh.ev rfl) ((hB20.cell 0).trans rfl) ((hB20.cell 1).trans rfl) zk) ?_
  refine WL.call rfl rfl rfl (fun za zh zC => wp_call (by kernel_rfl) rfl (hv1 (zh.ev rfl))) (rplain_any p _ _ hzp (IsT.below hb19 (InT.isT hp))) ?_
  rintro _ w22 ⟨rfl, hq21⟩
  refine WL.val (.bool ((p.plain))) rfl rfl rfl (fun za zC zh zk => wp_move rfl (zh.ev rfl) zk) ?_
  refine bool_split ((p.plain)) (fun h23 => ?_) (fun h23 => ?_)
  · refine WL.sub (K' := [(0, .pointer (some ⟨g, 0, none⟩)), (1, .agg #[.int .i64 p.f, .slice pa0 p.args.length pc0]), (2, .agg #[.int .i64 t.f, .slice ta0 t.args.length tc0]), (4, .pointer (some ⟨g2, 0, none⟩)), (5, .pointer (some ⟨g10, 0, none⟩)), (6, .bool false), (7, .int .i64 (((st.length : Nat) : Int))), (13, .agg #[.int .i64 p.f, .slice pa0 p.args.length pc0]), (14, .bool ((p.plain))), (15, .bool true)]) ⟨rfl, rfl, rfl, rfl, rfl, rfl, rfl, rfl, rfl, (by exact congrArg (fun z => some (Value.bool z)) h23), trivial⟩ ?_
    refine WL.want (d := 15) rfl rfl rfl ?_
    have hB24 := hB12.below hq21
    refine WL.val (.agg #[.int .i64 t.f, .slice ta0 t.args.length tc0]) rfl rfl rfl (fun za zC zh zk => ld_24 rfl (zh.ev rfl) ((hB24.cell 0).trans rfl) ((hB24.cell 1).trans rfl) zk) ?_
    refine WL.want (d := 15) rfl rfl rfl ?_
    have hb25 : Below w.heap.size w w22 := (bstep hb19 hq21)
    refine WL.call rfl rfl rfl (fun za zh zC => wp_call (by kernel_rfl) rfl (hv1 (zh.ev rfl))) (rplain_any t _ _ hzt (IsT.below hb25 (InT.isT ht))) ?_
    rintro _ w27 ⟨rfl, hq26⟩
    refine WL.val (.bool ((t.plain))) rfl rfl rfl (fun za zC zh zk => wp_pickT rfl (zh.ev rfl) (zh.ev rfl) zk) ?_
    refine WL.val (.bool ((t.plain))) rfl rfl rfl (fun za zC zh zk => wp_move rfl (zh.ev rfl) zk) ?_
    refine bool_split ((t.plain)) (fun h28 => ?_) (fun h28 => ?_)
    · refine WL.sub (K' := [(0, .pointer (some ⟨g, 0, none⟩)), (1, .agg #[.int .i64 p.f, .slice pa0 p.args.length pc0]), (2, .agg #[.int .i64 t.f, .slice ta0 t.args.length tc0]), (4, .pointer (some ⟨g2, 0, none⟩)), (5, .pointer (some ⟨g10, 0, none⟩)), (6, .bool false), (7, .int .i64 (((st.length : Nat) : Int))), (13, .agg #[.int .i64 p.f, .slice pa0 p.args.length pc0]), (14, .bool ((p.plain))), (15, .bool true), (16, .agg #[.int .i64 t.f, .slice ta0 t.args.length tc0]), (17, .bool ((t.plain))), (18, .bool ((t.plain))), (19, .bool true)]) ⟨rfl, rfl, rfl, rfl, rfl, rfl, rfl, rfl, rfl, rfl, rfl, rfl, rfl, (by exact congrArg (fun z => some (Value.bool z)) h28), trivial⟩ ?_
      refine WL.want (d := 19) rfl rfl rfl ?_
      refine WL.val (.pointer (some ⟨g, 0, none⟩)) rfl rfl rfl (fun za zC zh zk => wp_move rfl (zh.ev rfl) zk) ?_
      refine WL.want (d := 19) rfl rfl rfl ?_
      have hb30 : Below w9.heap.size w9 w27 := (bstep hq21 hq26)
      have hB29 := hB20.below hb30
      refine WL.val (.agg #[.int .i64 p.f, .slice pa0 p.args.length pc0]) rfl rfl rfl (fun za zC zh zk => ld_24 rfl (zh.ev rfl) ((hB29.cell 0).trans rfl) ((hB29.cell 1).trans rfl) zk) ?_
      refine WL.want (d := 19) rfl rfl rfl ?_
      have hB31 := hB24.below hq26
      refine WL.val (.agg #[.int .i64 t.f, .slice ta0 t.args.length tc0]) rfl rfl rfl (fun za zC zh zk => ld_24 rfl (zh.ev rfl) ((hB31.cell 0).trans rfl) ((hB31.cell 1).trans rfl) zk) ?_
      refine WL.want (d := 19) rfl rfl rfl ?_
      have hb32 : Below w.heap.size w w27 := (bstep hb19 hb30)
      have hl33 : g2 < w27.heap.size := hB29.lt
      have hl34 : w.heap.size ≤ g2 := by have z : w.heap.size ≤ w.heap.size := (Nat.le_refl _); omega
      have hl35 : g10 < w27.heap.size := hB31.lt
      have hl36 : w.heap.size ≤ g10 := by have z : w.heap.size ≤ w1.heap.size := hb5.size; omega
      have hgo : RefGo w27 D g st w27 := RefGo.start (h0.below hb32)
      have hA1 : ∀ b, (A b ∧ b < w.heap.size) → ¬ Since w27 D b := fun b q q2 => q2.elim (hA b q.1) (fun q2 => by have z := (hb32).size; omega)
      refine WL.call rfl rfl rfl (fun za zh zC => wp_call (by kernel_rfl) rfl (hv3 (zh.ev rfl) (zh.ev rfl) (zh.ev rfl))) (rterm_go (rterm_any p) hgo ((InT.mono (S' := fun b => A b ∧ b < w.heap.size) (fun b q z => ⟨q, z⟩) hp).below hb32) ((InT.mono (S' := fun b => A b ∧ b < w.heap.size) (fun b q z => ⟨q, z⟩) ht).below hb32) hA1 hzp hzt hn) ?_
      rintro _ w37 ⟨⟨st2, rfl, hgo2, hrk⟩, hcT⟩
      have hB38 := chg_blk hB29 hcT (fun h => h.elim (fun h => by have z := hDlt _ h; (try dsimp only at *); omega) (fun h => by (try dsimp only at *); omega))
      have hB39 := chg_blk hB31 hcT (fun h => h.elim (fun h => by have z := hDlt _ h; (try dsimp only at *); omega) (fun h => by (try dsimp only at *); omega))
      obtain ⟨D2, a2, c2, hR2, hD2⟩ := hgo2.in_
      obtain ⟨hcap3, hcap4⟩ := hR2.cap
      have hrlo := hrk.lo
      refine WL.val (.bool ((mtB p t st))) rfl rfl rfl (fun za zC zh zk => wp_pickT rfl (zh.ev rfl) (zh.ev rfl) zk) ?_
      refine WL.nil (WE.sub (K' := [(0, .pointer (some ⟨g, 0, none⟩)), (1, .agg #[.int .i64 p.f, .slice pa0 p.args.length pc0]), (2, .agg #[.int .i64 t.f, .slice ta0 t.args.length tc0]), (4, .pointer (some ⟨g2, 0, none⟩)), (5, .pointer (some ⟨g10, 0, none⟩)), (6, .bool false), (7, .int .i64 (((st.length : Nat) : Int))), (24, .bool ((mtB p t st)))]) ⟨rfl, rfl, rfl, rfl, rfl, rfl, rfl, rfl, trivial⟩ ?_)
      refine WE.next ?_
      refine WC.cond rfl (fun h40 => ?_) (fun h40 => ?_)
      · skip
        refine WC.seq ?_
        refine WC.region ?_
        refine WL.val (.bool true) rfl rfl rfl (fun za zC zh zk => wp_assign rfl (zh.ev rfl) zk) ?_
        refine WL.nil (WE.sub (K' := [(0, .pointer (some ⟨g, 0, none⟩)), (1, .agg #[.int .i64 p.f, .slice pa0 p.args.length pc0]), (2, .agg #[.int .i64 t.f, .slice ta0 t.args.length tc0]), (4, .pointer (some ⟨g2, 0, none⟩)), (5, .pointer (some ⟨g10, 0, none⟩)), (6, .bool true), (7, .int .i64 (((st.length : Nat) : Int))), (24, .bool ((mtB p t st)))]) ⟨rfl, rfl, rfl, rfl, rfl, rfl, rfl, rfl, trivial⟩ ?_)
        refine WE.next ?_
        refine WC.ret ?_
        refine WE.thenRet ?_
        refine WE.ret1 rfl rfl ?_
        have hfin := fin_ok (p := p) (t := t) (st := st) (s := st2) h23 h28 (mtB_some hrk h40)
        obtain ⟨D9, z1, z2⟩ := RefGo.done (hgo2.below (Below.refl _ _)) (hb32).size
        exact ⟨_, rfl, ⟨D9, congrArg Value.bool hfin.1.symm, by rw [hfin.2]; exact z1, z2⟩, (chg_since hb32 hcT).trans (.ofBelow (Below.refl _ _))⟩
      · skip
        refine WC.skip ?_
        refine WE.next ?_
        refine WC.seq ?_
        refine WC.region ?_
        refine WL.val (.pointer (some ⟨g, 0, none⟩)) rfl rfl rfl (fun za zC zh zk => wp_move rfl (zh.ev rfl) zk) ?_
        refine WL.val (.pointer (some ⟨g, 0, none⟩)) rfl rfl rfl (fun za zC zh zk => wp_move rfl (zh.ev rfl) zk) ?_
        refine WL.val (.pointer (some ⟨g, 0, none⟩)) rfl rfl rfl (fun za zC zh zk => nilCheck_ rfl (zh.ev rfl) zk) ?_
        refine WL.val (.pointer (some ⟨g, 0, none⟩)) rfl rfl rfl (fun za zC zh zk => fld_37_0 rfl (zh.ev rfl) zk) ?_
        refine WL.val (.slice a2 st2.length c2) rfl rfl rfl (fun za zC zh zk => ld_25 rfl (zh.ev rfl) ((hR2.blk.cell 0).trans rfl) zk) ?_
        refine WL.val (.int .i64 (((st.length : Nat) : Int))) rfl rfl rfl (fun za zC zh zk => wp_move rfl (zh.ev rfl) zk) ?_
        refine WL.val (.slice a2 st.length c2) rfl rfl rfl (fun za zC zh zk => shi_25 (k := st.length) rfl (zh.ev rfl) (zh.ev rfl) (by omega) zk) ?_
        refine WL.val (.pointer (some ⟨g, 0, none⟩)) rfl rfl rfl (fun za zC zh zk => nilCheck_ rfl (zh.ev rfl) zk) ?_
        refine WL.val (.pointer (some ⟨g, 0, none⟩)) rfl rfl rfl (fun za zC zh zk => fld_37_0 rfl (zh.ev rfl) zk) ?_
        refine WL.step (post := fun _ w' => Upd g w37 w' ∧ Blk w' g 37 #[.slice a2 st.length c2]) rfl rfl rfl (fun za zC zh zk => st_25 rfl (zh.ev rfl) (zh.ev rfl) hR2.blk (by first | decide | simp) (fun v => zk v _ ⟨Upd.at_ _ _ _ _, hR2.blk.set_ 0 _⟩)) ?_
        rintro v44 w41 ⟨hu42, hB43⟩
        have hB45 := upd_blk hB38 hu42 (by omega)
        have hB46 := upd_blk hB39 hu42 (by omega)
        refine WL.nil (WE.sub (K' := [(0, .pointer (some ⟨g, 0, none⟩)), (1, .agg #[.int .i64 p.f, .slice pa0 p.args.length pc0]), (2, .agg #[.int .i64 t.f, .slice ta0 t.args.length tc0]), (4, .pointer (some ⟨g2, 0, none⟩)), (5, .pointer (some ⟨g10, 0, none⟩)), (6, .bool false), (7, .int .i64 (((st.length : Nat) : Int))), (24, .bool ((mtB p t st)))]) ⟨rfl, rfl, rfl, rfl, rfl, rfl, rfl, rfl, trivial⟩ ?_)
        refine WE.next ?_
        refine WC.seq ?_
        refine WC.region ?_
        refine WL.val (.bool false) rfl rfl rfl (fun za zC zh zk => wp_assign rfl (zh.ev rfl) zk) ?_
        refine WL.nil (WE.sub (K' := [(0, .pointer (some ⟨g, 0, none⟩)), (1, .agg #[.int .i64 p.f, .slice pa0 p.args.length pc0]), (2, .agg #[.int .i64 t.f, .slice ta0 t.args.length tc0]), (4, .pointer (some ⟨g2, 0, none⟩)), (5, .pointer (some ⟨g10, 0, none⟩)), (6, .bool false), (7, .int .i64 (((st.length : Nat) : Int))), (24, .bool ((mtB p t st)))]) ⟨rfl, rfl, rfl, rfl, rfl, rfl, rfl, rfl, trivial⟩ ?_)
        refine WE.next ?_
        refine WC.ret ?_
        refine WE.ret1 rfl rfl ?_
        have hfin := fin_no (p := p) (t := t) (st := st) h23 h28 (mtB_none (Bool.eq_false_iff.1 h40))
        have hs47 : Chg ((fun b => b = g)) w37 w41 := (Chg.trans2 (Chg.refl ((fun b => b = g)) _) (Chg.ofUpd (S := fun k => k = g) hu42 rfl) (fun i h1 h2 => by first | exact h2 | exact .inl h2 | exact .inr h2 | exact .inr (.inl h2) | exact .inr (.inr h2) | ((try dsimp only at *); omega)))
        have hcS := hs47
        have hRb := hR2.cut st.length hrlo hB43 hcS
        rw [hrk.pre] at hRb
        exact ⟨_, rfl, ⟨D2, congrArg Value.bool hfin.1.symm, by rw [hfin.2]; exact ⟨_, _, hRb⟩, fun b q => (hD2 b q).imp id (fun q => by have z := (hb32).size; omega)⟩, (chg_since hb32 hcT).trans2 hcS (fun b _ e => e ▸ hR.dg)⟩
    · refine WL.sub (K' := [(0, .pointer (some ⟨g, 0, none⟩)), (1, .agg #[.int .i64 p.f, .slice pa0 p.args.length pc0]), (2, .agg #[.int .i64 t.f, .slice ta0 t.args.length tc0]), (4, .pointer (some ⟨g2, 0, none⟩)), (5, .pointer (some ⟨g10, 0, none⟩)), (6, .bool false), (7, .int .i64 (((st.length : Nat) : Int))), (13, .agg #[.int .i64 p.f, .slice pa0 p.args.length pc0]), (14, .bool ((p.plain))), (15, .bool true), (16, .agg #[.int .i64 t.f, .slice ta0 t.args.length tc0]), (17, .bool ((t.plain))), (18, .bool ((t.plain))), (19, .bool false)]) ⟨rfl, rfl, rfl, rfl, rfl, rfl, rfl, rfl, rfl, rfl, rfl, rfl, rfl, (by exact congrArg (fun z => some (Value.bool z)) h28), trivial⟩ ?_
      refine WL.skip (d := 19) rfl rfl rfl rfl rfl ?_
      refine WL.skip (d := 19) rfl rfl rfl rfl rfl ?_
      refine WL.skip (d := 19) rfl rfl rfl rfl rfl ?_
      refine WL.skip (d := 19) rfl rfl rfl rfl rfl ?_
      refine WL.val (.bool false) rfl rfl rfl (fun za zC zh zk => wp_pickF rfl (zh.ev rfl) (zh.ev rfl) zk) ?_
      refine WL.nil (WE.sub (K' := [(0, .pointer (some ⟨g, 0, none⟩)), (1, .agg #[.int .i64 p.f, .slice pa0 p.args.length pc0]), (2, .agg #[.int .i64 t.f, .slice ta0 t.args.length tc0]), (4, .pointer (some ⟨g2, 0, none⟩)), (5, .pointer (some ⟨g10, 0, none⟩)), (6, .bool false), (7, .int .i64 (((st.length : Nat) : Int))), (24, .bool false)]) ⟨rfl, rfl, rfl, rfl, rfl, rfl, rfl, rfl, trivial⟩ ?_)
      refine WE.next ?_
      refine WC.condF rfl rfl ?_
      refine WC.skip ?_
      refine WE.next ?_
      refine WC.seq ?_
      refine WC.region ?_
      refine WL.val (.pointer (some ⟨g, 0, none⟩)) rfl rfl rfl (fun za zC zh zk => wp_move rfl (zh.ev rfl) zk) ?_
      refine WL.val (.pointer (some ⟨g, 0, none⟩)) rfl rfl rfl (fun za zC zh zk => wp_move rfl (zh.ev rfl) zk) ?_
      refine WL.val (.pointer (some ⟨g, 0, none⟩)) rfl rfl rfl (fun za zC zh zk => nilCheck_ rfl (zh.ev rfl) zk) ?_
      refine WL.val (.pointer (some ⟨g, 0, none⟩)) rfl rfl rfl (fun za zC zh zk => fld_37_0 rfl (zh.ev rfl) zk) ?_
      have hb49 : Below w9.heap.size w9 w27 := (bstep hq21 hq26)
      have hB48 := hB18.below hb49
      refine WL.val (.slice a st.length c) rfl rfl rfl (fun za zC zh zk => ld_25 rfl (zh.ev rfl) ((hB48.cell 0).trans rfl) zk) ?_
      refine WL.val (.int .i64 (((st.length : Nat) : Int))) rfl rfl rfl (fun za zC zh zk => wp_move rfl (zh.ev rfl) zk) ?_
      refine WL.val (.slice a st.length c) rfl rfl rfl (fun za zC zh zk => shi_25 (k := st.length) rfl (zh.ev rfl) (zh.ev rfl) (by omega) zk) ?_
      refine WL.val (.pointer (some ⟨g, 0, none⟩)) rfl rfl rfl (fun za zC zh zk => nilCheck_ rfl (zh.ev rfl) zk) ?_
      refine WL.val (.pointer (some ⟨g, 0, none⟩)) rfl rfl rfl (fun za zC zh zk => fld_37_0 rfl (zh.ev rfl) zk) ?_
      refine WL.step (post := fun _ w' => Upd g w27 w' ∧ Blk w' g 37 #[.slice a st.length c]) rfl rfl rfl (fun za zC zh zk => st_25 rfl (zh.ev rfl) (zh.ev rfl) hB48 (by first | decide | simp) (fun v => zk v _ ⟨Upd.at_ _ _ _ _, hB48.set_ 0 _⟩)) ?_
      rintro v53 w50 ⟨hu51, hB52⟩
      have hB54 := hB20.below hb49
      have hB55 := upd_blk hB54 hu51 (by omega)
      have hB56 := hB24.below hq26
      have hB57 := upd_blk hB56 hu51 (by omega)
      refine WL.nil (WE.sub (K' := [(0, .pointer (some ⟨g, 0, none⟩)), (1, .agg #[.int .i64 p.f, .slice pa0 p.args.length pc0]), (2, .agg #[.int .i64 t.f, .slice ta0 t.args.length tc0]), (4, .pointer (some ⟨g2, 0, none⟩)), (5, .pointer (some ⟨g10, 0, none⟩)), (6, .bool false), (7, .int .i64 (((st.length : Nat) : Int))), (24, .bool false)]) ⟨rfl, rfl, rfl, rfl, rfl, rfl, rfl, rfl, trivial⟩ ?_)
      refine WE.next ?_
      refine WC.seq ?_
      refine WC.region ?_
      refine WL.val (.bool false) rfl rfl rfl (fun za zC zh zk => wp_assign rfl (zh.ev rfl) zk) ?_
      refine WL.nil (WE.sub (K' := [(0, .pointer (some ⟨g, 0, none⟩)), (1, .agg #[.int .i64 p.f, .slice pa0 p.args.length pc0]), (2, .agg #[.int .i64 t.f, .slice ta0 t.args.length tc0]), (4, .pointer (some ⟨g2, 0, none⟩)), (5, .pointer (some ⟨g10, 0, none⟩)), (6, .bool false), (7, .int .i64 (((st.length : Nat) : Int))), (24, .bool false)]) ⟨rfl, rfl, rfl, rfl, rfl, rfl, rfl, rfl, trivial⟩ ?_)
      refine WE.next ?_
      refine WC.ret ?_
      refine WE.ret1 rfl rfl ?_
      have hfin := fin_np (p := p) (t := t) (st := st) (fun q => by have z := h28; simp [q.1, q.2] at z)
      have hb58 : Below w.heap.size w w27 := (bstep hb19 hb49)
      have hs59 : Chg ((fun b => b = g)) w27 w50 := (Chg.trans2 (Chg.refl ((fun b => b = g)) _) (Chg.ofUpd (S := fun k => k = g) hu51 rfl) (fun i h1 h2 => by first | exact h2 | exact .inl h2 | exact .inr h2 | exact .inr (.inl h2) | exact .inr (.inr h2) | ((try dsimp only at *); omega)))
      have hRb := (hR.chg (S := fun _ => False) (.ofBelow hb58) (fun _ _ => id)).cut st.length (Nat.le_refl _) hB52 hs59
      rw [List.take_length] at hRb
      have hs60 : Chg ((fun b => b = g)) w w50 := (Chg.trans2 (Chg.trans2 (Chg.refl ((fun b => b = g)) _) (Chg.ofBelow (S := fun k => k < 0) hb58) (fun i h1 h2 => by first | exact h2 | exact .inl h2 | exact .inr h2 | exact .inr (.inl h2) | exact .inr (.inr h2) | ((try dsimp only at *); omega))) (Chg.ofUpd (S := fun k => k = g) hu51 rfl) (fun i h1 h2 => by first | exact h2 | exact .inl h2 | exact .inr h2 | exact .inr (.inl h2) | exact .inr (.inr h2) | ((try dsimp only at *); omega)))
      exact ⟨_, rfl, ⟨D, congrArg Value.bool hfin.1.symm, by rw [hfin.2]; exact ⟨_, _, hRb⟩, fun b q => .inl q⟩, hs60.mono (fun b q => q ▸ hR.dg)⟩
  · refine WL.sub (K' := [(0, .pointer (some ⟨g, 0, none⟩)), (1, .agg #[.int .i64 p.f, .slice pa0 p.args.length pc0]), (2, .agg #[.int .i64 t.f, .slice ta0 t.args.length tc0]), (4, .pointer (some ⟨g2, 0, none⟩)), (5, .pointer (some ⟨g10, 0, none⟩)), (6, .bool false), (7, .int .i64 (((st.length : Nat) : Int))), (13, .agg #[.int .i64 p.f, .slice pa0 p.args.length pc0]), (14, .bool ((p.plain))), (15, .bool false)]) ⟨rfl, rfl, rfl, rfl, rfl, rfl, rfl, rfl, rfl, (by exact congrArg (fun z => some (Value.bool z)) h23), trivial⟩ ?_
    refine WL.skip (d := 15) rfl rfl rfl rfl rfl ?_
    refine WL.skip (d := 15) rfl rfl rfl rfl rfl ?_
    refine WL.val (.bool false) rfl rfl rfl (fun za zC zh zk => wp_pickF rfl (zh.ev rfl) (zh.ev rfl) zk) ?_
    refine WL.val (.bool false) rfl rfl rfl (fun za zC zh zk => wp_move rfl (zh.ev rfl) zk) ?_
    refine WL.skip (d := 19) rfl rfl rfl rfl rfl ?_
    refine WL.skip (d := 19) rfl rfl rfl rfl rfl ?_
    refine WL.skip (d := 19) rfl rfl rfl rfl rfl ?_
    refine WL.skip (d := 19) rfl rfl rfl rfl rfl ?_
    refine WL.val (.bool false) rfl rfl rfl (fun za zC zh zk => wp_pickF rfl (zh.ev rfl) (zh.ev rfl) zk) ?_
    refine WL.nil (WE.sub (K' := [(0, .pointer (some ⟨g, 0, none⟩)), (1, .agg #[.int .i64 p.f, .slice pa0 p.args.length pc0]), (2, .agg #[.int .i64 t.f, .slice ta0 t.args.length tc0]), (4, .pointer (some ⟨g2, 0, none⟩)), (5, .pointer (some ⟨g10, 0, none⟩)), (6, .bool false), (7, .int .i64 (((st.length : Nat) : Int))), (24, .bool false)]) ⟨rfl, rfl, rfl, rfl, rfl, rfl, rfl, rfl, trivial⟩ ?_)
    refine WE.next ?_
    refine WC.condF rfl rfl ?_
    refine WC.skip ?_
    refine WE.next ?_
    refine WC.seq ?_
    refine WC.region ?_
    refine WL.val (.pointer (some ⟨g, 0, none⟩)) rfl rfl rfl (fun za zC zh zk => wp_move rfl (zh.ev rfl) zk) ?_
    refine WL.val (.pointer (some ⟨g, 0, none⟩)) rfl rfl rfl (fun za zC zh zk => wp_move rfl (zh.ev rfl) zk) ?_
    refine WL.val (.pointer (some ⟨g, 0, none⟩)) rfl rfl rfl (fun za zC zh zk => nilCheck_ rfl (zh.ev rfl) zk) ?_
    refine WL.val (.pointer (some ⟨g, 0, none⟩)) rfl rfl rfl (fun za zC zh zk => fld_37_0 rfl (zh.ev rfl) zk) ?_
    have hB61 := hB18.below hq21
    refine WL.val (.slice a st.length c) rfl rfl rfl (fun za zC zh zk => ld_25 rfl (zh.ev rfl) ((hB61.cell 0).trans rfl) zk) ?_
    refine WL.val (.int .i64 (((st.length : Nat) : Int))) rfl rfl rfl (fun za zC zh zk => wp_move rfl (zh.ev rfl) zk) ?_
    refine WL.val (.slice a st.length c) rfl rfl rfl (fun za zC zh zk => shi_25 (k := st.length) rfl (zh.ev rfl) (zh.ev rfl) (by omega) zk) ?_
    refine WL.val (.pointer (some ⟨g, 0, none⟩)) rfl rfl rfl (fun za zC zh zk => nilCheck_ rfl (zh.ev rfl) zk) ?_
    refine WL.val (.pointer (some ⟨g, 0, none⟩)) rfl rfl rfl (fun za zC zh zk => fld_37_0 rfl (zh.ev rfl) zk) ?_
    refine WL.step (post := fun _ w' => Upd g w22 w' ∧ Blk w' g 37 #[.slice a st.length c]) rfl rfl rfl (fun za zC zh zk => st_25 rfl (zh.ev rfl) (zh.ev rfl) hB61 (by first | decide | simp) (fun v => zk v _ ⟨Upd.at_ _ _ _ _, hB61.set_ 0 _⟩)) ?_
    rintro v65 w62 ⟨hu63, hB64⟩
    have hB66 := hB20.below hq21
    have hB67 := upd_blk hB66 hu63 (by omega)
    have hB68 := hB12.below hq21
    have hB69 := upd_blk hB68 hu63 (by omega)
    refine WL.nil (WE.sub (K' := [(0, .pointer (some ⟨g, 0, none⟩)), (1, .agg #[.int .i64 p.f, .slice pa0 p.args.length pc0]), (2, .agg #[.int .i64 t.f, .slice ta0 t.args.length tc0]), (4, .pointer (some ⟨g2, 0, none⟩)), (5, .pointer (some ⟨g10, 0, none⟩)), (6, .bool false), (7, .int .i64 (((st.length : Nat) : Int))), (24, .bool false)]) ⟨rfl, rfl, rfl, rfl, rfl, rfl, rfl, rfl, trivial⟩ ?_)
    refine WE.next ?_
    refine WC.seq ?_
    refine WC.region ?_
    refine WL.val (.bool false) rfl rfl rfl (fun za zC zh zk => wp_assign rfl (zh.ev rfl) zk) ?_
    refine WL.nil (WE.sub (K' := [(0, .pointer (some ⟨g, 0, none⟩)), (1, .agg #[.int .i64 p.f, .slice pa0 p.args.length pc0]), (2, .agg #[.int .i64 t.f, .slice ta0 t.args.length tc0]), (4, .pointer (some ⟨g2, 0, none⟩)), (5, .pointer (some ⟨g10, 0, none⟩)), (6, .bool false), (7, .int .i64 (((st.length : Nat) : Int))), (24, .bool false)]) ⟨rfl, rfl, rfl, rfl, rfl, rfl, rfl, rfl, trivial⟩ ?_)
    refine WE.next ?_
    refine WC.ret ?_
    refine WE.ret1 rfl rfl ?_
    have hfin := fin_np (p := p) (t := t) (st := st) (fun q => by have z := h23; simp [q.1, q.2] at z)
    have hb70 : Below w.heap.size w w22 := (bstep hb19 hq21)
    have hs71 : Chg ((fun b => b = g)) w22 w62 := (Chg.trans2 (Chg.refl ((fun b => b = g)) _) (Chg.ofUpd (S := fun k => k = g) hu63 rfl) (fun i h1 h2 => by first | exact h2 | exact .inl h2 | exact .inr h2 | exact .inr (.inl h2) | exact .inr (.inr h2) | ((try dsimp only at *); omega)))
    have hRb := (hR.chg (S := fun _ => False) (.ofBelow hb70) (fun _ _ => id)).cut st.length (Nat.le_refl _) hB64 hs71
    rw [List.take_length] at hRb
    have hs72 : Chg ((fun b => b = g)) w w62 := (Chg.trans2 (Chg.trans2 (Chg.refl ((fun b => b = g)) _) (Chg.ofBelow (S := fun k => k < 0) hb70) (fun i h1 h2 => by first | exact h2 | exact .inl h2 | exact .inr h2 | exact .inr (.inl h2) | exact .inr (.inr h2) | ((try dsimp only at *); omega))) (Chg.ofUpd (S := fun k => k = g) hu63 rfl) (fun i h1 h2 => by first | exact h2 | exact .inl h2 | exact .inr h2 | exact .inr (.inl h2) | exact .inr (.inr h2) | ((try dsimp only at *); omega)))
    exact ⟨_, rfl, ⟨D, congrArg Value.bool hfin.1.symm, by rw [hfin.2]; exact ⟨_, _, hRb⟩, fun b q => .inl q⟩, hs72.mono (fun b q => q ▸ hR.dg)⟩

end Go.Proofs.Ytcmfjnadjddboaa

namespace Go.Proofs.Ytcmfjnadjddboaa
open Go.RowKit Go
set_option linter.unusedVariables false
set_option linter.unusedSimpArgs false

theorem rTerm_go (p t : T) {w0 w : World} {g : Nat} {st : List Bd} {D A : Nat → Prop} {u v : Value} (h : RefGo w0 D g st w) (hp : InT A w p u) (ht : InT A w t v) (hA : ∀ b, A b → ¬ Since w0 D b) (hzp : p.size ≤ 4294967296) (hzt : t.size ≤ 4294967296) (hn : st.length + p.size ≤ 1099511627776) :
    Calls Try.prog 16 #[.pointer (some ⟨g, 0, none⟩), u, v] w (Ret fun v' w' => (v' = .bool (mOk p t st) ∧ RefGo w0 D g (mTo p t st) w') ∧ Chg (Since w0 D) w w') :=
  rgo_of h fun D' h' h1 => rTerm_any p t h' hp ht (fun b q q2 => hA b q (h1 b q2)) hzp hzt hn
set_option maxRecDepth 100000 in
theorem rlit_any {g : Nat} {st : List Bd} {D A : Nat → Prop} (p l : Li) (tu : Bool) (w : World) (u v : Value) (h : RefAt w g st D) (hp : LiIn A w p u) (hl : LiIn A w l v) (hA : ∀ b, A b → ¬ D b) (hp1 : p.l.size ≤ 4294967296) (hp2 : p.r.size ≤ 4294967296) (hl1 : l.l.size ≤ 4294967296) (hl2 : l.r.size ≤ 4294967296) (hn : st.length + p.l.size + p.r.size ≤ 1099511627776) :
    Calls Try.prog 18 #[.pointer (some ⟨g, 0, none⟩), u, v, .bool tu] w (Ret fun v' w' => (∃ D', v' = .bool (lOk p l tu st) ∧ RefAt w' g (lTo p l tu st) D' ∧ ∀ b, D' b → D b ∨ w.heap.size ≤ b) ∧ Chg D w w') := by
  have h0 := h
  have hDlt := h.dlt
  obtain ⟨a, c, hR⟩ := h
  have hgl := hR.blk.lt
  obtain ⟨a1, a2, c1, c2, rfl⟩ := hp.parts
  obtain ⟨hpl, hpr⟩ := hp.two
  obtain ⟨a3, a4, c3, c4, rfl⟩ := hl.parts
  obtain ⟨hll, hlr⟩ := hl.two
  refine Calls.walk (l := [.pointer (some ⟨g, 0, none⟩), .agg #[.bool p.neg, .int .i64 p.l.f, .slice a1 p.l.args.length c1, .int .i64 p.r.f, .slice a2 p.r.args.length c2], .agg #[.bool l.neg, .int .i64 l.l.f, .slice a3 l.l.args.length c3, .int .i64 l.r.f, .slice a4 l.r.args.length c4], .bool tu]) Try.func18 rfl (by kernel_rfl) ?_
  refine WC.sub (K' := [(0, .pointer (some ⟨g, 0, none⟩)), (1, .agg #[.bool p.neg, .int .i64 p.l.f, .slice a1 p.l.args.length c1, .int .i64 p.r.f, .slice a2 p.r.args.length c2]), (2, .agg #[.bool l.neg, .int .i64 l.l.f, .slice a3 l.l.args.length c3, .int .i64 l.r.f, .slice a4 l.r.args.length c4]), (3, .bool tu)]) ⟨rfl, rfl, rfl, rfl, trivial⟩ ?_
  refine WC.seq ?_
  refine WC.region ?_
  refine WL.step (post := NewBlk w 41 #[.bool p.neg, .int .i64 p.l.f, .slice a1 p.l.args.length c1, .int .i64 p.r.f, .slice a2 p.r.args.length c2]) rfl rfl rfl (fun za zC zh zk => box_41 rfl (zh.ev rfl) (zk _ _ (newBlk _ _ _))) ?_
  rintro _ w1 ⟨g2, rfl, hg3, hB4, hb5, hz6⟩
  have hl7 : g < g2 := by have z1 := hR.blk.lt; omega
  have hl8 : w.heap.size ≤ g2 := by omega
  refine WL.step (post := NewBlk w1 41 #[.bool l.neg, .int .i64 l.l.f, .slice a3 l.l.args.length c3, .int .i64 l.r.f, .slice a4 l.r.args.length c4]) rfl rfl rfl (fun za zC zh zk => box_41 rfl (zh.ev rfl) (zk _ _ (newBlk _ _ _))) ?_
  rintro _ w9 ⟨g10, rfl, hg11, hB12, hb13, hz14⟩
  have hl15 : g < g10 := by have z1 := hR.blk.lt; have z2 := (hb5).size; omega
  have hl16 : g2 < g10 := by have z1 := hB4.lt; omega
  have hl17 : w.heap.size ≤ g10 := by have z2 := (hb5).size; omega
  refine WL.val (.bool false) rfl rfl rfl (fun za zC zh zk => wp_assign rfl (zh.ev rfl) zk) ?_
  refine WL.nil (WE.sub (K' := [(0, .pointer (some ⟨g, 0, none⟩)), (1, .agg #[.bool p.neg, .int .i64 p.l.f, .slice a1 p.l.args.length c1, .int .i64 p.r.f, .slice a2 p.r.args.length c2]), (2, .agg #[.bool l.neg, .int .i64 l.l.f, .slice a3 l.l.args.length c3, .int .i64 l.r.f, .slice a4 l.r.args.length c4]), (3, .bool tu), (5, .pointer (some ⟨g2, 0, none⟩)), (6, .pointer (some ⟨g10, 0, none⟩)), (8, .bool false)]) ⟨rfl, rfl, rfl, rfl, rfl, rfl, rfl, trivial⟩ ?_)
  refine WE.next ?_
  refine WC.seq ?_
  refine WC.seq ?_
  have hB18 := hB4.below hb13
  have hb19 : Below w.heap.size w w9 := (bstep hb5 hb13)
  refine WC.opt [(true, .val (.pointer (some ⟨g2, 0, none⟩))), (true, .val (.bool p.neg)), (true, .val (.pointer (some ⟨g10, 0, none⟩))), (true, .val (.bool l.neg)), (true, .val (.bool ((p.neg != l.neg)))), (true, .val (.bool ((p.neg != l.neg)))), ((true && !(p.neg != l.neg)), .val (.agg #[.bool p.neg, .int .i64 p.l.f, .slice a1 p.l.args.length c1, .int .i64 p.r.f, .slice a2 p.r.args.length c2])), ((true && !(p.neg != l.neg)), .val (.bool p.atom)), ((true && !(p.neg != l.neg)), .val (.agg #[.bool l.neg, .int .i64 l.l.f, .slice a3 l.l.args.length c3, .int .i64 l.r.f, .slice a4 l.r.args.length c4])), ((true && !(p.neg != l.neg)), .val (.bool l.atom)), ((true && !(p.neg != l.neg)), .val (.bool ((p.atom != l.atom)))), (true, .val (.bool (((p.neg != l.neg) || (p.atom != l.atom)))))] [(0, .pointer (some ⟨g, 0, none⟩)), (1, .agg #[.bool p.neg, .int .i64 p.l.f, .slice a1 p.l.args.length c1, .int .i64 p.r.f, .slice a2 p.r.args.length c2]), (2, .agg #[.bool l.neg, .int .i64 l.l.f, .slice a3 l.l.args.length c3, .int .i64 l.r.f, .slice a4 l.r.args.length c4]), (3, .bool tu), (5, .pointer (some ⟨g2, 0, none⟩)), (6, .pointer (some ⟨g10, 0, none⟩)), (8, .bool false)] ⟨rfl, rfl, rfl, rfl, rfl, rfl, rfl, trivial⟩ (by kernel_rfl) (by kernel_rfl) (by kernel_rfl) ?_ ?_
  · refine ⟨⟨true, .none rfl, fun h w => optUndef h, fun zβ za zw zc => ?_⟩, ?_⟩
    · exact fld_41_0 rfl (zc.kn.ev rfl) ⟨_, rfl, Below.refl _ _, optDef zβ rfl⟩
    refine ⟨⟨true, .none rfl, fun h w => optUndef h, fun zβ za zw zc => ?_⟩, ?_⟩
    · exact ld_4 rfl ((show za.eval (.tmp 10) = za.tmps.getD 10 undef from rfl).trans (optVal (zc.dep 0 10 (by kernel_rfl)) rfl rfl)) (bkeeps zc.below _ _ ((hB18.cell 0).trans rfl)) ⟨_, rfl, Below.refl _ _, optDef zβ rfl⟩
    refine ⟨⟨true, .none rfl, fun h w => optUndef h, fun zβ za zw zc => ?_⟩, ?_⟩
    · exact fld_41_0 rfl (zc.kn.ev rfl) ⟨_, rfl, Below.refl _ _, optDef zβ rfl⟩
    refine ⟨⟨true, .none rfl, fun h w => optUndef h, fun zβ za zw zc => ?_⟩, ?_⟩
    · exact ld_4 rfl ((show za.eval (.tmp 12) = za.tmps.getD 12 undef from rfl).trans (optVal (zc.dep 2 12 (by kernel_rfl)) rfl rfl)) (bkeeps zc.below _ _ ((hB12.cell 0).trans rfl)) ⟨_, rfl, Below.refl _ _, optDef zβ rfl⟩
    refine ⟨⟨true, .none rfl, fun h w => optUndef h, fun zβ za zw zc => ?_⟩, ?_⟩
    · exact neq_4 rfl ((show za.eval (.tmp 11) = za.tmps.getD 11 undef from rfl).trans (optVal (zc.dep 1 11 (by kernel_rfl)) rfl rfl)) ((show za.eval (.tmp 13) = za.tmps.getD 13 undef from rfl).trans (optVal (zc.dep 3 13 (by kernel_rfl)) rfl rfl)) ⟨_, rfl, Below.refl _ _, optDef zβ rfl⟩
    refine ⟨⟨true, .none rfl, fun h w => optUndef h, fun zβ za zw zc => ?_⟩, ?_⟩
    · exact wp_move rfl ((show za.eval (.tmp 14) = za.tmps.getD 14 undef from rfl).trans (optVal (zc.dep 4 14 (by kernel_rfl)) rfl rfl)) ⟨_, rfl, Below.refl _ _, optDef zβ rfl⟩
    refine ⟨⟨(true && !(p.neg != l.neg)), .no (c := (p.neg != l.neg)) (d := true) rfl (fun v w h => h), fun h w => optUndef h, fun zβ za zw zc => ?_⟩, ?_⟩
    · exact ld_41 rfl (zc.kn.ev rfl) (bkeeps zc.below _ _ ((hB18.cell 0).trans rfl)) (bkeeps zc.below _ _ ((hB18.cell 1).trans rfl)) (bkeeps zc.below _ _ ((hB18.cell 2).trans rfl)) (bkeeps zc.below _ _ ((hB18.cell 3).trans rfl)) (bkeeps zc.below _ _ ((hB18.cell 4).trans rfl)) ⟨_, rfl, Below.refl _ _, optDef zβ rfl⟩
    refine ⟨⟨(true && !(p.neg != l.neg)), .no (c := (p.neg != l.neg)) (d := true) rfl (fun v w h => h), fun h w => optUndef h, fun zβ za zw zc => ?_⟩, ?_⟩
    · exact wp_call (by kernel_rfl) rfl (hv1 ((show za.eval (.tmp 16) = za.tmps.getD 16 undef from rfl).trans (optVal (zc.dep 6 16 (by kernel_rfl)) rfl zβ))) (ratom_any p _ _ (isLi_mk (IsT.below (bstep hb19 zc.below) (InT.isT hpl)) (IsT.below (bstep hb19 zc.below) (InT.isT hpr)))) (fun v w' h => ⟨v, rfl, h.2, optDef zβ h.1⟩)
    refine ⟨⟨(true && !(p.neg != l.neg)), .no (c := (p.neg != l.neg)) (d := true) rfl (fun v w h => h), fun h w => optUndef h, fun zβ za zw zc => ?_⟩, ?_⟩
    · exact ld_41 rfl (zc.kn.ev rfl) (bkeeps zc.below _ _ ((hB12.cell 0).trans rfl)) (bkeeps zc.below _ _ ((hB12.cell 1).trans rfl)) (bkeeps zc.below _ _ ((hB12.cell 2).trans rfl)) (bkeeps zc.below _ _ ((hB12.cell 3).trans rfl)) (bkeeps zc.below _ _ ((hB12.cell 4).trans rfl)) ⟨_, rfl, Below.refl _ _, optDef zβ rfl⟩
    refine ⟨⟨(true && !(p.neg != l.neg)), .no (c := (p.neg != l.neg)) (d := true) rfl (fun v w h => h), fun h w => optUndef h, fun zβ za zw zc => ?_⟩, ?_⟩
    · exact wp_call (by kernel_rfl) rfl (hv1 ((show za.eval (.tmp 18) = za.tmps.getD 18 undef from rfl).trans (optVal (zc.dep 8 18 (by kernel_rfl)) rfl zβ))) (ratom_any l _ _ (isLi_mk (IsT.below (bstep hb19 zc.below) (InT.isT hll)) (IsT.below (bstep hb19 zc.below) (InT.isT hlr)))) (fun v w' h => ⟨v, rfl, h.2, optDef zβ h.1⟩)
    refine ⟨⟨(true && !(p.neg != l.neg)), .no (c := (p.neg != l.neg)) (d := true) rfl (fun v w h => h), fun h w => optUndef h, fun zβ za zw zc => ?_⟩, ?_⟩
    · exact neq_4 rfl ((show za.eval (.tmp 17) = za.tmps.getD 17 undef from rfl).trans (optVal (zc.dep 7 17 (by kernel_rfl)) rfl zβ)) ((show za.eval (.tmp 19) = za.tmps.getD 19 undef from rfl).trans (optVal (zc.dep 9 19 (by kernel_rfl)) rfl zβ)) ⟨_, rfl, Below.refl _ _, optDef zβ rfl⟩
    refine ⟨⟨true, .none rfl, fun h w => optUndef h, fun zβ za zw zc => ?_⟩, ?_⟩
    · exact wp_or rfl ((show za.eval (.tmp 15) = za.tmps.getD 15 undef from rfl).trans (optVal (zc.dep 5 15 (by kernel_rfl)) rfl rfl)) (fun hp => ((show za.eval (.tmp 20) = za.tmps.getD 20 undef from rfl).trans (optVal (zc.dep 10 20 (by kernel_rfl)) rfl (bMkN zβ hp)))) ⟨_, rfl, Below.refl _ _, optDef zβ rfl⟩
    exact trivial
  · intro za w22 zh hb23 zu
    have zh := zh.cons (d := 21) (v := .bool (((p.neg != l.neg) || (p.atom != l.atom)))) (optVal (zu 11 21 (by kernel_rfl)) rfl rfl)
    clear zu
    refine (show WE _ [(0, .pointer (some ⟨g, 0, none⟩)), (1, .agg #[.bool p.neg, .int .i64 p.l.f, .slice a1 p.l.args.length c1, .int .i64 p.r.f, .slice a2 p.r.args.length c2]), (2, .agg #[.bool l.neg, .int .i64 l.l.f, .slice a3 l.l.args.length c3, .int .i64 l.r.f, .slice a4 l.r.args.length c4]), (3, .bool tu), (5, .pointer (some ⟨g2, 0, none⟩)), (6, .pointer (some ⟨g10, 0, none⟩)), (8, .bool false), (21, .bool (((p.neg != l.neg) || (p.atom != l.atom))))] w22 _ .normal from ?_) za (zh.sub ⟨rfl, rfl, rfl, rfl, rfl, rfl, rfl, rfl, trivial⟩)
    refine WE.next ?_
    refine WC.cond rfl (fun h24 => ?_) (fun h24 => ?_)
    · have h24 : (p.neg ≠ l.neg) ∨ (p.atom ≠ l.atom) := by simpa using h24
      refine WC.seq ?_
      refine WC.region ?_
      refine WL.val (.bool false) rfl rfl rfl (fun za zC zh zk => wp_assign rfl (zh.ev rfl) zk) ?_
      refine WL.nil (WE.sub (K' := [(0, .pointer (some ⟨g, 0, none⟩)), (1, .agg #[.bool p.neg, .int .i64 p.l.f, .slice a1 p.l.args.length c1, .int .i64 p.r.f, .slice a2 p.r.args.length c2]), (2, .agg #[.bool l.neg, .int .i64 l.l.f, .slice a3 l.l.args.length c3, .int .i64 l.r.f, .slice a4 l.r.args.length c4]), (3, .bool tu), (5, .pointer (some ⟨g2, 0, none⟩)), (6, .pointer (some ⟨g10, 0, none⟩)), (8, .bool false), (21, .bool (((p.neg != l.neg) || (p.atom != l.atom))))]) ⟨rfl, rfl, rfl, rfl, rfl, rfl, rfl, rfl, trivial⟩ ?_)
      refine WE.next ?_
      refine WC.ret ?_
      refine WE.thenRet ?_
      refine WE.ret1 rfl rfl ?_
      have hb25 : Below w.heap.size w w22 := (bstep hb19 hb23)
      have hfin := lOk_no1 (p := p) (l := l) (b := tu) (st := st) (fun q => by simp [q.1, q.2] at h24)
      exact ⟨_, rfl, ⟨D, congrArg Value.bool hfin.1.symm, by rw [hfin.2]; exact h0.below hb25, fun b q => .inl q⟩, .ofBelow hb25⟩
    · have h24 : ¬ ((p.neg ≠ l.neg) ∨ (p.atom ≠ l.atom)) := by simpa using h24
      refine WC.skip ?_
      refine WE.next ?_
      refine WC.seq ?_
      refine WC.seq ?_
      refine WC.region ?_
      refine WL.val (.bool tu) rfl rfl rfl (fun za zC zh zk => wp_move rfl (zh.ev rfl) zk) ?_
      refine WL.nil (WE.sub (K' := [(0, .pointer (some ⟨g, 0, none⟩)), (1, .agg #[.bool p.neg, .int .i64 p.l.f, .slice a1 p.l.args.length c1, .int .i64 p.r.f, .slice a2 p.r.args.length c2]), (2, .agg #[.bool l.neg, .int .i64 l.l.f, .slice a3 l.l.args.length c3, .int .i64 l.r.f, .slice a4 l.r.args.length c4]), (3, .bool tu), (5, .pointer (some ⟨g2, 0, none⟩)), (6, .pointer (some ⟨g10, 0, none⟩)), (8, .bool false), (21, .bool (((p.neg != l.neg) || (p.atom != l.atom)))), (22, .bool tu)]) ⟨rfl, rfl, rfl, rfl, rfl, rfl, rfl, rfl, rfl, trivial⟩ ?_)
      refine WE.next ?_
      refine WC.cond rfl (fun h26 => ?_) (fun h26 => ?_)
      · skip
        refine WC.region ?_
        refine WL.val (.pointer (some ⟨g10, 0, none⟩)) rfl rfl rfl (fun za zC zh zk => fld_41_0 rfl (zh.ev rfl) zk) ?_
        have hB27 := hB12.below hb23
        refine WL.val (.bool l.neg) rfl rfl rfl (fun za zC zh zk => ld_4 rfl (zh.ev rfl) ((hB27.cell 0).trans rfl) zk) ?_
        refine WL.val (.pointer (some ⟨g10, 3, none⟩)) rfl rfl rfl (fun za zC zh zk => fld_41_2 rfl (zh.ev rfl) zk) ?_
        refine WL.val (.agg #[.int .i64 l.r.f, .slice a4 l.r.args.length c4]) rfl rfl rfl (fun za zC zh zk => ld_24 rfl (zh.ev rfl) ((hB27.cell 3).trans rfl) ((hB27.cell 4).trans rfl) zk) ?_
        refine WL.val (.pointer (some ⟨g10, 1, none⟩)) rfl rfl rfl (fun za zC zh zk => fld_41_1 rfl (zh.ev rfl) zk) ?_
        refine WL.val (.agg #[.int .i64 l.l.f, .slice a3 l.l.args.length c3]) rfl rfl rfl (fun za zC zh zk => ld_24 rfl (zh.ev rfl) ((hB27.cell 1).trans rfl) ((hB27.cell 2).trans rfl) zk) ?_
        refine WL.val (.agg #[.bool l.neg, .int .i64 l.r.f, .slice a4 l.r.args.length c4, .int .i64 l.l.f, .slice a3 l.l.args.length c3]) rfl rfl rfl (fun za zC zh zk => build_41_0_1_2 rfl (zh.ev rfl) (zh.ev rfl) (zh.ev rfl) zk) ?_
        refine WL.step (post := fun _ w' => Upd g10 w22 w' ∧ Blk w' g10 41 #[.bool l.neg, .int .i64 l.r.f, .slice a4 l.r.args.length c4, .int .i64 l.l.f, .slice a3 l.l.args.length c3]) rfl rfl rfl (fun za zC zh zk => st_41 rfl (zh.ev rfl) (zh.ev rfl) rfl rfl rfl rfl rfl hB27 (by first | decide | simp) (fun v => zk v _ ⟨((((Upd.at_ _ _ _ _).trans (Upd.at_ _ _ _ _)).trans (Upd.at_ _ _ _ _)).trans (Upd.at_ _ _ _ _)).trans (Upd.at_ _ _ _ _), ((((hB27.set_ 0 _).set_ 1 _).set_ 2 _).set_ 3 _).set_ 4 _⟩)) ?_
        rintro v31 w28 ⟨hu29, hB30⟩
        have hb32 : Below w.heap.size w w22 := (bstep hb19 hb23)
        have hb33 := upd_below hb32 hu29 (by omega)
        have hB34 := hR.blk.below hb32
        have hB35 := upd_blk hB34 hu29 (by omega)
        have hB36 := hB18.below hb23
        have hB37 := upd_blk hB36 hu29 (by omega)
        refine WL.nil (WE.sub (K' := [(0, .pointer (some ⟨g, 0, none⟩)), (1, .agg #[.bool p.neg, .int .i64 p.l.f, .slice a1 p.l.args.length c1, .int .i64 p.r.f, .slice a2 p.r.args.length c2]), (2, .agg #[.bool l.neg, .int .i64 l.l.f, .slice a3 l.l.args.length c3, .int .i64 l.r.f, .slice a4 l.r.args.length c4]), (3, .bool tu), (5, .pointer (some ⟨g2, 0, none⟩)), (6, .pointer (some ⟨g10, 0, none⟩)), (8, .bool false), (21, .bool (((p.neg != l.neg) || (p.atom != l.atom)))), (22, .bool tu)]) ⟨rfl, rfl, rfl, rfl, rfl, rfl, rfl, rfl, rfl, trivial⟩ ?_)
        refine WE.next ?_
        refine WC.seq ?_
        refine WC.region ?_
        refine WL.val (.pointer (some ⟨g, 0, none⟩)) rfl rfl rfl (fun za zC zh zk => wp_move rfl (zh.ev rfl) zk) ?_
        refine WL.val (.pointer (some ⟨g, 0, none⟩)) rfl rfl rfl (fun za zC zh zk => nilCheck_ rfl (zh.ev rfl) zk) ?_
        refine WL.val (.pointer (some ⟨g, 0, none⟩)) rfl rfl rfl (fun za zC zh zk => fld_37_0 rfl (zh.ev rfl) zk) ?_
        refine WL.val (.slice a st.length c) rfl rfl rfl (fun za zC zh zk => ld_25 rfl (zh.ev rfl) ((hB35.cell 0).trans rfl) zk) ?_
        refine WL.val (.int .i64 (((st.length : Nat) : Int))) rfl rfl rfl (fun za zC zh zk => len_25 rfl (zh.ev rfl) zk) ?_
        refine WL.val (.int .i64 (((st.length : Nat) : Int))) rfl rfl rfl (fun za zC zh zk => wp_assign rfl (zh.ev rfl) zk) ?_
        refine WL.nil (WE.sub (K' := [(0, .pointer (some ⟨g, 0, none⟩)), (1, .agg #[.bool p.neg, .int .i64 p.l.f, .slice a1 p.l.args.length c1, .int .i64 p.r.f, .slice a2 p.r.args.length c2]), (2, .agg #[.bool l.neg, .int .i64 l.l.f, .slice a3 l.l.args.length c3, .int .i64 l.r.f, .slice a4 l.r.args.length c4]), (3, .bool tu), (5, .pointer (some ⟨g2, 0, none⟩)), (6, .pointer (some ⟨g10, 0, none⟩)), (8, .bool false), (9, .int .i64 (((st.length : Nat) : Int))), (21, .bool (((p.neg != l.neg) || (p.atom != l.atom)))), (22, .bool tu)]) ⟨rfl, rfl, rfl, rfl, rfl, rfl, rfl, rfl, rfl, rfl, trivial⟩ ?_)
        refine WE.next ?_
        refine WC.seq ?_
        refine WC.seq ?_
        have hl38 : g2 < w28.heap.size := hB37.lt
        have hl39 : w.heap.size ≤ g2 := by have z : w.heap.size ≤ w.heap.size := (Nat.le_refl _); omega
        have hl40 : g10 < w28.heap.size := hB30.lt
        have hl41 : w.heap.size ≤ g10 := by have z : w.heap.size ≤ w1.heap.size := hb5.size; omega
        have hgo42 : RefGo w28 D g st w28 := RefGo.start (h0.below hb33)
        have hA1 : ∀ b, (A b ∧ b < w.heap.size) → ¬ Since w28 D b := fun b q q2 => q2.elim (hA b q.1) (fun q2 => by have z := (hb33).size; omega)
        have hpl1 := InT.mono (S' := fun b => A b ∧ b < w.heap.size) (fun b q z => ⟨q, z⟩) hpl
        have hpr1 := InT.mono (S' := fun b => A b ∧ b < w.heap.size) (fun b q z => ⟨q, z⟩) hpr
        have hll1 := InT.mono (S' := fun b => A b ∧ b < w.heap.size) (fun b q z => ⟨q, z⟩) hll
        have hlr1 := InT.mono (S' := fun b => A b ∧ b < w.heap.size) (fun b q z => ⟨q, z⟩) hlr
        refine WC.region ?_
        refine WL.val (.pointer (some ⟨g, 0, none⟩)) rfl rfl rfl (fun za zC zh zk => wp_move rfl (zh.ev rfl) zk) ?_
        refine WL.val (.pointer (some ⟨g2, 1, none⟩)) rfl rfl rfl (fun za zC zh zk => fld_41_1 rfl (zh.ev rfl) zk) ?_
        refine WL.val (.agg #[.int .i64 p.l.f, .slice a1 p.l.args.length c1]) rfl rfl rfl (fun za zC zh zk => ld_24 rfl (zh.ev rfl) ((hB37.cell 1).trans rfl) ((hB37.cell 2).trans rfl) zk) ?_
        refine WL.val (.pointer (some ⟨g10, 1, none⟩)) rfl rfl rfl (fun za zC zh zk => fld_41_1 rfl (zh.ev rfl) zk) ?_
        refine WL.val (.agg #[.int .i64 l.r.f, .slice a4 l.r.args.length c4]) rfl rfl rfl (fun za zC zh zk => ld_24 rfl (zh.ev rfl) ((hB30.cell 1).trans rfl) ((hB30.cell 2).trans rfl) zk) ?_
        have hs43 : Chg ((Since w28 D)) w28 w28 := (Chg.refl ((Since w28 D)) _)
        refine WL.call rfl rfl rfl (fun za zh zC => wp_call (by kernel_rfl) rfl (hv3 (zh.ev rfl) (zh.ev rfl) (zh.ev rfl))) (rTerm_go p.l l.r hgo42 ((hpl1.below hb33).chg hs43 hA1) ((hlr1.below hb33).chg hs43 hA1) hA1 hp1 hl2 (by have z := mTo_take p.l l.r st; omega)) ?_
        rintro _ w46 ⟨⟨rfl, hgo44⟩, hc45⟩
        have hB47 := chg_blk hB37 hc45 (fun h => h.elim (fun h => by have z := hDlt _ h; (try dsimp only at *); omega) (fun h => by (try dsimp only at *); omega))
        have hB48 := chg_blk hB30 hc45 (fun h => h.elim (fun h => by have z := hDlt _ h; (try dsimp only at *); omega) (fun h => by (try dsimp only at *); omega))
        refine WL.val (.bool ((mOk p.l l.r st))) rfl rfl rfl (fun za zC zh zk => wp_move rfl (zh.ev rfl) zk) ?_
        refine bool_split ((mOk p.l l.r st)) (fun h49 => ?_) (fun h49 => ?_)
        · refine WL.sub (K' := [(0, .pointer (some ⟨g, 0, none⟩)), (1, .agg #[.bool p.neg, .int .i64 p.l.f, .slice a1 p.l.args.length c1, .int .i64 p.r.f, .slice a2 p.r.args.length c2]), (2, .agg #[.bool l.neg, .int .i64 l.l.f, .slice a3 l.l.args.length c3, .int .i64 l.r.f, .slice a4 l.r.args.length c4]), (3, .bool tu), (5, .pointer (some ⟨g2, 0, none⟩)), (6, .pointer (some ⟨g10, 0, none⟩)), (8, .bool false), (9, .int .i64 (((st.length : Nat) : Int))), (21, .bool (((p.neg != l.neg) || (p.atom != l.atom)))), (22, .bool tu), (35, .pointer (some ⟨g, 0, none⟩)), (36, .pointer (some ⟨g2, 1, none⟩)), (37, .agg #[.int .i64 p.l.f, .slice a1 p.l.args.length c1]), (38, .pointer (some ⟨g10, 1, none⟩)), (39, .agg #[.int .i64 l.r.f, .slice a4 l.r.args.length c4]), (40, .bool ((mOk p.l l.r st))), (41, .bool true)]) ⟨rfl, rfl, rfl, rfl, rfl, rfl, rfl, rfl, rfl, rfl, rfl, rfl, rfl, rfl, rfl, rfl, (by exact congrArg (fun z => some (Value.bool z)) h49), trivial⟩ ?_
          refine WL.want (d := 41) rfl rfl rfl ?_
          refine WL.val (.pointer (some ⟨g, 0, none⟩)) rfl rfl rfl (fun za zC zh zk => wp_move rfl (zh.ev rfl) zk) ?_
          refine WL.want (d := 41) rfl rfl rfl ?_
          refine WL.val (.pointer (some ⟨g2, 3, none⟩)) rfl rfl rfl (fun za zC zh zk => fld_41_2 rfl (zh.ev rfl) zk) ?_
          refine WL.want (d := 41) rfl rfl rfl ?_
          refine WL.val (.agg #[.int .i64 p.r.f, .slice a2 p.r.args.length c2]) rfl rfl rfl (fun za zC zh zk => ld_24 rfl (zh.ev rfl) ((hB47.cell 3).trans rfl) ((hB47.cell 4).trans rfl) zk) ?_
          refine WL.want (d := 41) rfl rfl rfl ?_
          refine WL.val (.pointer (some ⟨g10, 3, none⟩)) rfl rfl rfl (fun za zC zh zk => fld_41_2 rfl (zh.ev rfl) zk) ?_
          refine WL.want (d := 41) rfl rfl rfl ?_
          refine WL.val (.agg #[.int .i64 l.l.f, .slice a3 l.l.args.length c3]) rfl rfl rfl (fun za zC zh zk => ld_24 rfl (zh.ev rfl) ((hB48.cell 3).trans rfl) ((hB48.cell 4).trans rfl) zk) ?_
          refine WL.want (d := 41) rfl rfl rfl ?_
          have hs50 : Chg ((Since w28 D)) w28 w46 := (Chg.trans2 (Chg.refl ((Since w28 D)) _) hc45 (fun i h1 h2 => by first | exact h2 | exact .inl h2 | exact .inr h2 | exact .inr (.inl h2) | exact .inr (.inr h2) | ((try dsimp only at *); omega)))
          refine WL.call rfl rfl rfl (fun za zh zC => wp_call (by kernel_rfl) rfl (hv3 (zh.ev rfl) (zh.ev rfl) (zh.ev rfl))) (rTerm_go p.r l.l hgo44 ((hpr1.below hb33).chg hs50 hA1) ((hll1.below hb33).chg hs50 hA1) hA1 hp2 hl1 (by have z := mTo_take p.l l.r st; omega)) ?_
          rintro _ w53 ⟨⟨rfl, hgo51⟩, hc52⟩
          have hB54 := chg_blk hB47 hc52 (fun h => h.elim (fun h => by have z := hDlt _ h; (try dsimp only at *); omega) (fun h => by (try dsimp only at *); omega))
          have hB55 := chg_blk hB48 hc52 (fun h => h.elim (fun h => by have z := hDlt _ h; (try dsimp only at *); omega) (fun h => by (try dsimp only at *); omega))
          refine WL.val (.bool ((mOk p.r l.l (mTo p.l l.r st)))) rfl rfl rfl (fun za zC zh zk => wp_pickT rfl (zh.ev rfl) (zh.ev rfl) zk) ?_
          refine WL.nil (WE.sub (K' := [(0, .pointer (some ⟨g, 0, none⟩)), (1, .agg #[.bool p.neg, .int .i64 p.l.f, .slice a1 p.l.args.length c1, .int .i64 p.r.f, .slice a2 p.r.args.length c2]), (2, .agg #[.bool l.neg, .int .i64 l.l.f, .slice a3 l.l.args.length c3, .int .i64 l.r.f, .slice a4 l.r.args.length c4]), (3, .bool tu), (5, .pointer (some ⟨g2, 0, none⟩)), (6, .pointer (some ⟨g10, 0, none⟩)), (8, .bool false), (9, .int .i64 (((st.length : Nat) : Int))), (21, .bool (((p.neg != l.neg) || (p.atom != l.atom)))), (22, .bool tu), (48, .bool ((mOk p.r l.l (mTo p.l l.r st))))]) ⟨rfl, rfl, rfl, rfl, rfl, rfl, rfl, rfl, rfl, rfl, rfl, trivial⟩ ?_)
          refine WE.next ?_
          refine WC.cond rfl (fun h56 => ?_) (fun h56 => ?_)
          · skip
            refine WC.seq ?_
            refine WC.region ?_
            refine WL.val (.bool true) rfl rfl rfl (fun za zC zh zk => wp_assign rfl (zh.ev rfl) zk) ?_
            refine WL.nil (WE.sub (K' := [(0, .pointer (some ⟨g, 0, none⟩)), (1, .agg #[.bool p.neg, .int .i64 p.l.f, .slice a1 p.l.args.length c1, .int .i64 p.r.f, .slice a2 p.r.args.length c2]), (2, .agg #[.bool l.neg, .int .i64 l.l.f, .slice a3 l.l.args.length c3, .int .i64 l.r.f, .slice a4 l.r.args.length c4]), (3, .bool tu), (5, .pointer (some ⟨g2, 0, none⟩)), (6, .pointer (some ⟨g10, 0, none⟩)), (8, .bool true), (9, .int .i64 (((st.length : Nat) : Int))), (21, .bool (((p.neg != l.neg) || (p.atom != l.atom)))), (22, .bool tu), (48, .bool ((mOk p.r l.l (mTo p.l l.r st))))]) ⟨rfl, rfl, rfl, rfl, rfl, rfl, rfl, rfl, rfl, rfl, rfl, trivial⟩ ?_)
            refine WE.next ?_
            refine WC.ret ?_
            refine WE.thenRet ?_
            refine WE.ret1 rfl rfl ?_
            have htu9 : tu = true := by simpa using h26
            have hsm : p.neg = l.neg ∧ p.atom = l.atom := by have z := h24; simp at z; exact z
            have hs57 : Chg ((Since w28 D)) w28 w53 := (Chg.trans2 (Chg.trans2 (Chg.refl ((Since w28 D)) _) hc45 (fun i h1 h2 => by first | exact h2 | exact .inl h2 | exact .inr h2 | exact .inr (.inl h2) | exact .inr (.inr h2) | ((try dsimp only at *); omega))) hc52 (fun i h1 h2 => by first | exact h2 | exact .inl h2 | exact .inr h2 | exact .inr (.inl h2) | exact .inr (.inr h2) | ((try dsimp only at *); omega)))
            have hfin := lOk_yes (p := p) (l := l) (b := tu) (st := st) hsm (by rw [htu9]; exact h49) (by rw [htu9]; exact h56)
            rw [htu9] at hfin
            subst htu9
            exact ⟨_, rfl, by rw [hfin.1, hfin.2]; obtain ⟨C9, z1, z2⟩ := RefGo.done hgo51 hb33.size; exact ⟨C9, rfl, z1, z2⟩, chg_since hb33 hs57⟩
          · skip
            refine WC.skip ?_
            refine WE.next ?_
            refine WC.seq ?_
            obtain ⟨D2, a9, c9, hR2, hD2⟩ := hgo51.in_
            obtain ⟨hcap3, hcap4⟩ := hR2.cap
            have hmt := mTo_take p.l l.r st
            have hmt2 := mTo_no (Bool.eq_false_iff.1 h56)
            rw [hmt2] at hR2 hcap3
            refine WC.region ?_
            refine WL.val (.pointer (some ⟨g, 0, none⟩)) rfl rfl rfl (fun za zC zh zk => wp_move rfl (zh.ev rfl) zk) ?_
            refine WL.val (.pointer (some ⟨g, 0, none⟩)) rfl rfl rfl (fun za zC zh zk => wp_move rfl (zh.ev rfl) zk) ?_
            refine WL.val (.pointer (some ⟨g, 0, none⟩)) rfl rfl rfl (fun za zC zh zk => nilCheck_ rfl (zh.ev rfl) zk) ?_
            refine WL.val (.pointer (some ⟨g, 0, none⟩)) rfl rfl rfl (fun za zC zh zk => fld_37_0 rfl (zh.ev rfl) zk) ?_
            refine WL.val (.slice a9 ((mTo p.l l.r st).length) c9) rfl rfl rfl (fun za zC zh zk => ld_25 rfl (zh.ev rfl) ((hR2.blk.cell 0).trans rfl) zk) ?_
            refine WL.val (.int .i64 (((st.length : Nat) : Int))) rfl rfl rfl (fun za zC zh zk => wp_move rfl (zh.ev rfl) zk) ?_
            refine WL.val (.slice a9 st.length c9) rfl rfl rfl (fun za zC zh zk => shi_25 (k := st.length) rfl (zh.ev rfl) (zh.ev rfl) (by omega) zk) ?_
            refine WL.val (.pointer (some ⟨g, 0, none⟩)) rfl rfl rfl (fun za zC zh zk => nilCheck_ rfl (zh.ev rfl) zk) ?_
            refine WL.val (.pointer (some ⟨g, 0, none⟩)) rfl rfl rfl (fun za zC zh zk => fld_37_0 rfl (zh.ev rfl) zk) ?_
            refine WL.step (post := fun _ w' => Upd g w53 w' ∧ Blk w' g 37 #[.slice a9 st.length c9]) rfl rfl rfl (fun za zC zh zk => st_25 rfl (zh.ev rfl) (zh.ev rfl) hR2.blk (by first | decide | simp) (fun v => zk v _ ⟨Upd.at_ _ _ _ _, hR2.blk.set_ 0 _⟩)) ?_
            rintro v61 w58 ⟨hu59, hB60⟩
            have hB62 := upd_blk hB54 hu59 (by omega)
            have hB63 := upd_blk hB55 hu59 (by omega)
            refine WL.nil (WE.sub (K' := [(0, .pointer (some ⟨g, 0, none⟩)), (1, .agg #[.bool p.neg, .int .i64 p.l.f, .slice a1 p.l.args.length c1, .int .i64 p.r.f, .slice a2 p.r.args.length c2]), (2, .agg #[.bool l.neg, .int .i64 l.l.f, .slice a3 l.l.args.length c3, .int .i64 l.r.f, .slice a4 l.r.args.length c4]), (3, .bool tu), (5, .pointer (some ⟨g2, 0, none⟩)), (6, .pointer (some ⟨g10, 0, none⟩)), (8, .bool false), (9, .int .i64 (((st.length : Nat) : Int))), (21, .bool (((p.neg != l.neg) || (p.atom != l.atom)))), (22, .bool tu), (48, .bool ((mOk p.r l.l (mTo p.l l.r st))))]) ⟨rfl, rfl, rfl, rfl, rfl, rfl, rfl, rfl, rfl, rfl, rfl, trivial⟩ ?_)
            refine WE.next ?_
            refine WC.seq ?_
            refine WC.region ?_
            refine WL.val (.bool false) rfl rfl rfl (fun za zC zh zk => wp_assign rfl (zh.ev rfl) zk) ?_
            refine WL.nil (WE.sub (K' := [(0, .pointer (some ⟨g, 0, none⟩)), (1, .agg #[.bool p.neg, .int .i64 p.l.f, .slice a1 p.l.args.length c1, .int .i64 p.r.f, .slice a2 p.r.args.length c2]), (2, .agg #[.bool l.neg, .int .i64 l.l.f, .slice a3 l.l.args.length c3, .int .i64 l.r.f, .slice a4 l.r.args.length c4]), (3, .bool tu), (5, .pointer (some ⟨g2, 0, none⟩)), (6, .pointer (some ⟨g10, 0, none⟩)), (8, .bool false), (9, .int .i64 (((st.length : Nat) : Int))), (21, .bool (((p.neg != l.neg) || (p.atom != l.atom)))), (22, .bool tu), (48, .bool ((mOk p.r l.l (mTo p.l l.r st))))]) ⟨rfl, rfl, rfl, rfl, rfl, rfl, rfl, rfl, rfl, rfl, rfl, trivial⟩ ?_)
            refine WE.next ?_
            refine WC.ret ?_
            refine WE.ret1 rfl rfl ?_
            have htu9 : tu = true := by simpa using h26
            have hsm : p.neg = l.neg ∧ p.atom = l.atom := by have z := h24; simp at z; exact z
            have hfin := lOk_no3 (p := p) (l := l) (b := tu) (st := st) (by rw [htu9]; exact Bool.eq_false_iff.1 h56)
            have hs64 : Chg ((fun b => b = g)) w53 w58 := (Chg.trans2 (Chg.refl ((fun b => b = g)) _) (Chg.ofUpd (S := fun k => k = g) hu59 rfl) (fun i h1 h2 => by first | exact h2 | exact .inl h2 | exact .inr h2 | exact .inr (.inl h2) | exact .inr (.inr h2) | ((try dsimp only at *); omega)))
            have hs65 : Chg ((Since w28 D)) w28 w53 := (Chg.trans2 (Chg.trans2 (Chg.refl ((Since w28 D)) _) hc45 (fun i h1 h2 => by first | exact h2 | exact .inl h2 | exact .inr h2 | exact .inr (.inl h2) | exact .inr (.inr h2) | ((try dsimp only at *); omega))) hc52 (fun i h1 h2 => by first | exact h2 | exact .inl h2 | exact .inr h2 | exact .inr (.inl h2) | exact .inr (.inr h2) | ((try dsimp only at *); omega)))
            have hcS := hs64
            have hRb := hR2.cut st.length hmt.1 hB60 hcS
            rw [hmt.2.2] at hRb
            have hc0 := hs65
            exact ⟨_, rfl, ⟨D2, congrArg Value.bool hfin.1.symm, by rw [hfin.2]; exact ⟨_, _, hRb⟩, fun b q => (hD2 b q).imp id (fun q => by have z := (hb33).size; omega)⟩, (chg_since hb33 hc0).trans2 hcS (fun b _ e => e ▸ hR.dg)⟩
        · refine WL.sub (K' := [(0, .pointer (some ⟨g, 0, none⟩)), (1, .agg #[.bool p.neg, .int .i64 p.l.f, .slice a1 p.l.args.length c1, .int .i64 p.r.f, .slice a2 p.r.args.length c2]), (2, .agg #[.bool l.neg, .int .i64 l.l.f, .slice a3 l.l.args.length c3, .int .i64 l.r.f, .slice a4 l.r.args.length c4]), (3, .bool tu), (5, .pointer (some ⟨g2, 0, none⟩)), (6, .pointer (some ⟨g10, 0, none⟩)), (8, .bool false), (9, .int .i64 (((st.length : Nat) : Int))), (21, .bool (((p.neg != l.neg) || (p.atom != l.atom)))), (22, .bool tu), (35, .pointer (some ⟨g, 0, none⟩)), (36, .pointer (some ⟨g2, 1, none⟩)), (37, .agg #[.int .i64 p.l.f, .slice a1 p.l.args.length c1]), (38, .pointer (some ⟨g10, 1, none⟩)), (39, .agg #[.int .i64 l.r.f, .slice a4 l.r.args.length c4]), (40, .bool ((mOk p.l l.r st))), (41, .bool false)]) ⟨rfl, rfl, rfl, rfl, rfl, rfl, rfl, rfl, rfl, rfl, rfl, rfl, rfl, rfl, rfl, rfl, (by exact congrArg (fun z => some (Value.bool z)) h49), trivial⟩ ?_
          refine WL.skip (d := 41) rfl rfl rfl rfl rfl ?_
          refine WL.skip (d := 41) rfl rfl rfl rfl rfl ?_
          refine WL.skip (d := 41) rfl rfl rfl rfl rfl ?_
          refine WL.skip (d := 41) rfl rfl rfl rfl rfl ?_
          refine WL.skip (d := 41) rfl rfl rfl rfl rfl ?_
          refine WL.skip (d := 41) rfl rfl rfl rfl rfl ?_
          refine WL.val (.bool false) rfl rfl rfl (fun za zC zh zk => wp_pickF rfl (zh.ev rfl) (zh.ev rfl) zk) ?_
          refine WL.nil (WE.sub (K' := [(0, .pointer (some ⟨g, 0, none⟩)), (1, .agg #[.bool p.neg, .int .i64 p.l.f, .slice a1 p.l.args.length c1, .int .i64 p.r.f, .slice a2 p.r.args.length c2]), (2, .agg #[.bool l.neg, .int .i64 l.l.f, .slice a3 l.l.args.length c3, .int .i64 l.r.f, .slice a4 l.r.args.length c4]), (3, .bool tu), (5, .pointer (some ⟨g2, 0, none⟩)), (6, .pointer (some ⟨g10, 0, none⟩)), (8, .bool false), (9, .int .i64 (((st.length : Nat) : Int))), (21, .bool (((p.neg != l.neg) || (p.atom != l.atom)))), (22, .bool tu), (48, .bool false)]) ⟨rfl, rfl, rfl, rfl, rfl, rfl, rfl, rfl, rfl, rfl, rfl, trivial⟩ ?_)
          refine WE.next ?_
          refine WC.condF rfl rfl ?_
          refine WC.skip ?_
          refine WE.next ?_
          refine WC.seq ?_
          obtain ⟨D2, a9, c9, hR2, hD2⟩ := hgo44.in_
          obtain ⟨hcap3, hcap4⟩ := hR2.cap
          have hmt := mTo_take p.l l.r st
          refine WC.region ?_
          refine WL.val (.pointer (some ⟨g, 0, none⟩)) rfl rfl rfl (fun za zC zh zk => wp_move rfl (zh.ev rfl) zk) ?_
          refine WL.val (.pointer (some ⟨g, 0, none⟩)) rfl rfl rfl (fun za zC zh zk => wp_move rfl (zh.ev rfl) zk) ?_
          refine WL.val (.pointer (some ⟨g, 0, none⟩)) rfl rfl rfl (fun za zC zh zk => nilCheck_ rfl (zh.ev rfl) zk) ?_
          refine WL.val (.pointer (some ⟨g, 0, none⟩)) rfl rfl rfl (fun za zC zh zk => fld_37_0 rfl (zh.ev rfl) zk) ?_
          refine WL.val (.slice a9 ((mTo p.l l.r st).length) c9) rfl rfl rfl (fun za zC zh zk => ld_25 rfl (zh.ev rfl) ((hR2.blk.cell 0).trans rfl) zk) ?_
          refine WL.val (.int .i64 (((st.length : Nat) : Int))) rfl rfl rfl (fun za zC zh zk => wp_move rfl (zh.ev rfl) zk) ?_
          refine WL.val (.slice a9 st.length c9) rfl rfl rfl (fun za zC zh zk => shi_25 (k := st.length) rfl (zh.ev rfl) (zh.ev rfl) (by omega) zk) ?_
          refine WL.val (.pointer (some ⟨g, 0, none⟩)) rfl rfl rfl (fun za zC zh zk => nilCheck_ rfl (zh.ev rfl) zk) ?_
          refine WL.val (.pointer (some ⟨g, 0, none⟩)) rfl rfl rfl (fun za zC zh zk => fld_37_0 rfl (zh.ev rfl) zk) ?_
          refine WL.step (post := fun _ w' => Upd g w46 w' ∧ Blk w' g 37 #[.slice a9 st.length c9]) rfl rfl rfl (fun za zC zh zk => st_25 rfl (zh.ev rfl) (zh.ev rfl) hR2.blk (by first | decide | simp) (fun v => zk v _ ⟨Upd.at_ _ _ _ _, hR2.blk.set_ 0 _⟩)) ?_
          rintro v69 w66 ⟨hu67, hB68⟩
          have hB70 := upd_blk hB47 hu67 (by omega)
          have hB71 := upd_blk hB48 hu67 (by omega)
          refine WL.nil (WE.sub (K' := [(0, .pointer (some ⟨g, 0, none⟩)), (1, .agg #[.bool p.neg, .int .i64 p.l.f, .slice a1 p.l.args.length c1, .int .i64 p.r.f, .slice a2 p.r.args.length c2]), (2, .agg #[.bool l.neg, .int .i64 l.l.f, .slice a3 l.l.args.length c3, .int .i64 l.r.f, .slice a4 l.r.args.length c4]), (3, .bool tu), (5, .pointer (some ⟨g2, 0, none⟩)), (6, .pointer (some ⟨g10, 0, none⟩)), (8, .bool false), (9, .int .i64 (((st.length : Nat) : Int))), (21, .bool (((p.neg != l.neg) || (p.atom != l.atom)))), (22, .bool tu), (48, .bool false)]) ⟨rfl, rfl, rfl, rfl, rfl, rfl, rfl, rfl, rfl, rfl, rfl, trivial⟩ ?_)
          refine WE.next ?_
          refine WC.seq ?_
          refine WC.region ?_
          refine WL.val (.bool false) rfl rfl rfl (fun za zC zh zk => wp_assign rfl (zh.ev rfl) zk) ?_
          refine WL.nil (WE.sub (K' := [(0, .pointer (some ⟨g, 0, none⟩)), (1, .agg #[.bool p.neg, .int .i64 p.l.f, .slice a1 p.l.args.length c1, .int .i64 p.r.f, .slice a2 p.r.args.length c2]), (2, .agg #[.bool l.neg, .int .i64 l.l.f, .slice a3 l.l.args.length c3, .int .i64 l.r.f, .slice a4 l.r.args.length c4]), (3, .bool tu), (5, .pointer (some ⟨g2, 0, none⟩)), (6, .pointer (some ⟨g10, 0, none⟩)), (8, .bool false), (9, .int .i64 (((st.length : Nat) : Int))), (21, .bool (((p.neg != l.neg) || (p.atom != l.atom)))), (22, .bool tu), (48, .bool false)]) ⟨rfl, rfl, rfl, rfl, rfl, rfl, rfl, rfl, rfl, rfl, rfl, trivial⟩ ?_)
          refine WE.next ?_
          refine WC.ret ?_
          refine WE.ret1 rfl rfl ?_
          have htu9 : tu = true := by simpa using h26
          have hsm : p.neg = l.neg ∧ p.atom = l.atom := by have z := h24; simp at z; exact z
          have hfin := lOk_no2 (p := p) (l := l) (b := tu) (st := st) (by rw [htu9]; exact Bool.eq_false_iff.1 h49)
          have hs72 : Chg ((fun b => b = g)) w46 w66 := (Chg.trans2 (Chg.refl ((fun b => b = g)) _) (Chg.ofUpd (S := fun k => k = g) hu67 rfl) (fun i h1 h2 => by first | exact h2 | exact .inl h2 | exact .inr h2 | exact .inr (.inl h2) | exact .inr (.inr h2) | ((try dsimp only at *); omega)))
          have hs73 : Chg ((Since w28 D)) w28 w46 := (Chg.trans2 (Chg.refl ((Since w28 D)) _) hc45 (fun i h1 h2 => by first | exact h2 | exact .inl h2 | exact .inr h2 | exact .inr (.inl h2) | exact .inr (.inr h2) | ((try dsimp only at *); omega)))
          have hcS := hs72
          have hRb := hR2.cut st.length hmt.1 hB68 hcS
          rw [hmt.2.2] at hRb
          have hc0 := hs73
          exact ⟨_, rfl, ⟨D2, congrArg Value.bool hfin.1.symm, by rw [hfin.2]; exact ⟨_, _, hRb⟩, fun b q => (hD2 b q).imp id (fun q => by have z := (hb33).size; omega)⟩, (chg_since hb33 hc0).trans2 hcS (fun b _ e => e ▸ hR.dg)⟩
      · skip
        refine WC.skip ?_
        refine WE.next ?_
        refine WC.seq ?_
        refine WC.region ?_
        refine WL.val (.pointer (some ⟨g, 0, none⟩)) rfl rfl rfl (fun za zC zh zk => wp_move rfl (zh.ev rfl) zk) ?_
        refine WL.val (.pointer (some ⟨g, 0, none⟩)) rfl rfl rfl (fun za zC zh zk => nilCheck_ rfl (zh.ev rfl) zk) ?_
        refine WL.val (.pointer (some ⟨g, 0, none⟩)) rfl rfl rfl (fun za zC zh zk => fld_37_0 rfl (zh.ev rfl) zk) ?_
        have hb75 : Below w.heap.size w w22 := (bstep hb19 hb23)
        have hB74 := hR.blk.below hb75
        refine WL.val (.slice a st.length c) rfl rfl rfl (fun za zC zh zk => ld_25 rfl (zh.ev rfl) ((hB74.cell 0).trans rfl) zk) ?_
        refine WL.val (.int .i64 (((st.length : Nat) : Int))) rfl rfl rfl (fun za zC zh zk => len_25 rfl (zh.ev rfl) zk) ?_
        refine WL.val (.int .i64 (((st.length : Nat) : Int))) rfl rfl rfl (fun za zC zh zk => wp_assign rfl (zh.ev rfl) zk) ?_
        refine WL.nil (WE.sub (K' := [(0, .pointer (some ⟨g, 0, none⟩)), (1, .agg #[.bool p.neg, .int .i64 p.l.f, .slice a1 p.l.args.length c1, .int .i64 p.r.f, .slice a2 p.r.args.length c2]), (2, .agg #[.bool l.neg, .int .i64 l.l.f, .slice a3 l.l.args.length c3, .int .i64 l.r.f, .slice a4 l.r.args.length c4]), (3, .bool tu), (5, .pointer (some ⟨g2, 0, none⟩)), (6, .pointer (some ⟨g10, 0, none⟩)), (8, .bool false), (9, .int .i64 (((st.length : Nat) : Int))), (21, .bool (((p.neg != l.neg) || (p.atom != l.atom)))), (22, .bool tu)]) ⟨rfl, rfl, rfl, rfl, rfl, rfl, rfl, rfl, rfl, rfl, trivial⟩ ?_)
        refine WE.next ?_
        refine WC.seq ?_
        refine WC.seq ?_
        have hB76 := hB18.below hb23
        have hl77 : g2 < w22.heap.size := hB76.lt
        have hl78 : w.heap.size ≤ g2 := by have z : w.heap.size ≤ w.heap.size := (Nat.le_refl _); omega
        have hB79 := hB12.below hb23
        have hl80 : g10 < w22.heap.size := hB79.lt
        have hl81 : w.heap.size ≤ g10 := by have z : w.heap.size ≤ w1.heap.size := hb5.size; omega
        have hgo82 : RefGo w22 D g st w22 := RefGo.start (h0.below hb75)
        have hA1 : ∀ b, (A b ∧ b < w.heap.size) → ¬ Since w22 D b := fun b q q2 => q2.elim (hA b q.1) (fun q2 => by have z := (hb75).size; omega)
        have hpl1 := InT.mono (S' := fun b => A b ∧ b < w.heap.size) (fun b q z => ⟨q, z⟩) hpl
        have hpr1 := InT.mono (S' := fun b => A b ∧ b < w.heap.size) (fun b q z => ⟨q, z⟩) hpr
        have hll1 := InT.mono (S' := fun b => A b ∧ b < w.heap.size) (fun b q z => ⟨q, z⟩) hll
        have hlr1 := InT.mono (S' := fun b => A b ∧ b < w.heap.size) (fun b q z => ⟨q, z⟩) hlr
        refine WC.region ?_
        refine WL.val (.pointer (some ⟨g, 0, none⟩)) rfl rfl rfl (fun za zC zh zk => wp_move rfl (zh.ev rfl) zk) ?_
        refine WL.val (.pointer (some ⟨g2, 1, none⟩)) rfl rfl rfl (fun za zC zh zk => fld_41_1 rfl (zh.ev rfl) zk) ?_
        refine WL.val (.agg #[.int .i64 p.l.f, .slice a1 p.l.args.length c1]) rfl rfl rfl (fun za zC zh zk => ld_24 rfl (zh.ev rfl) ((hB76.cell 1).trans rfl) ((hB76.cell 2).trans rfl) zk) ?_
        refine WL.val (.pointer (some ⟨g10, 1, none⟩)) rfl rfl rfl (fun za zC zh zk => fld_41_1 rfl (zh.ev rfl) zk) ?_
        refine WL.val (.agg #[.int .i64 l.l.f, .slice a3 l.l.args.length c3]) rfl rfl rfl (fun za zC zh zk => ld_24 rfl (zh.ev rfl) ((hB79.cell 1).trans rfl) ((hB79.cell 2).trans rfl) zk) ?_
        have hs83 : Chg ((Since w22 D)) w22 w22 := (Chg.refl ((Since w22 D)) _)
        refine WL.call rfl rfl rfl (fun za zh zC => wp_call (by kernel_rfl) rfl (hv3 (zh.ev rfl) (zh.ev rfl) (zh.ev rfl))) (rTerm_go p.l l.l hgo82 ((hpl1.below hb75).chg hs83 hA1) ((hll1.below hb75).chg hs83 hA1) hA1 hp1 hl1 (by have z := mTo_take p.l l.l st; omega)) ?_
        rintro _ w86 ⟨⟨rfl, hgo84⟩, hc85⟩
        have hB87 := chg_blk hB76 hc85 (fun h => h.elim (fun h => by have z := hDlt _ h; (try dsimp only at *); omega) (fun h => by (try dsimp only at *); omega))
        have hB88 := chg_blk hB79 hc85 (fun h => h.elim (fun h => by have z := hDlt _ h; (try dsimp only at *); omega) (fun h => by (try dsimp only at *); omega))
        refine WL.val (.bool ((mOk p.l l.l st))) rfl rfl rfl (fun za zC zh zk => wp_move rfl (zh.ev rfl) zk) ?_
        refine bool_split ((mOk p.l l.l st)) (fun h89 => ?_) (fun h89 => ?_)
        · refine WL.sub (K' := [(0, .pointer (some ⟨g, 0, none⟩)), (1, .agg #[.bool p.neg, .int .i64 p.l.f, .slice a1 p.l.args.length c1, .int .i64 p.r.f, .slice a2 p.r.args.length c2]), (2, .agg #[.bool l.neg, .int .i64 l.l.f, .slice a3 l.l.args.length c3, .int .i64 l.r.f, .slice a4 l.r.args.length c4]), (3, .bool tu), (5, .pointer (some ⟨g2, 0, none⟩)), (6, .pointer (some ⟨g10, 0, none⟩)), (8, .bool false), (9, .int .i64 (((st.length : Nat) : Int))), (21, .bool (((p.neg != l.neg) || (p.atom != l.atom)))), (22, .bool tu), (35, .pointer (some ⟨g, 0, none⟩)), (36, .pointer (some ⟨g2, 1, none⟩)), (37, .agg #[.int .i64 p.l.f, .slice a1 p.l.args.length c1]), (38, .pointer (some ⟨g10, 1, none⟩)), (39, .agg #[.int .i64 l.l.f, .slice a3 l.l.args.length c3]), (40, .bool ((mOk p.l l.l st))), (41, .bool true)]) ⟨rfl, rfl, rfl, rfl, rfl, rfl, rfl, rfl, rfl, rfl, rfl, rfl, rfl, rfl, rfl, rfl, (by exact congrArg (fun z => some (Value.bool z)) h89), trivial⟩ ?_
          refine WL.want (d := 41) rfl rfl rfl ?_
          refine WL.val (.pointer (some ⟨g, 0, none⟩)) rfl rfl rfl (fun za zC zh zk => wp_move rfl (zh.ev rfl) zk) ?_
          refine WL.want (d := 41) rfl rfl rfl ?_
          refine WL.val (.pointer (some ⟨g2, 3, none⟩)) rfl rfl rfl (fun za zC zh zk => fld_41_2 rfl (zh.ev rfl) zk) ?_
          refine WL.want (d := 41) rfl rfl rfl ?_
          refine WL.val (.agg #[.int .i64 p.r.f, .slice a2 p.r.args.length c2]) rfl rfl rfl (fun za zC zh zk => ld_24 rfl (zh.ev rfl) ((hB87.cell 3).trans rfl) ((hB87.cell 4).trans rfl) zk) ?_
          refine WL.want (d := 41) rfl rfl rfl ?_
          refine WL.val (.pointer (some ⟨g10, 3, none⟩)) rfl rfl rfl (fun za zC zh zk => fld_41_2 rfl (zh.ev rfl) zk) ?_
          refine WL.want (d := 41) rfl rfl rfl ?_
          refine WL.val (.agg #[.int .i64 l.r.f, .slice a4 l.r.args.length c4]) rfl rfl rfl (fun za zC zh zk => ld_24 rfl (zh.ev rfl) ((hB88.cell 3).trans rfl) ((hB88.cell 4).trans rfl) zk) ?_
          refine WL.want (d := 41) rfl rfl rfl ?_
          have hs90 : Chg ((Since w22 D)) w22 w86 := (Chg.trans2 (Chg.refl ((Since w22 D)) _) hc85 (fun i h1 h2 => by first | exact h2 | exact .inl h2 | exact .inr h2 | exact .inr (.inl h2) | exact .inr (.inr h2) | ((try dsimp only at *); omega)))
          refine WL.call rfl rfl rfl (fun za zh zC => wp_call (by kernel_rfl) rfl (hv3 (zh.ev rfl) (zh.ev rfl) (zh.ev rfl))) (rTerm_go p.r l.r hgo84 ((hpr1.below hb75).chg hs90 hA1) ((hlr1.below hb75).chg hs90 hA1) hA1 hp2 hl2 (by have z := mTo_take p.l l.l st; omega)) ?_
          rintro _ w93 ⟨⟨rfl, hgo91⟩, hc92⟩
          have hB94 := chg_blk hB87 hc92 (fun h => h.elim (fun h => by have z := hDlt _ h; (try dsimp only at *); omega) (fun h => by (try dsimp only at *); omega))
          have hB95 := chg_blk hB88 hc92 (fun h => h.elim (fun h => by have z := hDlt _ h; (try dsimp only at *); omega) (fun h => by (try dsimp only at *); omega))
          refine WL.val (.bool ((mOk p.r l.r (mTo p.l l.l st)))) rfl rfl rfl (fun za zC zh zk => wp_pickT rfl (zh.ev rfl) (zh.ev rfl) zk) ?_
          refine WL.nil (WE.sub (K' := [(0, .pointer (some ⟨g, 0, none⟩)), (1, .agg #[.bool p.neg, .int .i64 p.l.f, .slice a1 p.l.args.length c1, .int .i64 p.r.f, .slice a2 p.r.args.length c2]), (2, .agg #[.bool l.neg, .int .i64 l.l.f, .slice a3 l.l.args.length c3, .int .i64 l.r.f, .slice a4 l.r.args.length c4]), (3, .bool tu), (5, .pointer (some ⟨g2, 0, none⟩)), (6, .pointer (some ⟨g10, 0, none⟩)), (8, .bool false), (9, .int .i64 (((st.length : Nat) : Int))), (21, .bool (((p.neg != l.neg) || (p.atom != l.atom)))), (22, .bool tu), (48, .bool ((mOk p.r l.r (mTo p.l l.l st))))]) ⟨rfl, rfl, rfl, rfl, rfl, rfl, rfl, rfl, rfl, rfl, rfl, trivial⟩ ?_)
          refine WE.next ?_
          refine WC.cond rfl (fun h96 => ?_) (fun h96 => ?_)
          · skip
            refine WC.seq ?_
            refine WC.region ?_
            refine WL.val (.bool true) rfl rfl rfl (fun za zC zh zk => wp_assign rfl (zh.ev rfl) zk) ?_
            refine WL.nil (WE.sub (K' := [(0, .pointer (some ⟨g, 0, none⟩)), (1, .agg #[.bool p.neg, .int .i64 p.l.f, .slice a1 p.l.args.length c1, .int .i64 p.r.f, .slice a2 p.r.args.length c2]), (2, .agg #[.bool l.neg, .int .i64 l.l.f, .slice a3 l.l.args.length c3, .int .i64 l.r.f, .slice a4 l.r.args.length c4]), (3, .bool tu), (5, .pointer (some ⟨g2, 0, none⟩)), (6, .pointer (some ⟨g10, 0, none⟩)), (8, .bool true), (9, .int .i64 (((st.length : Nat) : Int))), (21, .bool (((p.neg != l.neg) || (p.atom != l.atom)))), (22, .bool tu), (48, .bool ((mOk p.r l.r (mTo p.l l.l st))))]) ⟨rfl, rfl, rfl, rfl, rfl, rfl, rfl, rfl, rfl, rfl, rfl, trivial⟩ ?_)
            refine WE.next ?_
            refine WC.ret ?_
            refine WE.thenRet ?_
            refine WE.ret1 rfl rfl ?_
            have htu9 : tu = false := by simpa using h26
            have hsm : p.neg = l.neg ∧ p.atom = l.atom := by have z := h24; simp at z; exact z
            have hs97 : Chg ((Since w22 D)) w22 w93 := (Chg.trans2 (Chg.trans2 (Chg.refl ((Since w22 D)) _) hc85 (fun i h1 h2 => by first | exact h2 | exact .inl h2 | exact .inr h2 | exact .inr (.inl h2) | exact .inr (.inr h2) | ((try dsimp only at *); omega))) hc92 (fun i h1 h2 => by first | exact h2 | exact .inl h2 | exact .inr h2 | exact .inr (.inl h2) | exact .inr (.inr h2) | ((try dsimp only at *); omega)))
            have hfin := lOk_yes (p := p) (l := l) (b := tu) (st := st) hsm (by rw [htu9]; exact h89) (by rw [htu9]; exact h96)
            rw [htu9] at hfin
            subst htu9
            exact ⟨_, rfl, by rw [hfin.1, hfin.2]; obtain ⟨C9, z1, z2⟩ := RefGo.done hgo91 hb75.size; exact ⟨C9, rfl, z1, z2⟩, chg_since hb75 hs97⟩
          · skip
            refine WC.skip ?_
            refine WE.next ?_
            refine WC.seq ?_
            obtain ⟨D2, a9, c9, hR2, hD2⟩ := hgo91.in_
            obtain ⟨hcap3, hcap4⟩ := hR2.cap
            have hmt := mTo_take p.l l.l st
            have hmt2 := mTo_no (Bool.eq_false_iff.1 h96)
            rw [hmt2] at hR2 hcap3
            refine WC.region ?_
            refine WL.val (.pointer (some ⟨g, 0, none⟩)) rfl rfl rfl (fun za zC zh zk => wp_move rfl (zh.ev rfl) zk) ?_
            refine WL.val (.pointer (some ⟨g, 0, none⟩)) rfl rfl rfl (fun za zC zh zk => wp_move rfl (zh.ev rfl) zk) ?_
            refine WL.val (.pointer (some ⟨g, 0, none⟩)) rfl rfl rfl (fun za zC zh zk => nilCheck_ rfl (zh.ev rfl) zk) ?_
            refine WL.val (.pointer (some ⟨g, 0, none⟩)) rfl rfl rfl (fun za zC zh zk => fld_37_0 rfl (zh.ev rfl) zk) ?_
            refine WL.val (.slice a9 ((mTo p.l l.l st).length) c9) rfl rfl rfl (fun za zC zh zk => ld_25 rfl (zh.ev rfl) ((hR2.blk.cell 0).trans rfl) zk) ?_
            refine WL.val (.int .i64 (((st.length : Nat) : Int))) rfl rfl rfl (fun za zC zh zk => wp_move rfl (zh.ev rfl) zk) ?_
            refine WL.val (.slice a9 st.length c9) rfl rfl rfl (fun za zC zh zk => shi_25 (k := st.length) rfl (zh.ev rfl) (zh.ev rfl) (by omega) zk) ?_
            refine WL.val (.pointer (some ⟨g, 0, none⟩)) rfl rfl rfl (fun za zC zh zk => nilCheck_ rfl (zh.ev rfl) zk) ?_
            refine WL.val (.pointer (some ⟨g, 0, none⟩)) rfl rfl rfl (fun za zC zh zk => fld_37_0 rfl (zh.ev rfl) zk) ?_
            refine WL.step (post := fun _ w' => Upd g w93 w' ∧ Blk w' g 37 #[.slice a9 st.length c9]) rfl rfl rfl (fun za zC zh zk => st_25 rfl (zh.ev rfl) (zh.ev rfl) hR2.blk (by first | decide | simp) (fun v => zk v _ ⟨Upd.at_ _ _ _ _, hR2.blk.set_ 0 _⟩)) ?_
            rintro v101 w98 ⟨hu99, hB100⟩
            have hB102 := upd_blk hB94 hu99 (by omega)
            have hB103 := upd_blk hB95 hu99 (by omega)
            refine WL.nil (WE.sub (K' := [(0, .pointer (some ⟨g, 0, none⟩)), (1, .agg #[.bool p.neg, .int .i64 p.l.f, .slice a1 p.l.args.length c1, .int .i64 p.r.f, .slice a2 p.r.args.length c2]), (2, .agg #[.bool l.neg, .int .i64 l.l.f, .slice a3 l.l.args.length c3, .int .i64 l.r.f, .slice a4 l.r.args.length c4]), (3, .bool tu), (5, .pointer (some ⟨g2, 0, none⟩)), (6, .pointer (some ⟨g10, 0, none⟩)), (8, .bool false), (9, .int .i64 (((st.length : Nat) : Int))), (21, .bool (((p.neg != l.neg) || (p.atom != l.atom)))), (22, .bool tu), (48, .bool ((mOk p.r l.r (mTo p.l l.l st))))]) ⟨rfl, rfl, rfl, rfl, rfl, rfl, rfl, rfl, rfl, rfl, rfl, trivial⟩ ?_)
            refine WE.next ?_
            refine WC.seq ?_
            refine WC.region ?_
            refine WL.val (.bool false) rfl rfl rfl (fun za zC zh zk => wp_assign rfl (zh.ev rfl) zk) ?_
            refine WL.nil (WE.sub (K' := [(0, .pointer (some ⟨g, 0, none⟩)), (1, .agg #[.bool p.neg, .int .i64 p.l.f, .slice a1 p.l.args.length c1, .int .i64 p.r.f, .slice a2 p.r.args.length c2]), (2, .agg #[.bool l.neg, .int .i64 l.l.f, .slice a3 l.l.args.length c3, .int .i64 l.r.f, .slice a4 l.r.args.length c4]), (3, .bool tu), (5, .pointer (some ⟨g2, 0, none⟩)), (6, .pointer (some ⟨g10, 0, none⟩)), (8, .bool false), (9, .int .i64 (((st.length : Nat) : Int))), (21, .bool (((p.neg != l.neg) || (p.atom != l.atom)))), (22, .bool tu), (48, .bool ((mOk p.r l.r (mTo p.l l.l st))))]) ⟨rfl, rfl, rfl, rfl, rfl, rfl, rfl, rfl, rfl, rfl, rfl, trivial⟩ ?_)
            refine WE.next ?_
            refine WC.ret ?_
            refine WE.ret1 rfl rfl ?_
            have htu9 : tu = false := by simpa using h26
            have hsm : p.neg = l.neg ∧ p.atom = l.atom := by have z := h24; simp at z; exact z
            have hfin := lOk_no3 (p := p) (l := l) (b := tu) (st := st) (by rw [htu9]; exact Bool.eq_false_iff.1 h96)
            have hs104 : Chg ((fun b => b = g)) w93 w98 := (Chg.trans2 (Chg.refl ((fun b => b = g)) _) (Chg.ofUpd (S := fun k => k = g) hu99 rfl) (fun i h1 h2 => by first | exact h2 | exact .inl h2 | exact .inr h2 | exact .inr (.inl h2) | exact .inr (.inr h2) | ((try dsimp only at *); omega)))
            have hs105 : Chg ((Since w22 D)) w22 w93 := (Chg.trans2 (Chg.trans2 (Chg.refl ((Since w22 D)) _) hc85 (fun i h1 h2 => by first | exact h2 | exact .inl h2 | exact .inr h2 | exact .inr (.inl h2) | exact .inr (.inr h2) | ((try dsimp only at *); omega))) hc92 (fun i h1 h2 => by first | exact h2 | exact .inl h2 | exact .inr h2 | exact .inr (.inl h2) | exact .inr (.inr h2) | ((try dsimp only at *); omega)))
            have hcS := hs104
            have hRb := hR2.cut st.length hmt.1 hB100 hcS
            rw [hmt.2.2] at hRb
            have hc0 := hs105
            exact ⟨_, rfl, ⟨D2, congrArg Value.bool hfin.1.symm, by rw [hfin.2]; exact ⟨_, _, hRb⟩, fun b q => (hD2 b q).imp id (fun q => by have z := (hb75).size; omega)⟩, (chg_since hb75 hc0).trans2 hcS (fun b _ e => e ▸ hR.dg)⟩
        · refine WL.sub (K' := [(0, .pointer (some ⟨g, 0, none⟩)), (1, .agg #[.bool p.neg, .int .i64 p.l.f, .slice a1 p.l.args.length c1, .int .i64 p.r.f, .slice a2 p.r.args.length c2]), (2, .agg #[.bool l.neg, .int .i64 l.l.f, .slice a3 l.l.args.length c3, .int .i64 l.r.f, .slice a4 l.r.args.length c4]), (3, .bool tu), (5, .pointer (some ⟨g2, 0, none⟩)), (6, .pointer (some ⟨g10, 0, none⟩)), (8, .bool false), (9, .int .i64 (((st.length : Nat) : Int))), (21, .bool (((p.neg != l.neg) || (p.atom != l.atom)))), (22, .bool tu), (35, .pointer (some ⟨g, 0, none⟩)), (36, .pointer (some ⟨g2, 1, none⟩)), (37, .agg #[.int .i64 p.l.f, .slice a1 p.l.args.length c1]), (38, .pointer (some ⟨g10, 1, none⟩)), (39, .agg #[.int .i64 l.l.f, .slice a3 l.l.args.length c3]), (40, .bool ((mOk p.l l.l st))), (41, .bool false)]) ⟨rfl, rfl, rfl, rfl, rfl, rfl, rfl, rfl, rfl, rfl, rfl, rfl, rfl, rfl, rfl, rfl, (by exact congrArg (fun z => some (Value.bool z)) h89), trivial⟩ ?_
          refine WL.skip (d := 41) rfl rfl rfl rfl rfl ?_
          refine WL.skip (d := 41) rfl rfl rfl rfl rfl ?_
          refine WL.skip (d := 41) rfl rfl rfl rfl rfl ?_
          refine WL.skip (d := 41) rfl rfl rfl rfl rfl ?_
          refine WL.skip (d := 41) rfl rfl rfl rfl rfl ?_
          refine WL.skip (d := 41) rfl rfl rfl rfl rfl ?_
          refine WL.val (.bool false) rfl rfl rfl (fun za zC zh zk => wp_pickF rfl (zh.ev rfl) (zh.ev rfl) zk) ?_
          refine WL.nil (WE.sub (K' := [(0, .pointer (some ⟨g, 0, none⟩)), (1, .agg #[.bool p.neg, .int .i64 p.l.f, .slice a1 p.l.args.length c1, .int .i64 p.r.f, .slice a2 p.r.args.length c2]), (2, .agg #[.bool l.neg, .int .i64 l.l.f, .slice a3 l.l.args.length c3, .int .i64 l.r.f, .slice a4 l.r.args.length c4]), (3, .bool tu), (5, .pointer (some ⟨g2, 0, none⟩)), (6, .pointer (some ⟨g10, 0, none⟩)), (8, .bool false), (9, .int .i64 (((st.length : Nat) : Int))), (21, .bool (((p.neg != l.neg) || (p.atom != l.atom)))), (22, .bool tu), (48, .bool false)]) ⟨rfl, rfl, rfl, rfl, rfl, rfl, rfl, rfl, rfl, rfl, rfl, trivial⟩ ?_)
          refine WE.next ?_
          refine WC.condF rfl rfl ?_
          refine WC.skip ?_
          refine WE.next ?_
          refine WC.seq ?_
          obtain ⟨D2, a9, c9, hR2, hD2⟩ := hgo84.in_
          obtain ⟨hcap3, hcap4⟩ := hR2.cap
          have hmt := mTo_take p.l l.l st
          refine WC.region ?_
          refine WL.val (.pointer (some ⟨g, 0, none⟩)) rfl rfl rfl (fun za zC zh zk => wp_move rfl (zh.ev rfl) zk) ?_
          refine WL.val (.pointer (some ⟨g, 0, none⟩)) rfl rfl rfl (fun za zC zh zk => wp_move rfl (zh.ev rfl) zk) ?_
          refine WL.val (.pointer (some ⟨g, 0, none⟩)) rfl rfl rfl (fun za zC zh zk => nilCheck_ rfl (zh.ev rfl) zk) ?_
          refine WL.val (.pointer (some ⟨g, 0, none⟩)) rfl rfl rfl (fun za zC zh zk => fld_37_0 rfl (zh.ev rfl) zk) ?_
          refine WL.val (.slice a9 ((mTo p.l l.l st).length) c9) rfl rfl rfl (fun za zC zh zk => ld_25 rfl (zh.ev rfl) ((hR2.blk.cell 0).trans rfl) zk) ?_
          refine WL.val (.int .i64 (((st.length : Nat) : Int))) rfl rfl rfl (fun za zC zh zk => wp_move rfl (zh.ev rfl) zk) ?_
          refine WL.val (.slice a9 st.length c9) rfl rfl rfl (fun za zC zh zk => shi_25 (k := st.length) rfl (zh.ev rfl) (zh.ev rfl) (by omega) zk) ?_
          refine WL.val (.pointer (some ⟨g, 0, none⟩)) rfl rfl rfl (fun za zC zh zk => nilCheck_ rfl (zh.ev rfl) zk) ?_
          refine WL.val (.pointer (some ⟨g, 0, none⟩)) rfl rfl rfl (fun za zC zh zk => fld_37_0 rfl (zh.ev rfl) zk) ?_
          refine WL.step (post := fun _ w' => Upd g w86 w' ∧ Blk w' g 37 #[.slice a9 st.length c9]) rfl rfl rfl (fun za zC zh zk => st_25 rfl (zh.ev rfl) (zh.ev rfl) hR2.blk (by first | decide | simp) (fun v => zk v _ ⟨Upd.at_ _ _ _ _, hR2.blk.set_ 0 _⟩)) ?_
          rintro v109 w106 ⟨hu107, hB108⟩
          have hB110 := upd_blk hB87 hu107 (by omega)
          have hB111 := upd_blk hB88 hu107 (by omega)
          refine WL.nil (WE.sub (K' := [(0, .pointer (some ⟨g, 0, none⟩)), (1, .agg #[.bool p.neg, .int .i64 p.l.f, .slice a1 p.l.args.length c1, .int .i64 p.r.f, .slice a2 p.r.args.length c2]), (2, .agg #[.bool l.neg, .int .i64 l.l.f, .slice a3 l.l.args.length c3, .int .i64 l.r.f, .slice a4 l.r.args.length c4]), (3, .bool tu), (5, .pointer (some ⟨g2, 0, none⟩)), (6, .pointer (some ⟨g10, 0, none⟩)), (8, .bool false), (9, .int .i64 (((st.length : Nat) : Int))), (21, .bool (((p.neg != l.neg) || (p.atom != l.atom)))), (22, .bool tu), (48, .bool false)]) ⟨rfl, rfl, rfl, rfl, rfl, rfl, rfl, rfl, rfl, rfl, rfl, trivial⟩ ?_)
          refine WE.next ?_
          refine WC.seq ?_
          refine WC.region ?_
          refine WL.val (.bool false) rfl rfl rfl (fun za zC zh zk => wp_assign rfl (zh.ev rfl) zk) ?_
          refine WL.nil (WE.sub (K' := [(0, .pointer (some ⟨g, 0, none⟩)), (1, .agg #[.bool p.neg, .int .i64 p.l.f, .slice a1 p.l.args.length c1, .int .i64 p.r.f, .slice a2 p.r.args.length c2]), (2, .agg #[.bool l.neg, .int .i64 l.l.f, .slice a3 l.l.args.length c3, .int .i64 l.r.f, .slice a4 l.r.args.length c4]), (3, .bool tu), (5, .pointer (some ⟨g2, 0, none⟩)), (6, .pointer (some ⟨g10, 0, none⟩)), (8, .bool false), (9, .int .i64 (((st.length : Nat) : Int))), (21, .bool (((p.neg != l.neg) || (p.atom != l.atom)))), (22, .bool tu), (48, .bool false)]) ⟨rfl, rfl, rfl, rfl, rfl, rfl, rfl, rfl, rfl, rfl, rfl, trivial⟩ ?_)
          refine WE.next ?_
          refine WC.ret ?_
          refine WE.ret1 rfl rfl ?_
          have htu9 : tu = false := by simpa using h26
          have hsm : p.neg = l.neg ∧ p.atom = l.atom := by have z := h24; simp at z; exact z
          have hfin := lOk_no2 (p := p) (l := l) (b := tu) (st := st) (by rw [htu9]; exact Bool.eq_false_iff.1 h89)
          have hs112 : Chg ((fun b => b = g)) w86 w106 := (Chg.trans2 (Chg.refl ((fun b => b = g)) _) (Chg.ofUpd (S := fun k => k = g) hu107 rfl) (fun i h1 h2 => by first | exact h2 | exact .inl h2 | exact .inr h2 | exact .inr (.inl h2) | exact .inr (.inr h2) | ((try dsimp only at *); omega)))
          have hs113 : Chg ((Since w22 D)) w22 w86 := (Chg.trans2 (Chg.refl ((Since w22 D)) _) hc85 (fun i h1 h2 => by first | exact h2 | exact .inl h2 | exact .inr h2 | exact .inr (.inl h2) | exact .inr (.inr h2) | ((try dsimp only at *); omega)))
          have hcS := hs112
          have hRb := hR2.cut st.length hmt.1 hB108 hcS
          rw [hmt.2.2] at hRb
          have hc0 := hs113
          exact ⟨_, rfl, ⟨D2, congrArg Value.bool hfin.1.symm, by rw [hfin.2]; exact ⟨_, _, hRb⟩, fun b q => (hD2 b q).imp id (fun q => by have z := (hb75).size; omega)⟩, (chg_since hb75 hc0).trans2 hcS (fun b _ e => e ▸ hR.dg)⟩

end Go.Proofs.Ytcmfjnadjddboaa
