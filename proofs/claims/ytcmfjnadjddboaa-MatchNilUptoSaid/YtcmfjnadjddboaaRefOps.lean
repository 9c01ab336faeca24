/- The document's matcher: terms, literals, marks. -/
import Derived.Test.YtcmfjnadjddboaaRefTermWalk
namespace Go.Proofs.Ytcmfjnadjddboaa
open Go.RowKit Go

set_option maxRecDepth 100000 in
theorem rmark_any {g : Nat} {st : List Bd} {D : Nat → Prop} (w : World) (h : RefAt w g st D) : Calls Try.prog 22 #[.pointer (some ⟨g, 0, none⟩)] w (Ret fun v' w' => v' = .int .i64 (st.length : Nat) ∧ Below w.heap.size w w') := by
  obtain ⟨a, c, hR⟩ := h
  refine Calls.walk (l := [.pointer (some ⟨g, 0, none⟩)]) Try.func22 rfl (by kernel_rfl) ?_
  refine WC.sub (K' := [(0, .pointer (some ⟨g, 0, none⟩))]) ⟨rfl, trivial⟩ ?_
  refine WC.seq ?_
  refine WC.region ?_
  refine WL.val (.int .i64 0) rfl rfl rfl (fun za zC zh zk => wp_assign rfl (zh.ev rfl) zk) ?_
  refine WL.nil (WE.sub (K' := [(0, .pointer (some ⟨g, 0, none⟩)), (2, .int .i64 0)]) ⟨rfl, rfl, trivial⟩ ?_)
  refine WE.next ?_
  refine WC.seq ?_
  refine WC.region ?_
  refine WL.val (.pointer (some ⟨g, 0, none⟩)) rfl rfl rfl (fun za zC zh zk => wp_move rfl (zh.ev rfl) zk) ?_
  refine WL.val (.pointer (some ⟨g, 0, none⟩)) rfl rfl rfl (fun za zC zh zk => nilCheck_ rfl (zh.ev rfl) zk) ?_
  refine WL.val (.pointer (some ⟨g, 0, none⟩)) rfl rfl rfl (fun za zC zh zk => fld_37_0 rfl (zh.ev rfl) zk) ?_
  refine WL.val (.slice a st.length c) rfl rfl rfl (fun za zC zh zk => ld_25 rfl (zh.ev rfl) ((hR.blk.cell 0).trans rfl) zk) ?_
  refine WL.val (.int .i64 (((st.length : Nat) : Int))) rfl rfl rfl (fun za zC zh zk => len_25 rfl (zh.ev rfl) zk) ?_
  refine WL.val (.int .i64 (((st.length : Nat) : Int))) rfl rfl rfl (fun za zC zh zk => wp_assign rfl (zh.ev rfl) zk) ?_
  refine WL.nil (WE.sub (K' := [(0, .pointer (some ⟨g, 0, none⟩)), (2, .int .i64 (((st.length : Nat) : Int)))]) ⟨rfl, rfl, trivial⟩ ?_)
  refine WE.next ?_
  refine WC.ret ?_
  refine WE.ret1 rfl rfl ?_
  exact ⟨_, rfl, rfl, (Below.refl _ _)⟩

set_option maxRecDepth 100000 in
theorem rback_any {g : Nat} {st : List Bd} {D : Nat → Prop} (m : Int) (w : World) (h : RefAt w g st D) : Calls Try.prog 20 #[.pointer (some ⟨g, 0, none⟩), .int .i64 m] w (Ret fun v' w' => RefAt w' g (backTo st m) D ∧ Chg D w w') := by
  have h0 := h
  obtain ⟨a, c, hR⟩ := h
  have hgl := hR.blk.lt
  obtain ⟨hcap1, hcap2⟩ := hR.cap
  unfold maxLen at hcap2
  refine Calls.walk (l := [.pointer (some ⟨g, 0, none⟩), .int .i64 m]) Try.func20 rfl (by kernel_rfl) ?_
  refine WC.sub (K' := [(0, .pointer (some ⟨g, 0, none⟩)), (1, .int .i64 m)]) ⟨rfl, rfl, trivial⟩ ?_
  refine WC.seq ?_
  refine WC.opt [(true, .val (.int .i64 m)), (true, .val (.bool ((decide ((0 : Int) ≤ (m : Int)))))), (true, .val (.bool ((decide ((0 : Int) ≤ (m : Int)))))), ((true && (decide ((0 : Int) ≤ (m : Int)))), .val (.int .i64 m)), ((true && (decide ((0 : Int) ≤ (m : Int)))), .val (.pointer (some ⟨g, 0, none⟩))), ((true && (decide ((0 : Int) ≤ (m : Int)))), .val (.pointer (some ⟨g, 0, none⟩))), ((true && (decide ((0 : Int) ≤ (m : Int)))), .val (.pointer (some ⟨g, 0, none⟩))), ((true && (decide ((0 : Int) ≤ (m : Int)))), .val (.slice a st.length c)), ((true && (decide ((0 : Int) ≤ (m : Int)))), .val (.int .i64 (((st.length : Nat) : Int)))), ((true && (decide ((0 : Int) ≤ (m : Int)))), .val (.bool ((decide ((m : Int) ≤ (((st.length : Nat) : Int) : Int)))))), (true, .val (.bool (((decide ((0 : Int) ≤ (m : Int))) && (decide ((m : Int) ≤ (((st.length : Nat) : Int) : Int)))))))] [(0, .pointer (some ⟨g, 0, none⟩)), (1, .int .i64 m)] ⟨rfl, rfl, trivial⟩ (by kernel_rfl) (by kernel_rfl) (by kernel_rfl) ?_ ?_
  · refine ⟨⟨true, .none rfl, fun h w => optUndef h, fun zβ za zw zc => ?_⟩, ?_⟩
    · exact wp_move rfl (zc.kn.ev rfl) ⟨_, rfl, Below.refl _ _, optDef zβ rfl⟩
    refine ⟨⟨true, .none rfl, fun h w => optUndef h, fun zβ za zw zc => ?_⟩, ?_⟩
    · exact geq_3 rfl ((show za.eval (.tmp 4) = za.tmps.getD 4 undef from rfl).trans (optVal (zc.dep 0 4 (by kernel_rfl)) rfl rfl)) (zc.kn.ev rfl) ⟨_, rfl, Below.refl _ _, optDef zβ rfl⟩
    refine ⟨⟨true, .none rfl, fun h w => optUndef h, fun zβ za zw zc => ?_⟩, ?_⟩
    · exact wp_move rfl ((show za.eval (.tmp 5) = za.tmps.getD 5 undef from rfl).trans (optVal (zc.dep 1 5 (by kernel_rfl)) rfl rfl)) ⟨_, rfl, Below.refl _ _, optDef zβ rfl⟩
    refine ⟨⟨(true && (decide ((0 : Int) ≤ (m : Int)))), .yes (c := (decide ((0 : Int) ≤ (m : Int)))) (d := true) rfl (fun v w h => h), fun h w => optUndef h, fun zβ za zw zc => ?_⟩, ?_⟩
    · exact wp_move rfl (zc.kn.ev rfl) ⟨_, rfl, Below.refl _ _, optDef zβ rfl⟩
    refine ⟨⟨(true && (decide ((0 : Int) ≤ (m : Int)))), .yes (c := (decide ((0 : Int) ≤ (m : Int)))) (d := true) rfl (fun v w h => h), fun h w => optUndef h, fun zβ za zw zc => ?_⟩, ?_⟩
    · exact wp_move rfl (zc.kn.ev rfl) ⟨_, rfl, Below.refl _ _, optDef zβ rfl⟩
    refine ⟨⟨(true && (decide ((0 : Int) ≤ (m : Int)))), .yes (c := (decide ((0 : Int) ≤ (m : Int)))) (d := true) rfl (fun v w h => h), fun h w => optUndef h, fun zβ za zw zc => ?_⟩, ?_⟩
    · exact nilCheck_ rfl ((show za.eval (.tmp 8) = za.tmps.getD 8 undef from rfl).trans (optVal (zc.dep 4 8 (by kernel_rfl)) rfl zβ)) ⟨_, rfl, Below.refl _ _, optDef zβ rfl⟩
    refine ⟨⟨(true && (decide ((0 : Int) ≤ (m : Int)))), .yes (c := (decide ((0 : Int) ≤ (m : Int)))) (d := true) rfl (fun v w h => h), fun h w => optUndef h, fun zβ za zw zc => ?_⟩, ?_⟩
    · exact fld_37_0 rfl ((show za.eval (.tmp 9) = za.tmps.getD 9 undef from rfl).trans (optVal (zc.dep 5 9 (by kernel_rfl)) rfl zβ)) ⟨_, rfl, Below.refl _ _, optDef zβ rfl⟩
    refine ⟨⟨(true && (decide ((0 : Int) ≤ (m : Int)))), .yes (c := (decide ((0 : Int) ≤ (m : Int)))) (d := true) rfl (fun v w h => h), fun h w => optUndef h, fun zβ za zw zc => ?_⟩, ?_⟩
    · exact ld_25 rfl ((show za.eval (.tmp 10) = za.tmps.getD 10 undef from rfl).trans (optVal (zc.dep 6 10 (by kernel_rfl)) rfl zβ)) (bkeeps zc.below _ _ ((hR.blk.cell 0).trans rfl)) ⟨_, rfl, Below.refl _ _, optDef zβ rfl⟩
    refine ⟨⟨(true && (decide ((0 : Int) ≤ (m : Int)))), .yes (c := (decide ((0 : Int) ≤ (m : Int)))) (d := true) rfl (fun v w h => h), fun h w => optUndef h, fun zβ za zw zc => ?_⟩, ?_⟩
    · exact len_25 rfl ((show za.eval (.tmp 11) = za.tmps.getD 11 undef from rfl).trans (optVal (zc.dep 7 11 (by kernel_rfl)) rfl zβ)) ⟨_, rfl, Below.refl _ _, optDef zβ rfl⟩
    refine ⟨⟨(true && (decide ((0 : Int) ≤ (m : Int)))), .yes (c := (decide ((0 : Int) ≤ (m : Int)))) (d := true) rfl (fun v w h => h), fun h w => optUndef h, fun zβ za zw zc => ?_⟩, ?_⟩
    · exact leq_3 rfl ((show za.eval (.tmp 7) = za.tmps.getD 7 undef from rfl).trans (optVal (zc.dep 3 7 (by kernel_rfl)) rfl zβ)) ((show za.eval (.tmp 12) = za.tmps.getD 12 undef from rfl).trans (optVal (zc.dep 8 12 (by kernel_rfl)) rfl zβ)) ⟨_, rfl, Below.refl _ _, optDef zβ rfl⟩
    refine ⟨⟨true, .none rfl, fun h w => optUndef h, fun zβ za zw zc => ?_⟩, ?_⟩
    · exact wp_and rfl ((show za.eval (.tmp 6) = za.tmps.getD 6 undef from rfl).trans (optVal (zc.dep 2 6 (by kernel_rfl)) rfl rfl)) (fun hp => ((show za.eval (.tmp 13) = za.tmps.getD 13 undef from rfl).trans (optVal (zc.dep 9 13 (by kernel_rfl)) rfl (bMk zβ hp)))) ⟨_, rfl, Below.refl _ _, optDef zβ rfl⟩
    exact trivial
  · intro za w1 zh hb2 zu
    have zh := zh.cons (d := 14) (v := .bool (((decide ((0 : Int) ≤ (m : Int))) && (decide ((m : Int) ≤ (((st.length : Nat) : Int) : Int)))))) (optVal (zu 10 14 (by kernel_rfl)) rfl rfl)
    clear zu
    refine (show WE _ [(0, .pointer (some ⟨g, 0, none⟩)), (1, .int .i64 m), (14, .bool (((decide ((0 : Int) ≤ (m : Int))) && (decide ((m : Int) ≤ (((st.length : Nat) : Int) : Int))))))] w1 _ .normal from ?_) za (zh.sub ⟨rfl, rfl, rfl, trivial⟩)
    refine WE.next ?_
    refine WC.cond rfl (fun h3 => ?_) (fun h3 => ?_)
    · have h3 : ((0 : Int) ≤ (m : Int)) ∧ ((m : Int) ≤ (((st.length : Nat) : Int) : Int)) := by simpa using h3
      obtain ⟨mk, rfl⟩ : ∃ k : Nat, m = k := ⟨m.toNat, by omega⟩
      have hmk : mk ≤ st.length := by omega
      refine WC.region ?_
      refine WL.val (.pointer (some ⟨g, 0, none⟩)) rfl rfl rfl (fun za zC zh zk => wp_move rfl (zh.ev rfl) zk) ?_
      refine WL.val (.pointer (some ⟨g, 0, none⟩)) rfl rfl rfl (fun za zC zh zk => wp_move rfl (zh.ev rfl) zk) ?_
      refine WL.val (.pointer (some ⟨g, 0, none⟩)) rfl rfl rfl (fun za zC zh zk => nilCheck_ rfl (zh.ev rfl) zk) ?_
      refine WL.val (.pointer (some ⟨g, 0, none⟩)) rfl rfl rfl (fun za zC zh zk => fld_37_0 rfl (zh.ev rfl) zk) ?_
      have hB4 := hR.blk.below hb2
      refine WL.val (.slice a st.length c) rfl rfl rfl (fun za zC zh zk => ld_25 rfl (zh.ev rfl) ((hB4.cell 0).trans rfl) zk) ?_
      refine WL.val (.int .i64 (((mk : Nat) : Int))) rfl rfl rfl (fun za zC zh zk => wp_move rfl (zh.ev rfl) zk) ?_
      refine WL.val (.slice a mk c) rfl rfl rfl (fun za zC zh zk => shi_25 (k := mk) rfl (zh.ev rfl) (zh.ev rfl) (by omega) zk) ?_
      refine WL.val (.pointer (some ⟨g, 0, none⟩)) rfl rfl rfl (fun za zC zh zk => nilCheck_ rfl (zh.ev rfl) zk) ?_
      refine WL.val (.pointer (some ⟨g, 0, none⟩)) rfl rfl rfl (fun za zC zh zk => fld_37_0 rfl (zh.ev rfl) zk) ?_
      refine WL.step (post := fun _ w' => Upd g w1 w' ∧ Blk w' g 37 #[.slice a mk c]) rfl rfl rfl (fun za zC zh zk => st_25 rfl (zh.ev rfl) (zh.ev rfl) hB4 (by first | decide | simp) (fun v => zk v _ ⟨Upd.at_ _ _ _ _, hB4.set_ 0 _⟩)) ?_
      rintro v8 w5 ⟨hu6, hB7⟩
      refine WL.nil (WE.sub (K' := [(0, .pointer (some ⟨g, 0, none⟩)), (1, .int .i64 (((mk : Nat) : Int))), (14, .bool (((decide ((0 : Int) ≤ ((mk : Int) : Int))) && (decide (((mk : Int) : Int) ≤ (((st.length : Nat) : Int) : Int))))))]) ⟨rfl, rfl, rfl, trivial⟩ ?_)
      refine WE.end0 rfl ?_
      have hRb := hR.chg (S := fun _ => False) (.ofBelow hb2) (fun _ _ => id)
      have hs9 : Chg ((fun b => b = g)) w1 w5 := (Chg.trans2 (Chg.refl ((fun b => b = g)) _) (Chg.ofUpd (S := fun k => k = g) hu6 rfl) (fun i h1 h2 => by first | exact h2 | exact .inl h2 | exact .inr h2 | exact .inr (.inl h2) | exact .inr (.inr h2) | ((try dsimp only at *); omega)))
      have hs10 : Chg ((fun b => b = g)) w w5 := (Chg.trans2 (Chg.trans2 (Chg.refl ((fun b => b = g)) _) (Chg.ofBelow (S := fun k => k < 0) hb2) (fun i h1 h2 => by first | exact h2 | exact .inl h2 | exact .inr h2 | exact .inr (.inl h2) | exact .inr (.inr h2) | ((try dsimp only at *); omega))) (Chg.ofUpd (S := fun k => k = g) hu6 rfl) (fun i h1 h2 => by first | exact h2 | exact .inl h2 | exact .inr h2 | exact .inr (.inl h2) | exact .inr (.inr h2) | ((try dsimp only at *); omega)))
      exact ⟨_, rfl, by rw [backTo_nat hmk]; exact ⟨_, _, hRb.cut mk hmk hB7 hs9⟩, hs10.mono (fun b q => q ▸ hR.dg)⟩
    · have h3 : ¬ (((0 : Int) ≤ (m : Int)) ∧ ((m : Int) ≤ (((st.length : Nat) : Int) : Int))) := by simpa using h3
      refine WC.skip ?_
      refine WE.end0 rfl ?_
      exact ⟨_, rfl, by unfold backTo; rw [if_neg (by omega)]; exact h0.below hb2, .ofBelow hb2⟩

set_option maxRecDepth 100000 in
theorem rTerm_any (p t : T) {g : Nat} {st : List Bd} {D A : Nat → Prop} {w : World} {u v : Value} (h : RefAt w g st D) (hp : InT A w p u) (ht : InT A w t v) (hA : ∀ b, A b → ¬ D b) (hzp : p.size ≤ 4294967296) (hzt : t.size ≤ 4294967296) (hn : st.length + p.size ≤ 1099511627776) :
    Calls Try.prog 16 #[.pointer (some ⟨g, 0, none⟩), u, v] w (Ret fun v' w' => (∃ D', v' = .bool (mOk p t st) ∧ RefAt w' g (mTo p t st) D' ∧ ∀ b, D' b → D b ∨ w.heap.size ≤ b) ∧ Chg D w w') := by
  have h0 := h
  obtain ⟨a, c, hR⟩ := h
  have hDlt := hR.dlt
  have hgl := hR.blk.lt
  obtain ⟨hcap1, hcap2⟩ := hR.cap
  unfold maxLen at hcap2
  obtain ⟨hfp, pa0, pc0, rfl, _, _, _⟩ := hp.form
  obtain ⟨hft, ta0, tc0, rfl, _, _, _⟩ := ht.form
  refine Calls.walk (l := [.pointer (some ⟨g, 0, none⟩), .agg #[.int .i64 p.f, .slice pa0 p.args.length pc0], .agg #[.int .i64 t.f, .slice ta0 t.args.length tc0]]) Try.func16 rfl (by kernel_rfl) ?_
  refine WC.sub (K' := [(0, .pointer (some ⟨g, 0, none⟩)), (1, .agg #[.int .i64 p.f, .slice pa0 p.args.length pc0]), (2, .agg #[.int .i64 t.f, .slice ta0 t.args.length tc0])]) ⟨rfl, rfl, rfl, trivial⟩ ?_
  refine WC.seq ?_
  refine WC.region ?_
  refine WL.step (post := NewBlk w 24 #[.int .i64 p.f, .slice pa0 p.args.length pc0]) rfl rfl rfl (fun za zC zh zk => box_24 rfl (zh.ev rfl) (zk _ _ (newBlk _ _ _))) ?_
  rintro _ w1 ⟨g2, rfl, hg3, hB4, hb5, hz6⟩
  have hl7 : g < g2 := by have z1 := hR.blk.lt; omega
  have hl8 : w.heap.size ≤ g2 := by omega
  refine WL.step (post := NewBlk w1 24 #[.int .i64 t.f, .slice ta0 t.args.length tc0]) rfl rfl rfl (fun za zC zh zk => box_24 rfl (zh.ev rfl) (zk _ _ (newBlk _ _ _))) ?_
  rintro _ w9 ⟨g10, rfl, hg11, hB12, hb13, hz14⟩
  have hl15 : g < g10 := by have z1 := hR.blk.lt; have z2 := (hb5).size; omega
  have hl16 : g2 < g10 := by have z1 := hB4.lt; omega
  have hl17 : w.heap.size ≤ g10 := by have z2 := (hb5).size; omega
  refine WL.val (.bool false) rfl rfl rfl (fun za zC zh zk => wp_assign rfl (zh.ev rfl) zk) ?_
  refine WL.nil (WE.sub (K' := [(0, .pointer (some ⟨g, 0, none⟩)), (1, .agg #[.int .i64 p.f, .slice pa0 p.args.length pc0]), (2, .agg #[.int .i64 t.f, .slice ta0 t.args.length tc0]), (4, .pointer (some ⟨g2, 0, none⟩)), (5, .pointer (some ⟨g10, 0, none⟩)), (6, .bool false)]) ⟨rfl, rfl, rfl, rfl, rfl, rfl, trivial⟩ ?_)
  refine WE.next ?_
  refine WC.seq ?_
  refine WC.region ?_
  refine WL.val (.pointer (some ⟨g, 0, none⟩)) rfl rfl rfl (fun za zC zh zk => wp_move rfl (zh.ev rfl) zk) ?_
  refine WL.val (.pointer (some ⟨g, 0, none⟩)) rfl rfl rfl (fun za zC zh zk => nilCheck_ rfl (zh.ev rfl) zk) ?_
  refine WL.val (.pointer (some ⟨g, 0, none⟩)) rfl rfl rfl (fun za zC zh zk => fld_37_0 rfl (zh.ev rfl) zk) ?_
  have hb19 : Below w.heap.size w w9 := (bstep hb5 hb13)
  have hB18 := hR.blk.below hb19
  refine WL.val (.slice a st.length c) rfl rfl rfl (fun za zC zh zk => ld_25 rfl (zh.ev rfl) ((hB18.cell 0).trans rfl) zk) ?_
  refine WL.val (.int .i64 (((st.length : Nat) : Int))) rfl rfl rfl (fun za zC zh zk => len_25 rfl (zh.ev rfl) zk) ?_
  refine WL.val (.int .i64 (((st.length : Nat) : Int))) rfl rfl rfl (fun za zC zh zk => wp_assign rfl (zh.ev rfl) zk) ?_
  refine WL.nil (WE.sub (K' := [(0, .pointer (some ⟨g, 0, none⟩)), (1, .agg #[.int .i64 p.f, .slice pa0 p.args.length pc0]), (2, .agg #[.int .i64 t.f, .slice ta0 t.args.length tc0]), (4, .pointer (some ⟨g2, 0, none⟩)), (5, .pointer (some ⟨g10, 0, none⟩)), (6, .bool false), (7, .int .i64 (((st.length : Nat) : Int)))]) ⟨rfl, rfl, rfl, rfl, rfl, rfl, rfl, trivial⟩ ?_)
  refine WE.next ?_
  refine WC.seq ?_
  refine WC.seq ?_
  refine WC.region ?_
  have hB20 := hB4.below hb13
  refine WL.val (.agg #[.int .i64 p.f, .slice pa0 p.args.length pc0]) rfl rfl rfl (fun za zC zh zk => ld_24 rfl (zh.ev rfl) ((hB20.cell 0).trans rfl) ((hB20.cell 1).trans rfl) zk) ?_
  refine WL.call rfl rfl rfl (fun za zh zC => wp_call (by kernel_rfl) rfl (hv1 (zh.ev rfl))) (rplain_any p _ _ hzp (IsT.below hb19 (InT.isT hp))) ?_
  rintro _ w22 ⟨rfl, hq21⟩
  refine WL.val (.bool ((p.plain))) rfl rfl rfl (fun za zC zh zk => wp_move rfl (zh.ev rfl) zk) ?_
  refine bool_split ((p.plain)) (fun h23 => ?_) (fun h23 => ?_)
  · refine WL.sub (K' := [(0, .pointer (some ⟨g, 0, none⟩)), (1, .agg #[.int .i64 p.f, .slice pa0 p.args.length pc0]), (2, .agg #[.int .i64 t.f, .slice ta0 t.args.length tc0]), (4, .pointer (some ⟨g2, 0, none⟩)), (5, .pointer (some ⟨g10, 0, none⟩)), (6, .bool false), (7, .int .i64 (((st.length : Nat) : Int))), (13, .agg #[.int .i64 p.f, .slice pa0 p.args.length pc0]), (14, .bool ((p.plain))), (15, .bool true)]) ⟨rfl, rfl, rfl, rfl, rfl, rfl, rfl, rfl, rfl, (by exact congrArg (fun z => some (Value.bool z)) h23), trivial⟩ ?_
    refine WL.want (d := 15) rfl rfl rfl ?_
    have hB24 := hB12.below hq21
    refine WL.val (.agg #[.int .i64 t.f, .slice ta0 t.args.length tc0]) rfl rfl rfl (fun za zC zh zk => ld_24 rfl (zh.ev rfl) ((hB24.cell 0).trans rfl) ((hB24.cell 1).trans rfl) zk) ?_
    refine WL.want (d := 15) rfl rfl rfl ?_
    have hb25 : Below w.heap.size w w22 := (bstep hb19 hq21)
    refine WL.call rfl rfl rfl (fun za zh zC => wp_call (by kernel_rfl) rfl (hv1 (zh.ev rfl))) (rplain_any t _ _ hzt (IsT.below hb25 (InT.isT ht))) ?_
    rintro _ w27 ⟨rfl, hq26⟩
    refine WL.val (.bool ((t.plain))) rfl rfl rfl (fun za zC zh zk => wp_pickT rfl (zh.ev rfl) (zh.ev rfl) zk) ?_
    refine WL.val (.bool ((t.plain))) rfl rfl rfl (fun za zC zh zk => wp_move rfl (zh.ev rfl) zk) ?_
    refine bool_split ((t.plain)) (fun h28 => ?_) (fun h28 => ?_)
    · refine WL.sub (K' := [(0, .pointer (some ⟨g, 0, none⟩)), (1, .agg #[.int .i64 p.f, .slice pa0 p.args.length pc0]), (2, .agg #[.int .i64 t.f, .slice ta0 t.args.length tc0]), (4, .pointer (some ⟨g2, 0, none⟩)), (5, .pointer (some ⟨g10, 0, none⟩)), (6, .bool false), (7, .int .i64 (((st.length : Nat) : Int))), (13, .agg #[.int .i64 p.f, .slice pa0 p.args.length pc0]), (14, .bool ((p.plain))), (15, .bool true), (16, .agg #[.int .i64 t.f, .slice ta0 t.args.length tc0]), (17, .bool ((t.plain))), (18, .bool ((t.plain))), (19, .bool true)]) ⟨rfl, rfl, rfl, rfl, rfl, rfl, rfl, rfl, rfl, rfl, rfl, rfl, rfl, (by exact congrArg (fun z => some (Value.bool z)) h28), trivial⟩ ?_
      refine WL.want (d := 19) rfl rfl rfl ?_
      refine WL.val (.pointer (some ⟨g, 0, none⟩)) rfl rfl rfl (fun za zC zh zk => wp_move rfl (zh.ev rfl) zk) ?_
      refine WL.want (d := 19) rfl rfl rfl ?_
      have hb30 : Below w9.heap.size w9 w27 := (bstep hq21 hq26)
      have hB29 := hB20.below hb30
      refine WL.val (.agg #[.int .i64 p.f, .slice pa0 p.args.length pc0]) rfl rfl rfl (fun za zC zh zk => ld_24 rfl (zh.ev rfl) ((hB29.cell 0).trans rfl) ((hB29.cell 1).trans rfl) zk) ?_
      refine WL.want (d := 19) rfl rfl rfl ?_
      have hB31 := hB24.below hq26
      refine WL.val (.agg #[.int .i64 t.f, .slice ta0 t.args.length tc0]) rfl rfl rfl (fun za zC zh zk => ld_24 rfl (zh.ev rfl) ((hB31.cell 0).trans rfl) ((hB31.cell 1).trans rfl) zk) ?_
      refine WL.want (d := 19) rfl rfl rfl ?_
      have hb32 : Below w.heap.size w w27 := (bstep hb19 hb30)
      have hl33 : g2 < w27.heap.size := hB29.lt
      have hl34 : w.heap.size ≤ g2 := by have z : w.heap.size ≤ w.heap.size := (Nat.le_refl _); omega
      have hl35 : g10 < w27.heap.size := hB31.lt
      have hl36 : w.heap.size ≤ g10 := by have z : w.heap.size ≤ w1.heap.size := hb5.size; omega
      have hgo : RefGo w27 D g st w27 := RefGo.start (h0.below hb32)
      have hA1 : ∀ b, (A b ∧ b < w.heap.size) → ¬ Since w27 D b := fun b q q2 => q2.elim (hA b q.1) (fun q2 => by have z := (hb32).size; omega)
      refine WL.call rfl rfl rfl (fun za zh zC => wp_call (by kernel_rfl) rfl (hv3 (zh.ev rfl) (zh.ev rfl) (zh.ev rfl))) (rterm_go (rterm_any p) hgo ((InT.mono (S' := fun b => A b ∧ b < w.heap.size) (fun b q z => ⟨q, z⟩) hp).below hb32) ((InT.mono (S' := fun b => A b ∧ b < w.heap.size) (fun b q z => ⟨q, z⟩) ht).below hb32) hA1 hzp hzt hn) ?_
      rintro _ w37 ⟨⟨st2, rfl, hgo2, hrk⟩, hcT⟩
      have hB38 := chg_blk hB29 hcT (fun h => h.elim (fun h => by have z := hDlt _ h; (try dsimp only at *); omega) (fun h => by (try dsimp only at *); omega))
      have hB39 := chg_blk hB31 hcT (fun h => h.elim (fun h => by have z := hDlt _ h; (try dsimp only at *); omega) (fun h => by (try dsimp only at *); omega))
      obtain ⟨D2, a2, c2, hR2, hD2⟩ := hgo2.in_
      obtain ⟨hcap3, hcap4⟩ := hR2.cap
      have hrlo := hrk.lo
      refine WL.val (.bool ((mtB p t st))) rfl rfl rfl (fun za zC zh zk => wp_pickT rfl (zh.ev rfl) (zh.ev rfl) zk) ?_
      refine WL.nil (WE.sub (K' := [(0, .pointer (some ⟨g, 0, none⟩)), (1, .agg #[.int .i64 p.f, .slice pa0 p.args.length pc0]), (2, .agg #[.int .i64 t.f, .slice ta0 t.args.length tc0]), (4, .pointer (some ⟨g2, 0, none⟩)), (5, .pointer (some ⟨g10, 0, none⟩)), (6, .bool false), (7, .int .i64 (((st.length : Nat) : Int))), (24, .bool ((mtB p t st)))]) ⟨rfl, rfl, rfl, rfl, rfl, rfl, rfl, rfl, trivial⟩ ?_)
      refine WE.next ?_
      refine WC.cond rfl (fun h40 => ?_) (fun h40 => ?_)
      · skip
        refine WC.seq ?_
        refine WC.region ?_
        refine WL.val (.bool true) rfl rfl rfl (fun za zC zh zk => wp_assign rfl (zh.ev rfl) zk) ?_
        refine WL.nil (WE.sub (K' := [(0, .pointer (some ⟨g, 0, none⟩)), (1, .agg #[.int .i64 p.f, .slice pa0 p.args.length pc0]), (2, .agg #[.int .i64 t.f, .slice ta0 t.args.length tc0]), (4, .pointer (some ⟨g2, 0, none⟩)), (5, .pointer (some ⟨g10, 0, none⟩)), (6, .bool true), (7, .int .i64 (((st.length : Nat) : Int))), (24, .bool ((mtB p t st)))]) ⟨rfl, rfl, rfl, rfl, rfl, rfl, rfl, rfl, trivial⟩ ?_)
        refine WE.next ?_
        refine WC.ret ?_
        refine WE.thenRet ?_
        refine WE.ret1 rfl rfl ?_
        have hfin := fin_ok (p := p) (t := t) (st := st) (s := st2) h23 h28 (mtB_some hrk h40)
        obtain ⟨D9, z1, z2⟩ := RefGo.done (hgo2.below (Below.refl _ _)) (hb32).size
        exact ⟨_, rfl, ⟨D9, congrArg Value.bool hfin.1.symm, by rw [hfin.2]; exact z1, z2⟩, (chg_since hb32 hcT).trans (.ofBelow (Below.refl _ _))⟩
      · skip
        refine WC.skip ?_
        refine WE.next ?_
        refine WC.seq ?_
        refine WC.region ?_
        refine WL.val (.pointer (some ⟨g, 0, none⟩)) rfl rfl rfl (fun za zC zh zk => wp_move rfl (zh.ev rfl) zk) ?_
        refine WL.val (.pointer (some ⟨g, 0, none⟩)) rfl rfl rfl (fun za zC zh zk => wp_move rfl (zh.ev rfl) zk) ?_
        refine WL.val (.pointer (some ⟨g, 0, none⟩)) rfl rfl rfl (fun za zC zh zk => nilCheck_ rfl (zh.ev rfl) zk) ?_
        refine WL.val (.pointer (some ⟨g, 0, none⟩)) rfl rfl rfl (fun za zC zh zk => fld_37_0 rfl (zh.ev rfl) zk) ?_
        refine WL.val (.slice a2 st2.length c2) rfl rfl rfl (fun za zC zh zk => ld_25 rfl (zh.ev rfl) ((hR2.blk.cell 0).trans rfl) zk) ?_
        refine WL.val (.int .i64 (((st.length : Nat) : Int))) rfl rfl rfl (fun za zC zh zk => wp_move rfl (zh.ev rfl) zk) ?_
        refine WL.val (.slice a2 st.length c2) rfl rfl rfl (fun za zC zh zk => shi_25 (k := st.length) rfl (zh.ev rfl) (zh.ev rfl) (by omega) zk) ?_
        refine WL.val (.pointer (some ⟨g, 0, none⟩)) rfl rfl rfl (fun za zC zh zk => nilCheck_ rfl (zh.ev rfl) zk) ?_
        refine WL.val (.pointer (some ⟨g, 0, none⟩)) rfl rfl rfl (fun za zC zh zk => fld_37_0 rfl (zh.ev rfl) zk) ?_
        refine WL.step (post := fun _ w' => Upd g w37 w' ∧ Blk w' g 37 #[.slice a2 st.length c2]) rfl rfl rfl (fun za zC zh zk => st_25 rfl (zh.ev rfl) (zh.ev rfl) hR2.blk (by first | decide | simp) (fun v => zk v _ ⟨Upd.at_ _ _ _ _, hR2.blk.set_ 0 _⟩)) ?_
        rintro v44 w41 ⟨hu42, hB43⟩
        have hB45 := upd_blk hB38 hu42 (by omega)
        have hB46 := upd_blk hB39 hu42 (by omega)
        refine WL.nil (WE.sub (K' := [(0, .pointer (some ⟨g, 0, none⟩)), (1, .agg #[.int .i64 p.f, .slice pa0 p.args.length pc0]), (2, .agg #[.int .i64 t.f, .slice ta0 t.args.length tc0]), (4, .pointer (some ⟨g2, 0, none⟩)), (5, .pointer (some ⟨g10, 0, none⟩)), (6, .bool false), (7, .int .i64 (((st.length : Nat) : Int))), (24, .bool ((mtB p t st)))]) ⟨rfl, rfl, rfl, rfl, rfl, rfl, rfl, rfl, trivial⟩ ?_)
        refine WE.next ?_
        refine WC.seq ?_
        refine WC.region ?_
        refine WL.val (.bool false) rfl rfl rfl (fun za zC zh zk => wp_assign rfl (zh.ev rfl) zk) ?_
        refine WL.nil (WE.sub (K' := [(0, .pointer (some ⟨g, 0, none⟩)), (1, .agg #[.int .i64 p.f, .slice pa0 p.args.length pc0]), (2, .agg #[.int .i64 t.f, .slice ta0 t.args.length tc0]), (4, .pointer (some ⟨g2, 0, none⟩)), (5, .pointer (some ⟨g10, 0, none⟩)), (6, .bool false), (7, .int .i64 (((st.length : Nat) : Int))), (24, .bool ((mtB p t st)))]) ⟨rfl, rfl, rfl, rfl, rfl, rfl, rfl, rfl, trivial⟩ ?_)
        refine WE.next ?_
        refine WC.ret ?_
        refine WE.ret1 rfl rfl ?_
        have hfin := fin_no (p := p) (t := t) (st := st) h23 h28 (mtB_none (Bool.eq_false_iff.1 h40))
        have hs47 : Chg ((fun b => b = g)) w37 w41 := (Chg.trans2 (Chg.refl ((fun b => b = g)) _) (Chg.ofUpd (S := fun k => k = g) hu42 rfl) (fun i h1 h2 => by first | exact h2 | exact .inl h2 | exact .inr h2 | exact .inr (.inl h2) | exact .inr (.inr h2) | ((try dsimp only at *); omega)))
        have hcS := hs47
        have hRb := hR2.cut st.length hrlo hB43 hcS
        rw [hrk.pre] at hRb
        exact ⟨_, rfl, ⟨D2, congrArg Value.bool hfin.1.symm, by rw [hfin.2]; exact ⟨_, _, hRb⟩, fun b q => (hD2 b q).imp id (fun q => by have z := (hb32).size; omega)⟩, (chg_since hb32 hcT).trans2 hcS (fun b _ e => e ▸ hR.dg)⟩
    · refine WL.sub (K' := [(0, .pointer (some ⟨g, 0, none⟩)), (1, .agg #[.int .i64 p.f, .slice pa0 p.args.length pc0]), (2, .agg #[.int .i64 t.f, .slice ta0 t.args.length tc0]), (4, .pointer (some ⟨g2, 0, none⟩)), (5, .pointer (some ⟨g10, 0, none⟩)), (6, .bool false), (7, .int .i64 (((st.length : Nat) : Int))), (13, .agg #[.int .i64 p.f, .slice pa0 p.args.length pc0]), (14, .bool ((p.plain))), (15, .bool true), (16, .agg #[.int .i64 t.f, .slice ta0 t.args.length tc0]), (17, .bool ((t.plain))), (18, .bool ((t.plain))), (19, .bool false)]) ⟨rfl, rfl, rfl, rfl, rfl, rfl, rfl, rfl, rfl, rfl, rfl, rfl, rfl, (by exact congrArg (fun z => some (Value.bool z)) h28), trivial⟩ ?_
      refine WL.skip (d := 19) rfl rfl rfl rfl rfl ?_
      refine WL.skip (d := 19) rfl rfl rfl rfl rfl ?_
      refine WL.skip (d := 19) rfl rfl rfl rfl rfl ?_
      refine WL.skip (d := 19) rfl rfl rfl rfl rfl ?_
      refine WL.val (.bool false) rfl rfl rfl (fun za zC zh zk => wp_pickF rfl (zh.ev rfl) (zh.ev rfl) zk) ?_
      refine WL.nil (WE.sub (K' := [(0, .pointer (some ⟨g, 0, none⟩)), (1, .agg #[.int .i64 p.f, .slice pa0 p.args.length pc0]), (2, .agg #[.int .i64 t.f, .slice ta0 t.args.length tc0]), (4, .pointer (some ⟨g2, 0, none⟩)), (5, .pointer (some ⟨g10, 0, none⟩)), (6, .bool false), (7, .int .i64 (((st.length : Nat) : Int))), (24, .bool false)]) ⟨rfl, rfl, rfl, rfl, rfl, rfl, rfl, rfl, trivial⟩ ?_)
      refine WE.next ?_
      refine WC.condF rfl rfl ?_
      refine WC.skip ?_
      refine WE.next ?_
      refine WC.seq ?_
      refine WC.region ?_
      refine WL.val (.pointer (some ⟨g, 0, none⟩)) rfl rfl rfl (fun za zC zh zk => wp_move rfl (zh.ev rfl) zk) ?_
      refine WL.val (.pointer (some ⟨g, 0, none⟩)) rfl rfl rfl (fun za zC zh zk => wp_move rfl (zh.ev rfl) zk) ?_
      refine WL.val (.pointer (some ⟨g, 0, none⟩)) rfl rfl rfl (fun za zC zh zk => nilCheck_ rfl (zh.ev rfl) zk) ?_
      refine WL.val (.pointer (some ⟨g, 0, none⟩)) rfl rfl rfl (fun za zC zh zk => fld_37_0 rfl (zh.ev rfl) zk) ?_
      have hb49 : Below w9.heap.size w9 w27 := (bstep hq21 hq26)
      have hB48 := hB18.below hb49
      refine WL.val (.slice a st.length c) rfl rfl rfl (fun za zC zh zk => ld_25 rfl (zh.ev rfl) ((hB48.cell 0).trans rfl) zk) ?_
      refine WL.val (.int .i64 (((st.length : Nat) : Int))) rfl rfl rfl (fun za zC zh zk => wp_move rfl (zh.ev rfl) zk) ?_
      refine WL.val (.slice a st.length c) rfl rfl rfl (fun za zC zh zk => shi_25 (k := st.length) rfl (zh.ev rfl) (zh.ev rfl) (by omega) zk) ?_
      refine WL.val (.pointer (some ⟨g, 0, none⟩)) rfl rfl rfl (fun za zC zh zk => nilCheck_ rfl (zh.ev rfl) zk) ?_
      refine WL.val (.pointer (some ⟨g, 0, none⟩)) rfl rfl rfl (fun za zC zh zk => fld_37_0 rfl (zh.ev rfl) zk) ?_
      refine WL.step (post := fun _ w' => Upd g w27 w' ∧ Blk w' g 37 #[.slice a st.length c]) rfl rfl rfl (fun za zC zh zk => st_25 rfl (zh.ev rfl) (zh.ev rfl) hB48 (by first | decide | simp) (fun v => zk v _ ⟨Upd.at_ _ _ _ _, hB48.set_ 0 _⟩)) ?_
      rintro v53 w50 ⟨hu51, hB52⟩
      have hB54 := hB20.below hb49
      have hB55 := upd_blk hB54 hu51 (by omega)
      have hB56 := hB24.below hq26
      have hB57 := upd_blk hB56 hu51 (by omega)
      refine WL.nil (WE.sub (K' := [(0, .pointer (some ⟨g, 0, none⟩)), (1, .agg #[.int .i64 p.f, .slice pa0 p.args.length pc0]), (2, .agg #[.int .i64 t.f, .slice ta0 t.args.length tc0]), (4, .pointer (some ⟨g2, 0, none⟩)), (5, .pointer (some ⟨g10, 0, none⟩)), (6, .bool false), (7, .int .i64 (((st.length : Nat) : Int))), (24, .bool false)]) ⟨rfl, rfl, rfl, rfl, rfl, rfl, rfl, rfl, trivial⟩ ?_)
      refine WE.next ?_
      refine WC.seq ?_
      refine WC.region ?_
      refine WL.val (.bool false) rfl rfl rfl (fun za zC zh zk => wp_assign rfl (zh.ev rfl) zk) ?_
      refine WL.nil (WE.sub (K' := [(0, .pointer (some ⟨g, 0, none⟩)), (1, .agg #[.int .i64 p.f, .slice pa0 p.args.length pc0]), (2, .agg #[.int .i64 t.f, .slice ta0 t.args.length tc0]), (4, .pointer (some ⟨g2, 0, none⟩)), (5, .pointer (some ⟨g10, 0, none⟩)), (6, .bool false), (7, .int .i64 (((st.length : Nat) : Int))), (24, .bool false)]) ⟨rfl, rfl, rfl, rfl, rfl, rfl, rfl, rfl, trivial⟩ ?_)
      refine WE.next ?_
      refine WC.ret ?_
      refine WE.ret1 rfl rfl ?_
      have hfin := fin_np (p := p) (t := t) (st := st) (fun q => by have z := h28; simp [q.1, q.2] at z)
      have hb58 : Below w.heap.size w w27 := (bstep hb19 hb49)
      have hs59 : Chg ((fun b => b = g)) w27 w50 := (Chg.trans2 (Chg.refl ((fun b => b = g)) _) (Chg.ofUpd (S := fun k => k = g) hu51 rfl) (fun i h1 h2 => by first | exact h2 | exact .inl h2 | exact .inr h2 | exact .inr (.inl h2) | exact .inr (.inr h2) | ((try dsimp only at *); omega)))
      have hRb := (hR.chg (S := fun _ => False) (.ofBelow hb58) (fun _ _ => id)).cut st.length (Nat.le_refl _) hB52 hs59
      rw [List.take_length] at hRb
      have hs60 : Chg ((fun b => b = g)) w w50 := (Chg.trans2 (Chg.trans2 (Chg.refl ((fun b => b = g)) _) (Chg.ofBelow (S := fun k => k < 0) hb58) (fun i h1 h2 => by first | exact h2 | exact .inl h2 | exact .inr h2 | exact .inr (.inl h2) | exact .inr (.inr h2) | ((try dsimp only at *); omega))) (Chg.ofUpd (S := fun k => k = g) hu51 rfl) (fun i h1 h2 => by first | exact h2 | exact .inl h2 | exact .inr h2 | exact .inr (.inl h2) | exact .inr (.inr h2) | ((try dsimp only at *); omega)))
      exact ⟨_, rfl, ⟨D, congrArg Value.bool hfin.1.symm, by rw [hfin.2]; exact ⟨_, _, hRb⟩, fun b q => .inl q⟩, hs60.mono (fun b q => q ▸ hR.dg)⟩
  · refine WL.sub (K' := [(0, .pointer (some ⟨g, 0, none⟩)), (1, .agg #[.int .i64 p.f, .slice pa0 p.args.length pc0]), (2, .agg #[.int .i64 t.f, .slice ta0 t.args.length tc0]), (4, .pointer (some ⟨g2, 0, none⟩)), (5, .pointer (some ⟨g10, 0, none⟩)), (6, .bool false), (7, .int .i64 (((st.length : Nat) : Int))), (13, .agg #[.int .i64 p.f, .slice pa0 p.args.length pc0]), (14, .bool ((p.plain))), (15, .bool false)]) ⟨rfl, rfl, rfl, rfl, rfl, rfl, rfl, rfl, rfl, (by exact congrArg (fun z => some (Value.bool z)) h23), trivial⟩ ?_
    refine WL.skip (d := 15) rfl rfl rfl rfl rfl ?_
    refine WL.skip (d := 15) rfl rfl rfl rfl rfl ?_
    refine WL.val (.bool false) rfl rfl rfl (fun za zC zh zk => wp_pickF rfl (zh.ev rfl) (zh.ev rfl) zk) ?_
    refine WL.val (.bool false) rfl rfl rfl (fun za zC zh zk => wp_move rfl (zh.ev rfl) zk) ?_
    refine WL.skip (d := 19) rfl rfl rfl rfl rfl ?_
    refine WL.skip (d := 19) rfl rfl rfl rfl rfl ?_
    refine WL.skip (d := 19) rfl rfl rfl rfl rfl ?_
    refine WL.skip (d := 19) rfl rfl rfl rfl rfl ?_
    refine WL.val (.bool false) rfl rfl rfl (fun za zC zh zk => wp_pickF rfl (zh.ev rfl) (zh.ev rfl) zk) ?_
    refine WL.nil (WE.sub (K' := [(0, .pointer (some ⟨g, 0, none⟩)), (1, .agg #[.int .i64 p.f, .slice pa0 p.args.length pc0]), (2, .agg #[.int .i64 t.f, .slice ta0 t.args.length tc0]), (4, .pointer (some ⟨g2, 0, none⟩)), (5, .pointer (some ⟨g10, 0, none⟩)), (6, .bool false), (7, .int .i64 (((st.length : Nat) : Int))), (24, .bool false)]) ⟨rfl, rfl, rfl, rfl, rfl, rfl, rfl, rfl, trivial⟩ ?_)
    refine WE.next ?_
    refine WC.condF rfl rfl ?_
    refine WC.skip ?_
    refine WE.next ?_
    refine WC.seq ?_
    refine WC.region ?_
    refine WL.val (.pointer (some ⟨g, 0, none⟩)) rfl rfl rfl (fun za zC zh zk => wp_move rfl (zh.ev rfl) zk) ?_
    refine WL.val (.pointer (some ⟨g, 0, none⟩)) rfl rfl rfl (fun za zC zh zk => wp_move rfl (zh.ev rfl) zk) ?_
    refine WL.val (.pointer (some ⟨g, 0, none⟩)) rfl rfl rfl (fun za zC zh zk => nilCheck_ rfl (zh.ev rfl) zk) ?_
    refine WL.val (.pointer (some ⟨g, 0, none⟩)) rfl rfl rfl (fun za zC zh zk => fld_37_0 rfl (zh.ev rfl) zk) ?_
    have hB61 := hB18.below hq21
    refine WL.val (.slice a st.length c) rfl rfl rfl (fun za zC zh zk => ld_25 rfl (zh.ev rfl) ((hB61.cell 0).trans rfl) zk) ?_
    refine WL.val (.int .i64 (((st.length : Nat) : Int))) rfl rfl rfl (fun za zC zh zk => wp_move rfl (zh.ev rfl) zk) ?_
    refine WL.val (.slice a st.length c) rfl rfl rfl (fun za zC zh zk => shi_25 (k := st.length) rfl (zh.ev rfl) (zh.ev rfl) (by omega) zk) ?_
    refine WL.val (.pointer (some ⟨g, 0, none⟩)) rfl rfl rfl (fun za zC zh zk => nilCheck_ rfl (zh.ev rfl) zk) ?_
    refine WL.val (.pointer (some ⟨g, 0, none⟩)) rfl rfl rfl (fun za zC zh zk => fld_37_0 rfl (zh.ev rfl) zk) ?_
    refine WL.step (post := fun _ w' => Upd g w22 w' ∧ Blk w' g 37 #[.slice a st.length c]) rfl rfl rfl (fun za zC zh zk => st_25 rfl (zh.ev rfl) (zh.ev rfl) hB61 (by first | decide | simp) (fun v => zk v _ ⟨Upd.at_ _ _ _ _, hB61.set_ 0 _⟩)) ?_
    rintro v65 w62 ⟨hu63, hB64⟩
    have hB66 := hB20.below hq21
    have hB67 := upd_blk hB66 hu63 (by omega)
    have hB68 := hB12.below hq21
    have hB69 := upd_blk hB68 hu63 (by omega)
    refine WL.nil (WE.sub (K' := [(0, .pointer (some ⟨g, 0, none⟩)), (1, .agg #[.int .i64 p.f, .slice pa0 p.args.length pc0]), (2, .agg #[.int .i64 t.f, .slice ta0 t.args.length tc0]), (4, .pointer (some ⟨g2, 0, none⟩)), (5, .pointer (some ⟨g10, 0, none⟩)), (6, .bool false), (7, .int .i64 (((st.length : Nat) : Int))), (24, .bool false)]) ⟨rfl, rfl, rfl, rfl, rfl, rfl, rfl, rfl, trivial⟩ ?_)
    refine WE.next ?_
    refine WC.seq ?_
    refine WC.region ?_
    refine WL.val (.bool false) rfl rfl rfl (fun za zC zh zk => wp_assign rfl (zh.ev rfl) zk) ?_
    refine WL.nil (WE.sub (K' := [(0, .pointer (some ⟨g, 0, none⟩)), (1, .agg #[.int .i64 p.f, .slice pa0 p.args.length pc0]), (2, .agg #[.int .i64 t.f, .slice ta0 t.args.length tc0]), (4, .pointer (some ⟨g2, 0, none⟩)), (5, .pointer (some ⟨g10, 0, none⟩)), (6, .bool false), (7, .int .i64 (((st.length : Nat) : Int))), (24, .bool false)]) ⟨rfl, rfl, rfl, rfl, rfl, rfl, rfl, rfl, trivial⟩ ?_)
    refine WE.next ?_
    refine WC.ret ?_
    refine WE.ret1 rfl rfl ?_
    have hfin := fin_np (p := p) (t := t) (st := st) (fun q => by have z := h23; simp [q.1, q.2] at z)
    have hb70 : Below w.heap.size w w22 := (bstep hb19 hq21)
    have hs71 : Chg ((fun b => b = g)) w22 w62 := (Chg.trans2 (Chg.refl ((fun b => b = g)) _) (Chg.ofUpd (S := fun k => k = g) hu63 rfl) (fun i h1 h2 => by first | exact h2 | exact .inl h2 | exact .inr h2 | exact .inr (.inl h2) | exact .inr (.inr h2) | ((try dsimp only at *); omega)))
    have hRb := (hR.chg (S := fun _ => False) (.ofBelow hb70) (fun _ _ => id)).cut st.length (Nat.le_refl _) hB64 hs71
    rw [List.take_length] at hRb
    have hs72 : Chg ((fun b => b = g)) w w62 := (Chg.trans2 (Chg.trans2 (Chg.refl ((fun b => b = g)) _) (Chg.ofBelow (S := fun k => k < 0) hb70) (fun i h1 h2 => by first | exact h2 | exact .inl h2 | exact .inr h2 | exact .inr (.inl h2) | exact .inr (.inr h2) | ((try dsimp only at *); omega))) (Chg.ofUpd (S := fun k => k = g) hu63 rfl) (fun i h1 h2 => by first | exact h2 | exact .inl h2 | exact .inr h2 | exact .inr (.inl h2) | exact .inr (.inr h2) | ((try dsimp only at *); omega)))
    exact ⟨_, rfl, ⟨D, congrArg Value.bool hfin.1.symm, by rw [hfin.2]; exact ⟨_, _, hRb⟩, fun b q => .inl q⟩, hs72.mono (fun b q => q ▸ hR.dg)⟩

end Go.Proofs.Ytcmfjnadjddboaa
