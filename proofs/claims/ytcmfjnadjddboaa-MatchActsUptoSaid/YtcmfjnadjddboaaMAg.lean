/- The document matches a term: the program. -/
import Derived.Test.YtcmfjnadjddboaaMAe
import Derived.Test.YtcmfjnadjddboaaMAf

/- The matcher matches literals. -/
namespace Go.Proofs.Ytcmfjnadjddboaa
open Go.RowKit Go
set_option linter.unusedVariables false
set_option linter.unusedSimpArgs false

theorem inv_term (v : Value) (w : World) : (method (Try.prog.types.size + Made.depth) 33 v "Term").run Try.prog w = .ok (15, v) w := by kernel_rfl
theorem inv_mark (v : Value) (w : World) : (method (Try.prog.types.size + Made.depth) 33 v "Mark").run Try.prog w = .ok (21, v) w := by kernel_rfl
theorem inv_back (v : Value) (w : World) : (method (Try.prog.types.size + Made.depth) 33 v "Back").run Try.prog w = .ok (19, v) w := by kernel_rfl
set_option maxRecDepth 100000 in
theorem lit_any {g : Nat} {st : List Bd} {C A : Nat → Prop} (p l : Li) (tu : Bool) (w : World) (u v : Value) (h : MatAt w g st C) (hp : LiIn A w p u) (hl : LiIn A w l v) (hA : ∀ b, A b → ¬ C b) (hp1 : p.l.size ≤ 4294967296) (hp2 : p.r.size ≤ 4294967296) (hl1 : l.l.size ≤ 4294967296) (hl2 : l.r.size ≤ 4294967296) (hn : st.length + p.l.size + p.r.size ≤ 1099511627776) :
    Calls Try.prog 38 #[.iface 33 (.pointer (some ⟨g, 0, none⟩)), u, v, .bool tu] w (Ret fun v' w' => (∃ C', v' = .bool (lOk p l tu st) ∧ MatAt w' g (lTo p l tu st) C' ∧ ∀ b, C' b → C b ∨ w.heap.size ≤ b) ∧ Chg C w w') := by
  have hClt := h.clt
  obtain ⟨a1, a2, c1, c2, rfl⟩ := hp.parts
  obtain ⟨hpl, hpr⟩ := hp.two
  obtain ⟨a3, a4, c3, c4, rfl⟩ := hl.parts
  obtain ⟨hll, hlr⟩ := hl.two
  refine Calls.walk (l := [.iface 33 (.pointer (some ⟨g, 0, none⟩)), .agg #[.bool p.neg, .int .i64 p.l.f, .slice a1 p.l.args.length c1, .int .i64 p.r.f, .slice a2 p.r.args.length c2], .agg #[.bool l.neg, .int .i64 l.l.f, .slice a3 l.l.args.length c3, .int .i64 l.r.f, .slice a4 l.r.args.length c4], .bool tu]) Try.func38 rfl (by kernel_rfl) ?_
  refine WC.sub (K' := [(0, .iface 33 (.pointer (some ⟨g, 0, none⟩))), (1, .agg #[.bool p.neg, .int .i64 p.l.f, .slice a1 p.l.args.length c1, .int .i64 p.r.f, .slice a2 p.r.args.length c2]), (2, .agg #[.bool l.neg, .int .i64 l.l.f, .slice a3 l.l.args.length c3, .int .i64 l.r.f, .slice a4 l.r.args.length c4]), (3, .bool tu)]) ⟨rfl, rfl, rfl, rfl, trivial⟩ ?_
  refine WC.seq ?_
  refine WC.region ?_
  refine WL.step (post := NewBlk w 41 #[.bool p.neg, .int .i64 p.l.f, .slice a1 p.l.args.length c1, .int .i64 p.r.f, .slice a2 p.r.args.length c2]) rfl rfl rfl (fun za zC zh zk => box_41 rfl (zh.ev rfl) (zk _ _ (newBlk _ _ _))) ?_
  rintro _ w1 ⟨g2, rfl, hg3, hB4, hb5, hz6⟩
  have hl7 : w.heap.size ≤ g2 := by omega
  refine WL.step (post := NewBlk w1 41 #[.bool l.neg, .int .i64 l.l.f, .slice a3 l.l.args.length c3, .int .i64 l.r.f, .slice a4 l.r.args.length c4]) rfl rfl rfl (fun za zC zh zk => box_41 rfl (zh.ev rfl) (zk _ _ (newBlk _ _ _))) ?_
  rintro _ w8 ⟨g9, rfl, hg10, hB11, hb12, hz13⟩
  have hl14 : g2 < g9 := by have z1 := hB4.lt; omega
  have hl15 : w.heap.size ≤ g9 := by have z2 := (hb5).size; omega
  refine WL.val (.bool false) rfl rfl rfl (fun za zC zh zk => wp_assign rfl (zh.ev rfl) zk) ?_
  refine WL.nil (WE.sub (K' := [(0, .iface 33 (.pointer (some ⟨g, 0, none⟩))), (1, .agg #[.bool p.neg, .int .i64 p.l.f, .slice a1 p.l.args.length c1, .int .i64 p.r.f, .slice a2 p.r.args.length c2]), (2, .agg #[.bool l.neg, .int .i64 l.l.f, .slice a3 l.l.args.length c3, .int .i64 l.r.f, .slice a4 l.r.args.length c4]), (3, .bool tu), (5, .pointer (some ⟨g2, 0, none⟩)), (6, .pointer (some ⟨g9, 0, none⟩)), (8, .bool false)]) ⟨rfl, rfl, rfl, rfl, rfl, rfl, rfl, trivial⟩ ?_)
  refine WE.next ?_
  refine WC.seq ?_
  refine WC.seq ?_
  have hB16 := hB4.below hb12
  refine WC.opt [(true, .val (.pointer (some ⟨g2, 0, none⟩))), (true, .val (.bool p.neg)), (true, .val (.pointer (some ⟨g9, 0, none⟩))), (true, .val (.bool l.neg)), (true, .val (.bool ((p.neg != l.neg)))), (true, .val (.bool ((p.neg != l.neg)))), ((true && !(p.neg != l.neg)), .val (.bool p.atom)), ((true && !(p.neg != l.neg)), .val (.bool l.atom)), ((true && !(p.neg != l.neg)), .val (.bool ((p.atom != l.atom)))), (true, .val (.bool (((p.neg != l.neg) || (p.atom != l.atom)))))] [(0, .iface 33 (.pointer (some ⟨g, 0, none⟩))), (1, .agg #[.bool p.neg, .int .i64 p.l.f, .slice a1 p.l.args.length c1, .int .i64 p.r.f, .slice a2 p.r.args.length c2]), (2, .agg #[.bool l.neg, .int .i64 l.l.f, .slice a3 l.l.args.length c3, .int .i64 l.r.f, .slice a4 l.r.args.length c4]), (3, .bool tu), (5, .pointer (some ⟨g2, 0, none⟩)), (6, .pointer (some ⟨g9, 0, none⟩)), (8, .bool false)] ⟨rfl, rfl, rfl, rfl, rfl, rfl, rfl, trivial⟩ (by kernel_rfl) (by kernel_rfl) (by kernel_rfl) ?_ ?_
  · refine ⟨⟨true, .none rfl, fun h w => optUndef h, fun zβ za zw zc => ?_⟩, ?_⟩
    · exact fld_41_0 rfl (zc.kn.ev rfl) ⟨_, rfl, Below.refl _ _, optDef zβ rfl⟩
    refine ⟨⟨true, .none rfl, fun h w => optUndef h, fun zβ za zw zc => ?_⟩, ?_⟩
    · exact ld_4 rfl ((show za.eval (.tmp 10) = za.tmps.getD 10 undef from rfl).trans (optVal (zc.dep 0 10 (by kernel_rfl)) rfl rfl)) (bkeeps zc.below _ _ ((hB16.cell 0).trans rfl)) ⟨_, rfl, Below.refl _ _, optDef zβ rfl⟩
    refine ⟨⟨true, .none rfl, fun h w => optUndef h, fun zβ za zw zc => ?_⟩, ?_⟩
    · exact fld_41_0 rfl (zc.kn.ev rfl) ⟨_, rfl, Below.refl _ _, optDef zβ rfl⟩
    refine ⟨⟨true, .none rfl, fun h w => optUndef h, fun zβ za zw zc => ?_⟩, ?_⟩
    · exact ld_4 rfl ((show za.eval (.tmp 12) = za.tmps.getD 12 undef from rfl).trans (optVal (zc.dep 2 12 (by kernel_rfl)) rfl rfl)) (bkeeps zc.below _ _ ((hB11.cell 0).trans rfl)) ⟨_, rfl, Below.refl _ _, optDef zβ rfl⟩
    refine ⟨⟨true, .none rfl, fun h w => optUndef h, fun zβ za zw zc => ?_⟩, ?_⟩
    · exact neq_4 rfl ((show za.eval (.tmp 11) = za.tmps.getD 11 undef from rfl).trans (optVal (zc.dep 1 11 (by kernel_rfl)) rfl rfl)) ((show za.eval (.tmp 13) = za.tmps.getD 13 undef from rfl).trans (optVal (zc.dep 3 13 (by kernel_rfl)) rfl rfl)) ⟨_, rfl, Below.refl _ _, optDef zβ rfl⟩
    refine ⟨⟨true, .none rfl, fun h w => optUndef h, fun zβ za zw zc => ?_⟩, ?_⟩
    · exact wp_move rfl ((show za.eval (.tmp 14) = za.tmps.getD 14 undef from rfl).trans (optVal (zc.dep 4 14 (by kernel_rfl)) rfl rfl)) ⟨_, rfl, Below.refl _ _, optDef zβ rfl⟩
    refine ⟨⟨(true && !(p.neg != l.neg)), .no (c := (p.neg != l.neg)) (d := true) rfl (fun v w h => h), fun h w => optUndef h, fun zβ za zw zc => ?_⟩, ?_⟩
    · exact wp_call (by kernel_rfl) rfl (hv1 (zc.kn.ev rfl)) (atom_any p _ g2 a1 a2 c1 c2 (hB16.below zc.below)) (fun v w' h => ⟨v, rfl, h.2, optDef zβ h.1⟩)
    refine ⟨⟨(true && !(p.neg != l.neg)), .no (c := (p.neg != l.neg)) (d := true) rfl (fun v w h => h), fun h w => optUndef h, fun zβ za zw zc => ?_⟩, ?_⟩
    · exact wp_call (by kernel_rfl) rfl (hv1 (zc.kn.ev rfl)) (atom_any l _ g9 a3 a4 c3 c4 (hB11.below zc.below)) (fun v w' h => ⟨v, rfl, h.2, optDef zβ h.1⟩)
    refine ⟨⟨(true && !(p.neg != l.neg)), .no (c := (p.neg != l.neg)) (d := true) rfl (fun v w h => h), fun h w => optUndef h, fun zβ za zw zc => ?_⟩, ?_⟩
    · exact neq_4 rfl ((show za.eval (.tmp 16) = za.tmps.getD 16 undef from rfl).trans (optVal (zc.dep 6 16 (by kernel_rfl)) rfl zβ)) ((show za.eval (.tmp 17) = za.tmps.getD 17 undef from rfl).trans (optVal (zc.dep 7 17 (by kernel_rfl)) rfl zβ)) ⟨_, rfl, Below.refl _ _, optDef zβ rfl⟩
    refine ⟨⟨true, .none rfl, fun h w => optUndef h, fun zβ za zw zc => ?_⟩, ?_⟩
    · exact wp_or rfl ((show za.eval (.tmp 15) = za.tmps.getD 15 undef from rfl).trans (optVal (zc.dep 5 15 (by kernel_rfl)) rfl rfl)) (fun hp => ((show za.eval (.tmp 18) = za.tmps.getD 18 undef from rfl).trans (optVal (zc.dep 8 18 (by kernel_rfl)) rfl (bMkN zβ hp)))) ⟨_, rfl, Below.refl _ _, optDef zβ rfl⟩
    exact trivial
  · intro za w19 zh hb20 zu
    have zh := zh.cons (d := 19) (v := .bool (((p.neg != l.neg) || (p.atom != l.atom)))) (optVal (zu 9 19 (by kernel_rfl)) rfl rfl)
    clear zu
    refine (show WE _ [(0, .iface 33 (.pointer (some ⟨g, 0, none⟩))), (1, .agg #[.bool p.neg, .int .i64 p.l.f, .slice a1 p.l.args.length c1, .int .i64 p.r.f, .slice a2 p.r.args.length c2]), (2, .agg #[.bool l.neg, .int .i64 l.l.f, .slice a3 l.l.args.length c3, .int .i64 l.r.f, .slice a4 l.r.args.length c4]), (3, .bool tu), (5, .pointer (some ⟨g2, 0, none⟩)), (6, .pointer (some ⟨g9, 0, none⟩)), (8, .bool false), (19, .bool (((p.neg != l.neg) || (p.atom != l.atom))))] w19 _ .normal from ?_) za (zh.sub ⟨rfl, rfl, rfl, rfl, rfl, rfl, rfl, rfl, trivial⟩)
    refine WE.next ?_
    refine WC.cond rfl (fun h21 => ?_) (fun h21 => ?_)
    · have h21 : (p.neg ≠ l.neg) ∨ (p.atom ≠ l.atom) := by simpa using h21
      refine WC.seq ?_
      refine WC.region ?_
      refine WL.val (.bool false) rfl rfl rfl (fun za zC zh zk => wp_assign rfl (zh.ev rfl) zk) ?_
      refine WL.nil (WE.sub (K' := [(0, .iface 33 (.pointer (some ⟨g, 0, none⟩))), (1, .agg #[.bool p.neg, .int .i64 p.l.f, .slice a1 p.l.args.length c1, .int .i64 p.r.f, .slice a2 p.r.args.length c2]), (2, .agg #[.bool l.neg, .int .i64 l.l.f, .slice a3 l.l.args.length c3, .int .i64 l.r.f, .slice a4 l.r.args.length c4]), (3, .bool tu), (5, .pointer (some ⟨g2, 0, none⟩)), (6, .pointer (some ⟨g9, 0, none⟩)), (8, .bool false), (19, .bool (((p.neg != l.neg) || (p.atom != l.atom))))]) ⟨rfl, rfl, rfl, rfl, rfl, rfl, rfl, rfl, trivial⟩ ?_)
      refine WE.next ?_
      refine WC.ret ?_
      refine WE.thenRet ?_
      refine WE.ret1 rfl rfl ?_
      have hb23 : Below w.heap.size w w19 := (bstep (bstep hb5 hb12) hb20)
      have ho22 := h.below hb23
      have hfin := lOk_no1 (p := p) (l := l) (b := tu) (st := st) (fun q => by simp [q.1, q.2] at h21)
      exact ⟨_, rfl, ⟨C, congrArg Value.bool hfin.1.symm, by rw [hfin.2]; exact ho22, fun b q => .inl q⟩, .ofBelow hb23⟩
    · have h21 : ¬ ((p.neg ≠ l.neg) ∨ (p.atom ≠ l.atom)) := by simpa using h21
      refine WC.skip ?_
      refine WE.next ?_
      refine WC.seq ?_
      refine WC.seq ?_
      refine WC.region ?_
      refine WL.val (.bool tu) rfl rfl rfl (fun za zC zh zk => wp_move rfl (zh.ev rfl) zk) ?_
      refine WL.nil (WE.sub (K' := [(0, .iface 33 (.pointer (some ⟨g, 0, none⟩))), (1, .agg #[.bool p.neg, .int .i64 p.l.f, .slice a1 p.l.args.length c1, .int .i64 p.r.f, .slice a2 p.r.args.length c2]), (2, .agg #[.bool l.neg, .int .i64 l.l.f, .slice a3 l.l.args.length c3, .int .i64 l.r.f, .slice a4 l.r.args.length c4]), (3, .bool tu), (5, .pointer (some ⟨g2, 0, none⟩)), (6, .pointer (some ⟨g9, 0, none⟩)), (8, .bool false), (19, .bool (((p.neg != l.neg) || (p.atom != l.atom)))), (20, .bool tu)]) ⟨rfl, rfl, rfl, rfl, rfl, rfl, rfl, rfl, rfl, trivial⟩ ?_)
      refine WE.next ?_
      refine WC.cond rfl (fun h24 => ?_) (fun h24 => ?_)
      · skip
        refine WC.region ?_
        refine WL.val (.pointer (some ⟨g9, 3, none⟩)) rfl rfl rfl (fun za zC zh zk => fld_41_2 rfl (zh.ev rfl) zk) ?_
        have hB25 := hB11.below hb20
        refine WL.val (.agg #[.int .i64 l.r.f, .slice a4 l.r.args.length c4]) rfl rfl rfl (fun za zC zh zk => ld_24 rfl (zh.ev rfl) ((hB25.cell 3).trans rfl) ((hB25.cell 4).trans rfl) zk) ?_
        refine WL.val (.pointer (some ⟨g9, 1, none⟩)) rfl rfl rfl (fun za zC zh zk => fld_41_1 rfl (zh.ev rfl) zk) ?_
        refine WL.val (.agg #[.int .i64 l.l.f, .slice a3 l.l.args.length c3]) rfl rfl rfl (fun za zC zh zk => ld_24 rfl (zh.ev rfl) ((hB25.cell 1).trans rfl) ((hB25.cell 2).trans rfl) zk) ?_
        refine WL.val (.pointer (some ⟨g9, 1, none⟩)) rfl rfl rfl (fun za zC zh zk => fld_41_1 rfl (zh.ev rfl) zk) ?_
        refine WL.step (post := fun _ w' => Upd g9 w19 w' ∧ Blk w' g9 41 #[.bool l.neg, .int .i64 l.r.f, .slice a4 l.r.args.length c4, .int .i64 l.r.f, .slice a4 l.r.args.length c4]) rfl rfl rfl (fun za zC zh zk => st_24 rfl (zh.ev rfl) (zh.ev rfl) rfl rfl hB25 (by first | decide | simp) (fun v => zk v _ ⟨(Upd.at_ _ _ _ _).trans (Upd.at_ _ _ _ _), (hB25.set_ 1 _).set_ 2 _⟩)) ?_
        rintro v29 w26 ⟨hu27, hB28⟩
        have hb30 : Below w.heap.size w w19 := (bstep (bstep hb5 hb12) hb20)
        have hb31 := upd_below hb30 hu27 (by omega)
        have hB32 := hB16.below hb20
        have hB33 := upd_blk hB32 hu27 (by omega)
        refine WL.val (.pointer (some ⟨g9, 3, none⟩)) rfl rfl rfl (fun za zC zh zk => fld_41_2 rfl (zh.ev rfl) zk) ?_
        refine WL.step (post := fun _ w' => Upd g9 w26 w' ∧ Blk w' g9 41 #[.bool l.neg, .int .i64 l.r.f, .slice a4 l.r.args.length c4, .int .i64 l.l.f, .slice a3 l.l.args.length c3]) rfl rfl rfl (fun za zC zh zk => st_24 rfl (zh.ev rfl) (zh.ev rfl) rfl rfl hB28 (by first | decide | simp) (fun v => zk v _ ⟨(Upd.at_ _ _ _ _).trans (Upd.at_ _ _ _ _), (hB28.set_ 3 _).set_ 4 _⟩)) ?_
        rintro v37 w34 ⟨hu35, hB36⟩
        have hb38 := upd_below hb31 hu35 (by omega)
        have hB39 := upd_blk hB33 hu35 (by omega)
        refine WL.nil (WE.sub (K' := [(0, .iface 33 (.pointer (some ⟨g, 0, none⟩))), (1, .agg #[.bool p.neg, .int .i64 p.l.f, .slice a1 p.l.args.length c1, .int .i64 p.r.f, .slice a2 p.r.args.length c2]), (2, .agg #[.bool l.neg, .int .i64 l.l.f, .slice a3 l.l.args.length c3, .int .i64 l.r.f, .slice a4 l.r.args.length c4]), (3, .bool tu), (5, .pointer (some ⟨g2, 0, none⟩)), (6, .pointer (some ⟨g9, 0, none⟩)), (8, .bool false), (19, .bool (((p.neg != l.neg) || (p.atom != l.atom)))), (20, .bool tu)]) ⟨rfl, rfl, rfl, rfl, rfl, rfl, rfl, rfl, rfl, trivial⟩ ?_)
        refine WE.next ?_
        refine WC.seq ?_
        refine WC.region ?_
        refine WL.val (.iface 33 (.pointer (some ⟨g, 0, none⟩))) rfl rfl rfl (fun za zC zh zk => wp_move rfl (zh.ev rfl) zk) ?_
        have hl40 : g2 < w34.heap.size := hB39.lt
        have hl41 : w.heap.size ≤ g2 := by have z : w.heap.size ≤ w.heap.size := (Nat.le_refl _); omega
        have hl42 : g9 < w34.heap.size := hB36.lt
        have hl43 : w.heap.size ≤ g9 := by have z : w.heap.size ≤ w1.heap.size := hb5.size; omega
        have ho45 := h.below hb38
        have hgo44 : MatGo w34 C g st w34 := MatGo.start ho45
        have hA1 : ∀ b, (A b ∧ b < w.heap.size) → ¬ Since w34 C b := fun b q q2 => q2.elim (hA b q.1) (fun q2 => by have z := hb38.size; omega)
        have hpl1 := InT.mono (S' := fun b => A b ∧ b < w.heap.size) (fun b q z => ⟨q, z⟩) hpl
        have hpr1 := InT.mono (S' := fun b => A b ∧ b < w.heap.size) (fun b q z => ⟨q, z⟩) hpr
        have hll1 := InT.mono (S' := fun b => A b ∧ b < w.heap.size) (fun b q z => ⟨q, z⟩) hll
        have hlr1 := InT.mono (S' := fun b => A b ∧ b < w.heap.size) (fun b q z => ⟨q, z⟩) hlr
        refine WL.step (post := fun v w' => v = .int .i64 (st.length : Nat) ∧ Below w34.heap.size w34 w') rfl rfl rfl (fun za zC zh zk => wp_invk (by kernel_rfl) (inv_mark _ _) rfl (zh.ev rfl) (hv0) (mark_go hgo44) (fun v w' h => zk v w' h)) ?_
        rintro _ w46 ⟨rfl, hb47⟩
        refine WL.val (.int .i64 (((st.length : Nat) : Int))) rfl rfl rfl (fun za zC zh zk => wp_assign rfl (zh.ev rfl) zk) ?_
        refine WL.nil (WE.sub (K' := [(0, .iface 33 (.pointer (some ⟨g, 0, none⟩))), (1, .agg #[.bool p.neg, .int .i64 p.l.f, .slice a1 p.l.args.length c1, .int .i64 p.r.f, .slice a2 p.r.args.length c2]), (2, .agg #[.bool l.neg, .int .i64 l.l.f, .slice a3 l.l.args.length c3, .int .i64 l.r.f, .slice a4 l.r.args.length c4]), (3, .bool tu), (5, .pointer (some ⟨g2, 0, none⟩)), (6, .pointer (some ⟨g9, 0, none⟩)), (8, .bool false), (9, .int .i64 (((st.length : Nat) : Int))), (19, .bool (((p.neg != l.neg) || (p.atom != l.atom)))), (20, .bool tu)]) ⟨rfl, rfl, rfl, rfl, rfl, rfl, rfl, rfl, rfl, rfl, trivial⟩ ?_)
        refine WE.next ?_
        refine WC.seq ?_
        refine WC.seq ?_
        refine WC.region ?_
        refine WL.val (.iface 33 (.pointer (some ⟨g, 0, none⟩))) rfl rfl rfl (fun za zC zh zk => wp_move rfl (zh.ev rfl) zk) ?_
        refine WL.val (.pointer (some ⟨g2, 1, none⟩)) rfl rfl rfl (fun za zC zh zk => fld_41_1 rfl (zh.ev rfl) zk) ?_
        have hB48 := hB39.below hb47
        refine WL.val (.agg #[.int .i64 p.l.f, .slice a1 p.l.args.length c1]) rfl rfl rfl (fun za zC zh zk => ld_24 rfl (zh.ev rfl) ((hB48.cell 1).trans rfl) ((hB48.cell 2).trans rfl) zk) ?_
        refine WL.val (.pointer (some ⟨g9, 1, none⟩)) rfl rfl rfl (fun za zC zh zk => fld_41_1 rfl (zh.ev rfl) zk) ?_
        have hB49 := hB36.below hb47
        refine WL.val (.agg #[.int .i64 l.r.f, .slice a4 l.r.args.length c4]) rfl rfl rfl (fun za zC zh zk => ld_24 rfl (zh.ev rfl) ((hB49.cell 1).trans rfl) ((hB49.cell 2).trans rfl) zk) ?_
        have ho50 := hgo44.below hb47
        have hs51 : Chg ((Since w34 C)) w34 w46 := (Chg.trans2 (Chg.refl ((Since w34 C)) _) (Chg.ofBelow (S := fun k => k < 0) hb47) (fun i h1 h2 => by first | exact h2 | exact .inl h2 | exact .inr h2 | exact .inr (.inl h2) | exact .inr (.inr h2) | ((try dsimp only at *); omega)))
        refine WL.step (post := fun v w' => (v = .bool (mOk p.l l.r st) ∧ MatGo w34 C g (mTo p.l l.r st) w') ∧ Chg (Since w34 C) w46 w') rfl rfl rfl (fun za zC zh zk => wp_invk (by kernel_rfl) (inv_term _ _) rfl (zh.ev rfl) (hv2 (zh.ev rfl) (zh.ev rfl)) (term_go p.l l.r ho50 ((hpl1.below hb38).chg hs51 hA1) (InT.isT ((hlr1.below hb38).chg hs51 hA1)) hA1 hp1 hl2 (by have z := mTo_take p.l l.r st; omega)) (fun v w' h => zk v w' h)) ?_
        rintro _ w52 ⟨⟨rfl, hgo53⟩, hc54⟩
        have hB55 := chg_blk hB48 hc54 (fun h => h.elim (fun h => by have z := hClt _ h; (try dsimp only at *); omega) (fun h => by (try dsimp only at *); omega))
        have hB56 := chg_blk hB49 hc54 (fun h => h.elim (fun h => by have z := hClt _ h; (try dsimp only at *); omega) (fun h => by (try dsimp only at *); omega))
        refine WL.val (.bool ((mOk p.l l.r st))) rfl rfl rfl (fun za zC zh zk => wp_move rfl (zh.ev rfl) zk) ?_
        refine bool_split ((mOk p.l l.r st)) (fun h57 => ?_) (fun h57 => ?_)
        · refine WL.sub (K' := [(0, .iface 33 (.pointer (some ⟨g, 0, none⟩))), (1, .agg #[.bool p.neg, .int .i64 p.l.f, .slice a1 p.l.args.length c1, .int .i64 p.r.f, .slice a2 p.r.args.length c2]), (2, .agg #[.bool l.neg, .int .i64 l.l.f, .slice a3 l.l.args.length c3, .int .i64 l.r.f, .slice a4 l.r.args.length c4]), (3, .bool tu), (5, .pointer (some ⟨g2, 0, none⟩)), (6, .pointer (some ⟨g9, 0, none⟩)), (8, .bool false), (9, .int .i64 (((st.length : Nat) : Int))), (19, .bool (((p.neg != l.neg) || (p.atom != l.atom)))), (20, .bool tu), (29, .iface 33 (.pointer (some ⟨g, 0, none⟩))), (30, .pointer (some ⟨g2, 1, none⟩)), (31, .agg #[.int .i64 p.l.f, .slice a1 p.l.args.length c1]), (32, .pointer (some ⟨g9, 1, none⟩)), (33, .agg #[.int .i64 l.r.f, .slice a4 l.r.args.length c4]), (34, .bool ((mOk p.l l.r st))), (35, .bool true)]) ⟨rfl, rfl, rfl, rfl, rfl, rfl, rfl, rfl, rfl, rfl, rfl, rfl, rfl, rfl, rfl, rfl, (by exact congrArg (fun z => some (Value.bool z)) h57), trivial⟩ ?_
          refine WL.want (d := 35) rfl rfl rfl ?_
          refine WL.val (.iface 33 (.pointer (some ⟨g, 0, none⟩))) rfl rfl rfl (fun za zC zh zk => wp_move rfl (zh.ev rfl) zk) ?_
          refine WL.want (d := 35) rfl rfl rfl ?_
          refine WL.val (.pointer (some ⟨g2, 3, none⟩)) rfl rfl rfl (fun za zC zh zk => fld_41_2 rfl (zh.ev rfl) zk) ?_
          refine WL.want (d := 35) rfl rfl rfl ?_
          refine WL.val (.agg #[.int .i64 p.r.f, .slice a2 p.r.args.length c2]) rfl rfl rfl (fun za zC zh zk => ld_24 rfl (zh.ev rfl) ((hB55.cell 3).trans rfl) ((hB55.cell 4).trans rfl) zk) ?_
          refine WL.want (d := 35) rfl rfl rfl ?_
          refine WL.val (.pointer (some ⟨g9, 3, none⟩)) rfl rfl rfl (fun za zC zh zk => fld_41_2 rfl (zh.ev rfl) zk) ?_
          refine WL.want (d := 35) rfl rfl rfl ?_
          refine WL.val (.agg #[.int .i64 l.l.f, .slice a3 l.l.args.length c3]) rfl rfl rfl (fun za zC zh zk => ld_24 rfl (zh.ev rfl) ((hB56.cell 3).trans rfl) ((hB56.cell 4).trans rfl) zk) ?_
          refine WL.want (d := 35) rfl rfl rfl ?_
          have hs58 : Chg ((Since w34 C)) w34 w52 := (Chg.trans2 (Chg.trans2 (Chg.refl ((Since w34 C)) _) (Chg.ofBelow (S := fun k => k < 0) hb47) (fun i h1 h2 => by first | exact h2 | exact .inl h2 | exact .inr h2 | exact .inr (.inl h2) | exact .inr (.inr h2) | ((try dsimp only at *); omega))) hc54 (fun i h1 h2 => by first | exact h2 | exact .inl h2 | exact .inr h2 | exact .inr (.inl h2) | exact .inr (.inr h2) | ((try dsimp only at *); omega)))
          refine WL.step (post := fun v w' => (v = .bool (mOk p.r l.l (mTo p.l l.r st)) ∧ MatGo w34 C g (mTo p.r l.l (mTo p.l l.r st)) w') ∧ Chg (Since w34 C) w52 w') rfl rfl rfl (fun za zC zh zk => wp_invk (by kernel_rfl) (inv_term _ _) rfl (zh.ev rfl) (hv2 (zh.ev rfl) (zh.ev rfl)) (term_go p.r l.l hgo53 ((hpr1.below hb38).chg hs58 hA1) (InT.isT ((hll1.below hb38).chg hs58 hA1)) hA1 hp2 hl1 (by have z := mTo_take p.l l.r st; omega)) (fun v w' h => zk v w' h)) ?_
          rintro _ w59 ⟨⟨rfl, hgo60⟩, hc61⟩
          have hB62 := chg_blk hB55 hc61 (fun h => h.elim (fun h => by have z := hClt _ h; (try dsimp only at *); omega) (fun h => by (try dsimp only at *); omega))
          have hB63 := chg_blk hB56 hc61 (fun h => h.elim (fun h => by have z := hClt _ h; (try dsimp only at *); omega) (fun h => by (try dsimp only at *); omega))
          refine WL.val (.bool ((mOk p.r l.l (mTo p.l l.r st)))) rfl rfl rfl (fun za zC zh zk => wp_pickT rfl (zh.ev rfl) (zh.ev rfl) zk) ?_
          refine WL.nil (WE.sub (K' := [(0, .iface 33 (.pointer (some ⟨g, 0, none⟩))), (1, .agg #[.bool p.neg, .int .i64 p.l.f, .slice a1 p.l.args.length c1, .int .i64 p.r.f, .slice a2 p.r.args.length c2]), (2, .agg #[.bool l.neg, .int .i64 l.l.f, .slice a3 l.l.args.length c3, .int .i64 l.r.f, .slice a4 l.r.args.length c4]), (3, .bool tu), (5, .pointer (some ⟨g2, 0, none⟩)), (6, .pointer (some ⟨g9, 0, none⟩)), (8, .bool false), (9, .int .i64 (((st.length : Nat) : Int))), (19, .bool (((p.neg != l.neg) || (p.atom != l.atom)))), (20, .bool tu), (42, .bool ((mOk p.r l.l (mTo p.l l.r st))))]) ⟨rfl, rfl, rfl, rfl, rfl, rfl, rfl, rfl, rfl, rfl, rfl, trivial⟩ ?_)
          refine WE.next ?_
          refine WC.cond rfl (fun h64 => ?_) (fun h64 => ?_)
          · skip
            refine WC.seq ?_
            refine WC.region ?_
            refine WL.val (.bool true) rfl rfl rfl (fun za zC zh zk => wp_assign rfl (zh.ev rfl) zk) ?_
            refine WL.nil (WE.sub (K' := [(0, .iface 33 (.pointer (some ⟨g, 0, none⟩))), (1, .agg #[.bool p.neg, .int .i64 p.l.f, .slice a1 p.l.args.length c1, .int .i64 p.r.f, .slice a2 p.r.args.length c2]), (2, .agg #[.bool l.neg, .int .i64 l.l.f, .slice a3 l.l.args.length c3, .int .i64 l.r.f, .slice a4 l.r.args.length c4]), (3, .bool tu), (5, .pointer (some ⟨g2, 0, none⟩)), (6, .pointer (some ⟨g9, 0, none⟩)), (8, .bool true), (9, .int .i64 (((st.length : Nat) : Int))), (19, .bool (((p.neg != l.neg) || (p.atom != l.atom)))), (20, .bool tu), (42, .bool ((mOk p.r l.l (mTo p.l l.r st))))]) ⟨rfl, rfl, rfl, rfl, rfl, rfl, rfl, rfl, rfl, rfl, rfl, trivial⟩ ?_)
            refine WE.next ?_
            refine WC.ret ?_
            refine WE.thenRet ?_
            refine WE.ret1 rfl rfl ?_
            have hs65 : Chg ((Since w34 C)) w34 w59 := (Chg.trans2 (Chg.trans2 (Chg.trans2 (Chg.refl ((Since w34 C)) _) (Chg.ofBelow (S := fun k => k < 0) hb47) (fun i h1 h2 => by first | exact h2 | exact .inl h2 | exact .inr h2 | exact .inr (.inl h2) | exact .inr (.inr h2) | ((try dsimp only at *); omega))) hc54 (fun i h1 h2 => by first | exact h2 | exact .inl h2 | exact .inr h2 | exact .inr (.inl h2) | exact .inr (.inr h2) | ((try dsimp only at *); omega))) hc61 (fun i h1 h2 => by first | exact h2 | exact .inl h2 | exact .inr h2 | exact .inr (.inl h2) | exact .inr (.inr h2) | ((try dsimp only at *); omega)))
            have htu9 : tu = true := by simpa using h24
            have hsm : p.neg = l.neg ∧ p.atom = l.atom := by have z := h21; simp at z; exact z
            have hfin := lOk_yes (p := p) (l := l) (b := tu) (st := st) hsm (by rw [htu9]; exact h57) (by rw [htu9]; exact h64)
            rw [htu9] at hfin
            subst htu9
            exact ⟨_, rfl, by rw [hfin.1, hfin.2]; obtain ⟨C9, z1, z2⟩ := MatGo.done hgo60 hb38.size; exact ⟨C9, rfl, z1, z2⟩, chg_since hb38 hs65⟩
          · skip
            refine WC.skip ?_
            refine WE.next ?_
            refine WC.seq ?_
            refine WC.region ?_
            refine WL.val (.iface 33 (.pointer (some ⟨g, 0, none⟩))) rfl rfl rfl (fun za zC zh zk => wp_move rfl (zh.ev rfl) zk) ?_
            refine WL.val (.int .i64 (((st.length : Nat) : Int))) rfl rfl rfl (fun za zC zh zk => wp_move rfl (zh.ev rfl) zk) ?_
            refine WL.step (post := fun v w' => MatGo w34 C g (backTo (mTo p.r l.l (mTo p.l l.r st)) (st.length : Nat)) w' ∧ Chg (Since w34 C) w59 w') rfl rfl rfl (fun za zC zh zk => wp_invk (by kernel_rfl) (inv_back _ _) rfl (zh.ev rfl) (hv1 (zh.ev rfl)) (back_go (st.length : Nat) hgo60) (fun v w' h => zk v w' h)) ?_
            rintro _ w66 ⟨hgo67, hc68⟩
            have hB69 := chg_blk hB62 hc68 (fun h => h.elim (fun h => by have z := hClt _ h; (try dsimp only at *); omega) (fun h => by (try dsimp only at *); omega))
            have hB70 := chg_blk hB63 hc68 (fun h => h.elim (fun h => by have z := hClt _ h; (try dsimp only at *); omega) (fun h => by (try dsimp only at *); omega))
            refine WL.nil (WE.sub (K' := [(0, .iface 33 (.pointer (some ⟨g, 0, none⟩))), (1, .agg #[.bool p.neg, .int .i64 p.l.f, .slice a1 p.l.args.length c1, .int .i64 p.r.f, .slice a2 p.r.args.length c2]), (2, .agg #[.bool l.neg, .int .i64 l.l.f, .slice a3 l.l.args.length c3, .int .i64 l.r.f, .slice a4 l.r.args.length c4]), (3, .bool tu), (5, .pointer (some ⟨g2, 0, none⟩)), (6, .pointer (some ⟨g9, 0, none⟩)), (8, .bool false), (9, .int .i64 (((st.length : Nat) : Int))), (19, .bool (((p.neg != l.neg) || (p.atom != l.atom)))), (20, .bool tu), (42, .bool ((mOk p.r l.l (mTo p.l l.r st))))]) ⟨rfl, rfl, rfl, rfl, rfl, rfl, rfl, rfl, rfl, rfl, rfl, trivial⟩ ?_)
            refine WE.next ?_
            refine WC.seq ?_
            refine WC.region ?_
            refine WL.val (.bool false) rfl rfl rfl (fun za zC zh zk => wp_assign rfl (zh.ev rfl) zk) ?_
            refine WL.nil (WE.sub (K' := [(0, .iface 33 (.pointer (some ⟨g, 0, none⟩))), (1, .agg #[.bool p.neg, .int .i64 p.l.f, .slice a1 p.l.args.length c1, .int .i64 p.r.f, .slice a2 p.r.args.length c2]), (2, .agg #[.bool l.neg, .int .i64 l.l.f, .slice a3 l.l.args.length c3, .int .i64 l.r.f, .slice a4 l.r.args.length c4]), (3, .bool tu), (5, .pointer (some ⟨g2, 0, none⟩)), (6, .pointer (some ⟨g9, 0, none⟩)), (8, .bool false), (9, .int .i64 (((st.length : Nat) : Int))), (19, .bool (((p.neg != l.neg) || (p.atom != l.atom)))), (20, .bool tu), (42, .bool ((mOk p.r l.l (mTo p.l l.r st))))]) ⟨rfl, rfl, rfl, rfl, rfl, rfl, rfl, rfl, rfl, rfl, rfl, trivial⟩ ?_)
            refine WE.next ?_
            refine WC.ret ?_
            refine WE.ret1 rfl rfl ?_
            have hs71 : Chg ((Since w34 C)) w34 w66 := (Chg.trans2 (Chg.trans2 (Chg.trans2 (Chg.trans2 (Chg.refl ((Since w34 C)) _) (Chg.ofBelow (S := fun k => k < 0) hb47) (fun i h1 h2 => by first | exact h2 | exact .inl h2 | exact .inr h2 | exact .inr (.inl h2) | exact .inr (.inr h2) | ((try dsimp only at *); omega))) hc54 (fun i h1 h2 => by first | exact h2 | exact .inl h2 | exact .inr h2 | exact .inr (.inl h2) | exact .inr (.inr h2) | ((try dsimp only at *); omega))) hc61 (fun i h1 h2 => by first | exact h2 | exact .inl h2 | exact .inr h2 | exact .inr (.inl h2) | exact .inr (.inr h2) | ((try dsimp only at *); omega))) hc68 (fun i h1 h2 => by first | exact h2 | exact .inl h2 | exact .inr h2 | exact .inr (.inl h2) | exact .inr (.inr h2) | ((try dsimp only at *); omega)))
            have htu9 : tu = true := by simpa using h24
            have hsm : p.neg = l.neg ∧ p.atom = l.atom := by have z := h21; simp at z; exact z
            have hfin := lOk_no3 (p := p) (l := l) (b := tu) (st := st) (by rw [htu9]; exact Bool.eq_false_iff.1 h64)
            have hb9 : backTo (mTo p.r l.l (mTo p.l l.r st)) (st.length : Nat) = st := by rw [mTo_no (Bool.eq_false_iff.1 h64)]; have z1 := mTo_take p.l l.r st; rw [backTo_nat (by omega), z1.2.2]
            rw [hb9] at hgo67
            exact ⟨_, rfl, by rw [hfin.1, hfin.2]; obtain ⟨C9, z1, z2⟩ := MatGo.done hgo67 hb38.size; exact ⟨C9, rfl, z1, z2⟩, chg_since hb38 hs71⟩
        · refine WL.sub (K' := [(0, .iface 33 (.pointer (some ⟨g, 0, none⟩))), (1, .agg #[.bool p.neg, .int .i64 p.l.f, .slice a1 p.l.args.length c1, .int .i64 p.r.f, .slice a2 p.r.args.length c2]), (2, .agg #[.bool l.neg, .int .i64 l.l.f, .slice a3 l.l.args.length c3, .int .i64 l.r.f, .slice a4 l.r.args.length c4]), (3, .bool tu), (5, .pointer (some ⟨g2, 0, none⟩)), (6, .pointer (some ⟨g9, 0, none⟩)), (8, .bool false), (9, .int .i64 (((st.length : Nat) : Int))), (19, .bool (((p.neg != l.neg) || (p.atom != l.atom)))), (20, .bool tu), (29, .iface 33 (.pointer (some ⟨g, 0, none⟩))), (30, .pointer (some ⟨g2, 1, none⟩)), (31, .agg #[.int .i64 p.l.f, .slice a1 p.l.args.length c1]), (32, .pointer (some ⟨g9, 1, none⟩)), (33, .agg #[.int .i64 l.r.f, .slice a4 l.r.args.length c4]), (34, .bool ((mOk p.l l.r st))), (35, .bool false)]) ⟨rfl, rfl, rfl, rfl, rfl, rfl, rfl, rfl, rfl, rfl, rfl, rfl, rfl, rfl, rfl, rfl, (by exact congrArg (fun z => some (Value.bool z)) h57), trivial⟩ ?_
          refine WL.skip (d := 35) rfl rfl rfl rfl rfl ?_
          refine WL.skip (d := 35) rfl rfl rfl rfl rfl ?_
          refine WL.skip (d := 35) rfl rfl rfl rfl rfl ?_
          refine WL.skip (d := 35) rfl rfl rfl rfl rfl ?_
          refine WL.skip (d := 35) rfl rfl rfl rfl rfl ?_
          refine WL.skip (d := 35) rfl rfl rfl rfl rfl ?_
          refine WL.val (.bool false) rfl rfl rfl (fun za zC zh zk => wp_pickF rfl (zh.ev rfl) (zh.ev rfl) zk) ?_
          refine WL.nil (WE.sub (K' := [(0, .iface 33 (.pointer (some ⟨g, 0, none⟩))), (1, .agg #[.bool p.neg, .int .i64 p.l.f, .slice a1 p.l.args.length c1, .int .i64 p.r.f, .slice a2 p.r.args.length c2]), (2, .agg #[.bool l.neg, .int .i64 l.l.f, .slice a3 l.l.args.length c3, .int .i64 l.r.f, .slice a4 l.r.args.length c4]), (3, .bool tu), (5, .pointer (some ⟨g2, 0, none⟩)), (6, .pointer (some ⟨g9, 0, none⟩)), (8, .bool false), (9, .int .i64 (((st.length : Nat) : Int))), (19, .bool (((p.neg != l.neg) || (p.atom != l.atom)))), (20, .bool tu), (42, .bool false)]) ⟨rfl, rfl, rfl, rfl, rfl, rfl, rfl, rfl, rfl, rfl, rfl, trivial⟩ ?_)
          refine WE.next ?_
          refine WC.condF rfl rfl ?_
          refine WC.skip ?_
          refine WE.next ?_
          refine WC.seq ?_
          refine WC.region ?_
          refine WL.val (.iface 33 (.pointer (some ⟨g, 0, none⟩))) rfl rfl rfl (fun za zC zh zk => wp_move rfl (zh.ev rfl) zk) ?_
          refine WL.val (.int .i64 (((st.length : Nat) : Int))) rfl rfl rfl (fun za zC zh zk => wp_move rfl (zh.ev rfl) zk) ?_
          refine WL.step (post := fun v w' => MatGo w34 C g (backTo (mTo p.l l.r st) (st.length : Nat)) w' ∧ Chg (Since w34 C) w52 w') rfl rfl rfl (fun za zC zh zk => wp_invk (by kernel_rfl) (inv_back _ _) rfl (zh.ev rfl) (hv1 (zh.ev rfl)) (back_go (st.length : Nat) hgo53) (fun v w' h => zk v w' h)) ?_
          rintro _ w72 ⟨hgo73, hc74⟩
          have hB75 := chg_blk hB55 hc74 (fun h => h.elim (fun h => by have z := hClt _ h; (try dsimp only at *); omega) (fun h => by (try dsimp only at *); omega))
          have hB76 := chg_blk hB56 hc74 (fun h => h.elim (fun h => by have z := hClt _ h; (try dsimp only at *); omega) (fun h => by (try dsimp only at *); omega))
          refine WL.nil (WE.sub (K' := [(0, .iface 33 (.pointer (some ⟨g, 0, none⟩))), (1, .agg #[.bool p.neg, .int .i64 p.l.f, .slice a1 p.l.args.length c1, .int .i64 p.r.f, .slice a2 p.r.args.length c2]), (2, .agg #[.bool l.neg, .int .i64 l.l.f, .slice a3 l.l.args.length c3, .int .i64 l.r.f, .slice a4 l.r.args.length c4]), (3, .bool tu), (5, .pointer (some ⟨g2, 0, none⟩)), (6, .pointer (some ⟨g9, 0, none⟩)), (8, .bool false), (9, .int .i64 (((st.length : Nat) : Int))), (19, .bool (((p.neg != l.neg) || (p.atom != l.atom)))), (20, .bool tu), (42, .bool false)]) ⟨rfl, rfl, rfl, rfl, rfl, rfl, rfl, rfl, rfl, rfl, rfl, trivial⟩ ?_)
          refine WE.next ?_
          refine WC.seq ?_
          refine WC.region ?_
          refine WL.val (.bool false) rfl rfl rfl (fun za zC zh zk => wp_assign rfl (zh.ev rfl) zk) ?_
          refine WL.nil (WE.sub (K' := [(0, .iface 33 (.pointer (some ⟨g, 0, none⟩))), (1, .agg #[.bool p.neg, .int .i64 p.l.f, .slice a1 p.l.args.length c1, .int .i64 p.r.f, .slice a2 p.r.args.length c2]), (2, .agg #[.bool l.neg, .int .i64 l.l.f, .slice a3 l.l.args.length c3, .int .i64 l.r.f, .slice a4 l.r.args.length c4]), (3, .bool tu), (5, .pointer (some ⟨g2, 0, none⟩)), (6, .pointer (some ⟨g9, 0, none⟩)), (8, .bool false), (9, .int .i64 (((st.length : Nat) : Int))), (19, .bool (((p.neg != l.neg) || (p.atom != l.atom)))), (20, .bool tu), (42, .bool false)]) ⟨rfl, rfl, rfl, rfl, rfl, rfl, rfl, rfl, rfl, rfl, rfl, trivial⟩ ?_)
          refine WE.next ?_
          refine WC.ret ?_
          refine WE.ret1 rfl rfl ?_
          have hs77 : Chg ((Since w34 C)) w34 w72 := (Chg.trans2 (Chg.trans2 (Chg.trans2 (Chg.refl ((Since w34 C)) _) (Chg.ofBelow (S := fun k => k < 0) hb47) (fun i h1 h2 => by first | exact h2 | exact .inl h2 | exact .inr h2 | exact .inr (.inl h2) | exact .inr (.inr h2) | ((try dsimp only at *); omega))) hc54 (fun i h1 h2 => by first | exact h2 | exact .inl h2 | exact .inr h2 | exact .inr (.inl h2) | exact .inr (.inr h2) | ((try dsimp only at *); omega))) hc74 (fun i h1 h2 => by first | exact h2 | exact .inl h2 | exact .inr h2 | exact .inr (.inl h2) | exact .inr (.inr h2) | ((try dsimp only at *); omega)))
          have htu9 : tu = true := by simpa using h24
          have hsm : p.neg = l.neg ∧ p.atom = l.atom := by have z := h21; simp at z; exact z
          have hfin := lOk_no2 (p := p) (l := l) (b := tu) (st := st) (by rw [htu9]; exact Bool.eq_false_iff.1 h57)
          have hb9 : backTo (mTo p.l l.r st) (st.length : Nat) = st := by have z1 := mTo_take p.l l.r st; rw [backTo_nat (by omega), z1.2.2]
          rw [hb9] at hgo73
          exact ⟨_, rfl, by rw [hfin.1, hfin.2]; obtain ⟨C9, z1, z2⟩ := MatGo.done hgo73 hb38.size; exact ⟨C9, rfl, z1, z2⟩, chg_since hb38 hs77⟩
      · skip
        refine WC.skip ?_
        refine WE.next ?_
        refine WC.seq ?_
        refine WC.region ?_
        refine WL.val (.iface 33 (.pointer (some ⟨g, 0, none⟩))) rfl rfl rfl (fun za zC zh zk => wp_move rfl (zh.ev rfl) zk) ?_
        have hB78 := hB16.below hb20
        have hl79 : g2 < w19.heap.size := hB78.lt
        have hl80 : w.heap.size ≤ g2 := by have z : w.heap.size ≤ w.heap.size := (Nat.le_refl _); omega
        have hB81 := hB11.below hb20
        have hl82 : g9 < w19.heap.size := hB81.lt
        have hl83 : w.heap.size ≤ g9 := by have z : w.heap.size ≤ w1.heap.size := hb5.size; omega
        have hb86 : Below w.heap.size w w19 := (bstep (bstep hb5 hb12) hb20)
        have ho85 := h.below hb86
        have hgo84 : MatGo w19 C g st w19 := MatGo.start ho85
        have hA1 : ∀ b, (A b ∧ b < w.heap.size) → ¬ Since w19 C b := fun b q q2 => q2.elim (hA b q.1) (fun q2 => by have z := hb86.size; omega)
        have hpl1 := InT.mono (S' := fun b => A b ∧ b < w.heap.size) (fun b q z => ⟨q, z⟩) hpl
        have hpr1 := InT.mono (S' := fun b => A b ∧ b < w.heap.size) (fun b q z => ⟨q, z⟩) hpr
        have hll1 := InT.mono (S' := fun b => A b ∧ b < w.heap.size) (fun b q z => ⟨q, z⟩) hll
        have hlr1 := InT.mono (S' := fun b => A b ∧ b < w.heap.size) (fun b q z => ⟨q, z⟩) hlr
        refine WL.step (post := fun v w' => v = .int .i64 (st.length : Nat) ∧ Below w19.heap.size w19 w') rfl rfl rfl (fun za zC zh zk => wp_invk (by kernel_rfl) (inv_mark _ _) rfl (zh.ev rfl) (hv0) (mark_go hgo84) (fun v w' h => zk v w' h)) ?_
        rintro _ w87 ⟨rfl, hb88⟩
        refine WL.val (.int .i64 (((st.length : Nat) : Int))) rfl rfl rfl (fun za zC zh zk => wp_assign rfl (zh.ev rfl) zk) ?_
        refine WL.nil (WE.sub (K' := [(0, .iface 33 (.pointer (some ⟨g, 0, none⟩))), (1, .agg #[.bool p.neg, .int .i64 p.l.f, .slice a1 p.l.args.length c1, .int .i64 p.r.f, .slice a2 p.r.args.length c2]), (2, .agg #[.bool l.neg, .int .i64 l.l.f, .slice a3 l.l.args.length c3, .int .i64 l.r.f, .slice a4 l.r.args.length c4]), (3, .bool tu), (5, .pointer (some ⟨g2, 0, none⟩)), (6, .pointer (some ⟨g9, 0, none⟩)), (8, .bool false), (9, .int .i64 (((st.length : Nat) : Int))), (19, .bool (((p.neg != l.neg) || (p.atom != l.atom)))), (20, .bool tu)]) ⟨rfl, rfl, rfl, rfl, rfl, rfl, rfl, rfl, rfl, rfl, trivial⟩ ?_)
        refine WE.next ?_
        refine WC.seq ?_
        refine WC.seq ?_
        refine WC.region ?_
        refine WL.val (.iface 33 (.pointer (some ⟨g, 0, none⟩))) rfl rfl rfl (fun za zC zh zk => wp_move rfl (zh.ev rfl) zk) ?_
        refine WL.val (.pointer (some ⟨g2, 1, none⟩)) rfl rfl rfl (fun za zC zh zk => fld_41_1 rfl (zh.ev rfl) zk) ?_
        have hB89 := hB78.below hb88
        refine WL.val (.agg #[.int .i64 p.l.f, .slice a1 p.l.args.length c1]) rfl rfl rfl (fun za zC zh zk => ld_24 rfl (zh.ev rfl) ((hB89.cell 1).trans rfl) ((hB89.cell 2).trans rfl) zk) ?_
        refine WL.val (.pointer (some ⟨g9, 1, none⟩)) rfl rfl rfl (fun za zC zh zk => fld_41_1 rfl (zh.ev rfl) zk) ?_
        have hB90 := hB81.below hb88
        refine WL.val (.agg #[.int .i64 l.l.f, .slice a3 l.l.args.length c3]) rfl rfl rfl (fun za zC zh zk => ld_24 rfl (zh.ev rfl) ((hB90.cell 1).trans rfl) ((hB90.cell 2).trans rfl) zk) ?_
        have ho91 := hgo84.below hb88
        have hs92 : Chg ((Since w19 C)) w19 w87 := (Chg.trans2 (Chg.refl ((Since w19 C)) _) (Chg.ofBelow (S := fun k => k < 0) hb88) (fun i h1 h2 => by first | exact h2 | exact .inl h2 | exact .inr h2 | exact .inr (.inl h2) | exact .inr (.inr h2) | ((try dsimp only at *); omega)))
        refine WL.step (post := fun v w' => (v = .bool (mOk p.l l.l st) ∧ MatGo w19 C g (mTo p.l l.l st) w') ∧ Chg (Since w19 C) w87 w') rfl rfl rfl (fun za zC zh zk => wp_invk (by kernel_rfl) (inv_term _ _) rfl (zh.ev rfl) (hv2 (zh.ev rfl) (zh.ev rfl)) (term_go p.l l.l ho91 ((hpl1.below hb86).chg hs92 hA1) (InT.isT ((hll1.below hb86).chg hs92 hA1)) hA1 hp1 hl1 (by have z := mTo_take p.l l.l st; omega)) (fun v w' h => zk v w' h)) ?_
        rintro _ w93 ⟨⟨rfl, hgo94⟩, hc95⟩
        have hB96 := chg_blk hB89 hc95 (fun h => h.elim (fun h => by have z := hClt _ h; (try dsimp only at *); omega) (fun h => by (try dsimp only at *); omega))
        have hB97 := chg_blk hB90 hc95 (fun h => h.elim (fun h => by have z := hClt _ h; (try dsimp only at *); omega) (fun h => by (try dsimp only at *); omega))
        refine WL.val (.bool ((mOk p.l l.l st))) rfl rfl rfl (fun za zC zh zk => wp_move rfl (zh.ev rfl) zk) ?_
        refine bool_split ((mOk p.l l.l st)) (fun h98 => ?_) (fun h98 => ?_)
        · refine WL.sub (K' := [(0, .iface 33 (.pointer (some ⟨g, 0, none⟩))), (1, .agg #[.bool p.neg, .int .i64 p.l.f, .slice a1 p.l.args.length c1, .int .i64 p.r.f, .slice a2 p.r.args.length c2]), (2, .agg #[.bool l.neg, .int .i64 l.l.f, .slice a3 l.l.args.length c3, .int .i64 l.r.f, .slice a4 l.r.args.length c4]), (3, .bool tu), (5, .pointer (some ⟨g2, 0, none⟩)), (6, .pointer (some ⟨g9, 0, none⟩)), (8, .bool false), (9, .int .i64 (((st.length : Nat) : Int))), (19, .bool (((p.neg != l.neg) || (p.atom != l.atom)))), (20, .bool tu), (29, .iface 33 (.pointer (some ⟨g, 0, none⟩))), (30, .pointer (some ⟨g2, 1, none⟩)), (31, .agg #[.int .i64 p.l.f, .slice a1 p.l.args.length c1]), (32, .pointer (some ⟨g9, 1, none⟩)), (33, .agg #[.int .i64 l.l.f, .slice a3 l.l.args.length c3]), (34, .bool ((mOk p.l l.l st))), (35, .bool true)]) ⟨rfl, rfl, rfl, rfl, rfl, rfl, rfl, rfl, rfl, rfl, rfl, rfl, rfl, rfl, rfl, rfl, (by exact congrArg (fun z => some (Value.bool z)) h98), trivial⟩ ?_
          refine WL.want (d := 35) rfl rfl rfl ?_
          refine WL.val (.iface 33 (.pointer (some ⟨g, 0, none⟩))) rfl rfl rfl (fun za zC zh zk => wp_move rfl (zh.ev rfl) zk) ?_
          refine WL.want (d := 35) rfl rfl rfl ?_
          refine WL.val (.pointer (some ⟨g2, 3, none⟩)) rfl rfl rfl (fun za zC zh zk => fld_41_2 rfl (zh.ev rfl) zk) ?_
          refine WL.want (d := 35) rfl rfl rfl ?_
          refine WL.val (.agg #[.int .i64 p.r.f, .slice a2 p.r.args.length c2]) rfl rfl rfl (fun za zC zh zk => ld_24 rfl (zh.ev rfl) ((hB96.cell 3).trans rfl) ((hB96.cell 4).trans rfl) zk) ?_
          refine WL.want (d := 35) rfl rfl rfl ?_
          refine WL.val (.pointer (some ⟨g9, 3, none⟩)) rfl rfl rfl (fun za zC zh zk => fld_41_2 rfl (zh.ev rfl) zk) ?_
          refine WL.want (d := 35) rfl rfl rfl ?_
          refine WL.val (.agg #[.int .i64 l.r.f, .slice a4 l.r.args.length c4]) rfl rfl rfl (fun za zC zh zk => ld_24 rfl (zh.ev rfl) ((hB97.cell 3).trans rfl) ((hB97.cell 4).trans rfl) zk) ?_
          refine WL.want (d := 35) rfl rfl rfl ?_
          have hs99 : Chg ((Since w19 C)) w19 w93 := (Chg.trans2 (Chg.trans2 (Chg.refl ((Since w19 C)) _) (Chg.ofBelow (S := fun k => k < 0) hb88) (fun i h1 h2 => by first | exact h2 | exact .inl h2 | exact .inr h2 | exact .inr (.inl h2) | exact .inr (.inr h2) | ((try dsimp only at *); omega))) hc95 (fun i h1 h2 => by first | exact h2 | exact .inl h2 | exact .inr h2 | exact .inr (.inl h2) | exact .inr (.inr h2) | ((try dsimp only at *); omega)))
          refine WL.step (post := fun v w' => (v = .bool (mOk p.r l.r (mTo p.l l.l st)) ∧ MatGo w19 C g (mTo p.r l.r (mTo p.l l.l st)) w') ∧ Chg (Since w19 C) w93 w') rfl rfl rfl (fun za zC zh zk => wp_invk (by kernel_rfl) (inv_term _ _) rfl (zh.ev rfl) (hv2 (zh.ev rfl) (zh.ev rfl)) (term_go p.r l.r hgo94 ((hpr1.below hb86).chg hs99 hA1) (InT.isT ((hlr1.below hb86).chg hs99 hA1)) hA1 hp2 hl2 (by have z := mTo_take p.l l.l st; omega)) (fun v w' h => zk v w' h)) ?_
          rintro _ w100 ⟨⟨rfl, hgo101⟩, hc102⟩
          have hB103 := chg_blk hB96 hc102 (fun h => h.elim (fun h => by have z := hClt _ h; (try dsimp only at *); omega) (fun h => by (try dsimp only at *); omega))
          have hB104 := chg_blk hB97 hc102 (fun h => h.elim (fun h => by have z := hClt _ h; (try dsimp only at *); omega) (fun h => by (try dsimp only at *); omega))
          refine WL.val (.bool ((mOk p.r l.r (mTo p.l l.l st)))) rfl rfl rfl (fun za zC zh zk => wp_pickT rfl (zh.ev rfl) (zh.ev rfl) zk) ?_
          refine WL.nil (WE.sub (K' := [(0, .iface 33 (.pointer (some ⟨g, 0, none⟩))), (1, .agg #[.bool p.neg, .int .i64 p.l.f, .slice a1 p.l.args.length c1, .int .i64 p.r.f, .slice a2 p.r.args.length c2]), (2, .agg #[.bool l.neg, .int .i64 l.l.f, .slice a3 l.l.args.length c3, .int .i64 l.r.f, .slice a4 l.r.args.length c4]), (3, .bool tu), (5, .pointer (some ⟨g2, 0, none⟩)), (6, .pointer (some ⟨g9, 0, none⟩)), (8, .bool false), (9, .int .i64 (((st.length : Nat) : Int))), (19, .bool (((p.neg != l.neg) || (p.atom != l.atom)))), (20, .bool tu), (42, .bool ((mOk p.r l.r (mTo p.l l.l st))))]) ⟨rfl, rfl, rfl, rfl, rfl, rfl, rfl, rfl, rfl, rfl, rfl, trivial⟩ ?_)
          refine WE.next ?_
          refine WC.cond rfl (fun h105 => ?_) (fun h105 => ?_)
          · skip
            refine WC.seq ?_
            refine WC.region ?_
            refine WL.val (.bool true) rfl rfl rfl (fun za zC zh zk => wp_assign rfl (zh.ev rfl) zk) ?_
            refine WL.nil (WE.sub (K' := [(0, .iface 33 (.pointer (some ⟨g, 0, none⟩))), (1, .agg #[.bool p.neg, .int .i64 p.l.f, .slice a1 p.l.args.length c1, .int .i64 p.r.f, .slice a2 p.r.args.length c2]), (2, .agg #[.bool l.neg, .int .i64 l.l.f, .slice a3 l.l.args.length c3, .int .i64 l.r.f, .slice a4 l.r.args.length c4]), (3, .bool tu), (5, .pointer (some ⟨g2, 0, none⟩)), (6, .pointer (some ⟨g9, 0, none⟩)), (8, .bool true), (9, .int .i64 (((st.length : Nat) : Int))), (19, .bool (((p.neg != l.neg) || (p.atom != l.atom)))), (20, .bool tu), (42, .bool ((mOk p.r l.r (mTo p.l l.l st))))]) ⟨rfl, rfl, rfl, rfl, rfl, rfl, rfl, rfl, rfl, rfl, rfl, trivial⟩ ?_)
            refine WE.next ?_
            refine WC.ret ?_
            refine WE.thenRet ?_
            refine WE.ret1 rfl rfl ?_
            have hs106 : Chg ((Since w19 C)) w19 w100 := (Chg.trans2 (Chg.trans2 (Chg.trans2 (Chg.refl ((Since w19 C)) _) (Chg.ofBelow (S := fun k => k < 0) hb88) (fun i h1 h2 => by first | exact h2 | exact .inl h2 | exact .inr h2 | exact .inr (.inl h2) | exact .inr (.inr h2) | ((try dsimp only at *); omega))) hc95 (fun i h1 h2 => by first | exact h2 | exact .inl h2 | exact .inr h2 | exact .inr (.inl h2) | exact .inr (.inr h2) | ((try dsimp only at *); omega))) hc102 (fun i h1 h2 => by first | exact h2 | exact .inl h2 | exact .inr h2 | exact .inr (.inl h2) | exact .inr (.inr h2) | ((try dsimp only at *); omega)))
            have htu9 : tu = false := by simpa using h24
            have hsm : p.neg = l.neg ∧ p.atom = l.atom := by have z := h21; simp at z; exact z
            have hfin := lOk_yes (p := p) (l := l) (b := tu) (st := st) hsm (by rw [htu9]; exact h98) (by rw [htu9]; exact h105)
            rw [htu9] at hfin
            subst htu9
            exact ⟨_, rfl, by rw [hfin.1, hfin.2]; obtain ⟨C9, z1, z2⟩ := MatGo.done hgo101 hb86.size; exact ⟨C9, rfl, z1, z2⟩, chg_since hb86 hs106⟩
          · skip
            refine WC.skip ?_
            refine WE.next ?_
            refine WC.seq ?_
            refine WC.region ?_
            refine WL.val (.iface 33 (.pointer (some ⟨g, 0, none⟩))) rfl rfl rfl (fun za zC zh zk => wp_move rfl (zh.ev rfl) zk) ?_
            refine WL.val (.int .i64 (((st.length : Nat) : Int))) rfl rfl rfl (fun za zC zh zk => wp_move rfl (zh.ev rfl) zk) ?_
            refine WL.step (post := fun v w' => MatGo w19 C g (backTo (mTo p.r l.r (mTo p.l l.l st)) (st.length : Nat)) w' ∧ Chg (Since w19 C) w100 w') rfl rfl rfl (fun za zC zh zk => wp_invk (by kernel_rfl) (inv_back _ _) rfl (zh.ev rfl) (hv1 (zh.ev rfl)) (back_go (st.length : Nat) hgo101) (fun v w' h => zk v w' h)) ?_
            rintro _ w107 ⟨hgo108, hc109⟩
            have hB110 := chg_blk hB103 hc109 (fun h => h.elim (fun h => by have z := hClt _ h; (try dsimp only at *); omega) (fun h => by (try dsimp only at *); omega))
            have hB111 := chg_blk hB104 hc109 (fun h => h.elim (fun h => by have z := hClt _ h; (try dsimp only at *); omega) (fun h => by (try dsimp only at *); omega))
            refine WL.nil (WE.sub (K' := [(0, .iface 33 (.pointer (some ⟨g, 0, none⟩))), (1, .agg #[.bool p.neg, .int .i64 p.l.f, .slice a1 p.l.args.length c1, .int .i64 p.r.f, .slice a2 p.r.args.length c2]), (2, .agg #[.bool l.neg, .int .i64 l.l.f, .slice a3 l.l.args.length c3, .int .i64 l.r.f, .slice a4 l.r.args.length c4]), (3, .bool tu), (5, .pointer (some ⟨g2, 0, none⟩)), (6, .pointer (some ⟨g9, 0, none⟩)), (8, .bool false), (9, .int .i64 (((st.length : Nat) : Int))), (19, .bool (((p.neg != l.neg) || (p.atom != l.atom)))), (20, .bool tu), (42, .bool ((mOk p.r l.r (mTo p.l l.l st))))]) ⟨rfl, rfl, rfl, rfl, rfl, rfl, rfl, rfl, rfl, rfl, rfl, trivial⟩ ?_)
            refine WE.next ?_
            refine WC.seq ?_
            refine WC.region ?_
            refine WL.val (.bool false) rfl rfl rfl (fun za zC zh zk => wp_assign rfl (zh.ev rfl) zk) ?_
            refine WL.nil (WE.sub (K' := [(0, .iface 33 (.pointer (some ⟨g, 0, none⟩))), (1, .agg #[.bool p.neg, .int .i64 p.l.f, .slice a1 p.l.args.length c1, .int .i64 p.r.f, .slice a2 p.r.args.length c2]), (2, .agg #[.bool l.neg, .int .i64 l.l.f, .slice a3 l.l.args.length c3, .int .i64 l.r.f, .slice a4 l.r.args.length c4]), (3, .bool tu), (5, .pointer (some ⟨g2, 0, none⟩)), (6, .pointer (some ⟨g9, 0, none⟩)), (8, .bool false), (9, .int .i64 (((st.length : Nat) : Int))), (19, .bool (((p.neg != l.neg) || (p.atom != l.atom)))), (20, .bool tu), (42, .bool ((mOk p.r l.r (mTo p.l l.l st))))]) ⟨rfl, rfl, rfl, rfl, rfl, rfl, rfl, rfl, rfl, rfl, rfl, trivial⟩ ?_)
            refine WE.next ?_
            refine WC.ret ?_
            refine WE.ret1 rfl rfl ?_
            have hs112 : Chg ((Since w19 C)) w19 w107 := (Chg.trans2 (Chg.trans2 (Chg.trans2 (Chg.trans2 (Chg.refl ((Since w19 C)) _) (Chg.ofBelow (S := fun k => k < 0) hb88) (fun i h1 h2 => by first | exact h2 | exact .inl h2 | exact .inr h2 | exact .inr (.inl h2) | exact .inr (.inr h2) | ((try dsimp only at *); omega))) hc95 (fun i h1 h2 => by first | exact h2 | exact .inl h2 | exact .inr h2 | exact .inr (.inl h2) | exact .inr (.inr h2) | ((try dsimp only at *); omega))) hc102 (fun i h1 h2 => by first | exact h2 | exact .inl h2 | exact .inr h2 | exact .inr (.inl h2) | exact .inr (.inr h2) | ((try dsimp only at *); omega))) hc109 (fun i h1 h2 => by first | exact h2 | exact .inl h2 | exact .inr h2 | exact .inr (.inl h2) | exact .inr (.inr h2) | ((try dsimp only at *); omega)))
            have htu9 : tu = false := by simpa using h24
            have hsm : p.neg = l.neg ∧ p.atom = l.atom := by have z := h21; simp at z; exact z
            have hfin := lOk_no3 (p := p) (l := l) (b := tu) (st := st) (by rw [htu9]; exact Bool.eq_false_iff.1 h105)
            have hb9 : backTo (mTo p.r l.r (mTo p.l l.l st)) (st.length : Nat) = st := by rw [mTo_no (Bool.eq_false_iff.1 h105)]; have z1 := mTo_take p.l l.l st; rw [backTo_nat (by omega), z1.2.2]
            rw [hb9] at hgo108
            exact ⟨_, rfl, by rw [hfin.1, hfin.2]; obtain ⟨C9, z1, z2⟩ := MatGo.done hgo108 hb86.size; exact ⟨C9, rfl, z1, z2⟩, chg_since hb86 hs112⟩
        · refine WL.sub (K' := [(0, .iface 33 (.pointer (some ⟨g, 0, none⟩))), (1, .agg #[.bool p.neg, .int .i64 p.l.f, .slice a1 p.l.args.length c1, .int .i64 p.r.f, .slice a2 p.r.args.length c2]), (2, .agg #[.bool l.neg, .int .i64 l.l.f, .slice a3 l.l.args.length c3, .int .i64 l.r.f, .slice a4 l.r.args.length c4]), (3, .bool tu), (5, .pointer (some ⟨g2, 0, none⟩)), (6, .pointer (some ⟨g9, 0, none⟩)), (8, .bool false), (9, .int .i64 (((st.length : Nat) : Int))), (19, .bool (((p.neg != l.neg) || (p.atom != l.atom)))), (20, .bool tu), (29, .iface 33 (.pointer (some ⟨g, 0, none⟩))), (30, .pointer (some ⟨g2, 1, none⟩)), (31, .agg #[.int .i64 p.l.f, .slice a1 p.l.args.length c1]), (32, .pointer (some ⟨g9, 1, none⟩)), (33, .agg #[.int .i64 l.l.f, .slice a3 l.l.args.length c3]), (34, .bool ((mOk p.l l.l st))), (35, .bool false)]) ⟨rfl, rfl, rfl, rfl, rfl, rfl, rfl, rfl, rfl, rfl, rfl, rfl, rfl, rfl, rfl, rfl, (by exact congrArg (fun z => some (Value.bool z)) h98), trivial⟩ ?_
          refine WL.skip (d := 35) rfl rfl rfl rfl rfl ?_
          refine WL.skip (d := 35) rfl rfl rfl rfl rfl ?_
          refine WL.skip (d := 35) rfl rfl rfl rfl rfl ?_
          refine WL.skip (d := 35) rfl rfl rfl rfl rfl ?_
          refine WL.skip (d := 35) rfl rfl rfl rfl rfl ?_
          refine WL.skip (d := 35) rfl rfl rfl rfl rfl ?_
          refine WL.val (.bool false) rfl rfl rfl (fun za zC zh zk => wp_pickF rfl (zh.ev rfl) (zh.ev rfl) zk) ?_
          refine WL.nil (WE.sub (K' := [(0, .iface 33 (.pointer (some ⟨g, 0, none⟩))), (1, .agg #[.bool p.neg, .int .i64 p.l.f, .slice a1 p.l.args.length c1, .int .i64 p.r.f, .slice a2 p.r.args.length c2]), (2, .agg #[.bool l.neg, .int .i64 l.l.f, .slice a3 l.l.args.length c3, .int .i64 l.r.f, .slice a4 l.r.args.length c4]), (3, .bool tu), (5, .pointer (some ⟨g2, 0, none⟩)), (6, .pointer (some ⟨g9, 0, none⟩)), (8, .bool false), (9, .int .i64 (((st.length : Nat) : Int))), (19, .bool (((p.neg != l.neg) || (p.atom != l.atom)))), (20, .bool tu), (42, .bool false)]) ⟨rfl, rfl, rfl, rfl, rfl, rfl, rfl, rfl, rfl, rfl, rfl, trivial⟩ ?_)
          refine WE.next ?_
          refine WC.condF rfl rfl ?_
          refine WC.skip ?_
          refine WE.next ?_
          refine WC.seq ?_
          refine WC.region ?_
          refine WL.val (.iface 33 (.pointer (some ⟨g, 0, none⟩))) rfl rfl rfl (fun za zC zh zk => wp_move rfl (zh.ev rfl) zk) ?_
          refine WL.val (.int .i64 (((st.length : Nat) : Int))) rfl rfl rfl (fun za zC zh zk => wp_move rfl (zh.ev rfl) zk) ?_
          refine WL.step (post := fun v w' => MatGo w19 C g (backTo (mTo p.l l.l st) (st.length : Nat)) w' ∧ Chg (Since w19 C) w93 w') rfl rfl rfl (fun za zC zh zk => wp_invk (by kernel_rfl) (inv_back _ _) rfl (zh.ev rfl) (hv1 (zh.ev rfl)) (back_go (st.length : Nat) hgo94) (fun v w' h => zk v w' h)) ?_
          rintro _ w113 ⟨hgo114, hc115⟩
          have hB116 := chg_blk hB96 hc115 (fun h => h.elim (fun h => by have z := hClt _ h; (try dsimp only at *); omega) (fun h => by (try dsimp only at *); omega))
          have hB117 := chg_blk hB97 hc115 (fun h => h.elim (fun h => by have z := hClt _ h; (try dsimp only at *); omega) (fun h => by (try dsimp only at *); omega))
          refine WL.nil (WE.sub (K' := [(0, .iface 33 (.pointer (some ⟨g, 0, none⟩))), (1, .agg #[.bool p.neg, .int .i64 p.l.f, .slice a1 p.l.args.length c1, .int .i64 p.r.f, .slice a2 p.r.args.length c2]), (2, .agg #[.bool l.neg, .int .i64 l.l.f, .slice a3 l.l.args.length c3, .int .i64 l.r.f, .slice a4 l.r.args.length c4]), (3, .bool tu), (5, .pointer (some ⟨g2, 0, none⟩)), (6, .pointer (some ⟨g9, 0, none⟩)), (8, .bool false), (9, .int .i64 (((st.length : Nat) : Int))), (19, .bool (((p.neg != l.neg) || (p.atom != l.atom)))), (20, .bool tu), (42, .bool false)]) ⟨rfl, rfl, rfl, rfl, rfl, rfl, rfl, rfl, rfl, rfl, rfl, trivial⟩ ?_)
          refine WE.next ?_
          refine WC.seq ?_
          refine WC.region ?_
          refine WL.val (.bool false) rfl rfl rfl (fun za zC zh zk => wp_assign rfl (zh.ev rfl) zk) ?_
          refine WL.nil (WE.sub (K' := [(0, .iface 33 (.pointer (some ⟨g, 0, none⟩))), (1, .agg #[.bool p.neg, .int .i64 p.l.f, .slice a1 p.l.args.length c1, .int .i64 p.r.f, .slice a2 p.r.args.length c2]), (2, .agg #[.bool l.neg, .int .i64 l.l.f, .slice a3 l.l.args.length c3, .int .i64 l.r.f, .slice a4 l.r.args.length c4]), (3, .bool tu), (5, .pointer (some ⟨g2, 0, none⟩)), (6, .pointer (some ⟨g9, 0, none⟩)), (8, .bool false), (9, .int .i64 (((st.length : Nat) : Int))), (19, .bool (((p.neg != l.neg) || (p.atom != l.atom)))), (20, .bool tu), (42, .bool false)]) ⟨rfl, rfl, rfl, rfl, rfl, rfl, rfl, rfl, rfl, rfl, rfl, trivial⟩ ?_)
          refine WE.next ?_
          refine WC.ret ?_
          refine WE.ret1 rfl rfl ?_
          have hs118 : Chg ((Since w19 C)) w19 w113 := (Chg.trans2 (Chg.trans2 (Chg.trans2 (Chg.refl ((Since w19 C)) _) (Chg.ofBelow (S := fun k => k < 0) hb88) (fun i h1 h2 => by first | exact h2 | exact .inl h2 | exact .inr h2 | exact .inr (.inl h2) | exact .inr (.inr h2) | ((try dsimp only at *); omega))) hc95 (fun i h1 h2 => by first | exact h2 | exact .inl h2 | exact .inr h2 | exact .inr (.inl h2) | exact .inr (.inr h2) | ((try dsimp only at *); omega))) hc115 (fun i h1 h2 => by first | exact h2 | exact .inl h2 | exact .inr h2 | exact .inr (.inl h2) | exact .inr (.inr h2) | ((try dsimp only at *); omega)))
          have htu9 : tu = false := by simpa using h24
          have hsm : p.neg = l.neg ∧ p.atom = l.atom := by have z := h21; simp at z; exact z
          have hfin := lOk_no2 (p := p) (l := l) (b := tu) (st := st) (by rw [htu9]; exact Bool.eq_false_iff.1 h98)
          have hb9 : backTo (mTo p.l l.l st) (st.length : Nat) = st := by have z1 := mTo_take p.l l.l st; rw [backTo_nat (by omega), z1.2.2]
          rw [hb9] at hgo114
          exact ⟨_, rfl, by rw [hfin.1, hfin.2]; obtain ⟨C9, z1, z2⟩ := MatGo.done hgo114 hb86.size; exact ⟨C9, rfl, z1, z2⟩, chg_since hb86 hs118⟩

end Go.Proofs.Ytcmfjnadjddboaa

namespace Go.Proofs.Ytcmfjnadjddboaa
open Go.RowKit Go
set_option linter.unusedVariables false
set_option linter.unusedSimpArgs false

set_option maxRecDepth 100000 in
theorem rget_any {g : Nat} {st : List Bd} {a : Option Addr} {c : Nat} (v : Int) (w : World) (hB : Blk w g 37 #[.slice a st.length c]) (hr : InRow eltB (fun _ => True) w st a) (hc1 : st.length ≤ c) (hc2 : c ≤ 9223372036854775807) : Calls Try.prog 59 #[.pointer (some ⟨g, 0, none⟩), .int .i64 v] w (Ret fun v' w' => RGetIs st v v' w' ∧ Below w.heap.size w w') := by
  refine Calls.walk (l := [.pointer (some ⟨g, 0, none⟩), .int .i64 v]) Try.func59 rfl (by kernel_rfl) ?_
  refine WC.sub (K' := [(0, .pointer (some ⟨g, 0, none⟩)), (1, .int .i64 v)]) ⟨rfl, rfl, trivial⟩ ?_
  refine WC.seq ?_
  refine WC.region ?_
  refine WL.step (post := NewBlk w 24 #[.int .i64 0, .slice none 0 0]) rfl rfl rfl (fun za zC zh zk => alloc_24 rfl (zk _ _ (newBlk _ _ _))) ?_
  rintro _ w1 ⟨g2, rfl, hg3, hB4, hb5, hz6⟩
  have hl7 : g < g2 := by have z1 := hB.lt; omega
  have hl8 : w.heap.size ≤ g2 := by omega
  refine WL.val (.bool false) rfl rfl rfl (fun za zC zh zk => wp_assign rfl (zh.ev rfl) zk) ?_
  refine WL.nil (WE.sub (K' := [(0, .pointer (some ⟨g, 0, none⟩)), (1, .int .i64 v), (4, .pointer (some ⟨g2, 0, none⟩)), (5, .bool false)]) ⟨rfl, rfl, rfl, rfl, trivial⟩ ?_)
  refine WE.next ?_
  refine WC.seq ?_
  refine WC.seq ?_
  refine WC.region ?_
  refine WL.val (.int .i64 0) rfl rfl rfl (fun za zC zh zk => wp_assign rfl (zh.ev rfl) zk) ?_
  refine WL.nil (WE.sub (K' := [(0, .pointer (some ⟨g, 0, none⟩)), (1, .int .i64 v), (4, .pointer (some ⟨g2, 0, none⟩)), (5, .bool false), (6, .int .i64 0)]) ⟨rfl, rfl, rfl, rfl, rfl, trivial⟩ ?_)
  refine WE.next ?_
  refine WC.block ?_
  refine WC.loop (X := Nat) (fun k => st.length - k) (fun k => [(0, .pointer (some ⟨g, 0, none⟩)), (1, .int .i64 v), (4, .pointer (some ⟨g2, 0, none⟩)), (6, .int .i64 (((k : Nat) : Int)))]) (fun k w9 => k ≤ st.length ∧ (∀ i, i < k → (dget st i).var ≠ v) ∧ Below w.heap.size w w9 ∧ Blk w9 g 37 #[.slice a st.length c] ∧ Blk w9 g2 24 #[.int .i64 0, .slice none 0 0]) 0 ⟨rfl, rfl, rfl, rfl, trivial⟩ ?_ ?_
  · have hB10 := hB.below hb5
    exact ⟨Nat.zero_le _, fun i h => absurd h (Nat.not_lt_zero i), hb5, hB10, hB4⟩
  · rintro k w9 ⟨hk, hE, hb11, hB12, hB13⟩
    refine WC.seq ?_
    refine WC.seq ?_
    refine WC.region ?_
    refine WL.val (.int .i64 (((k : Nat) : Int))) rfl rfl rfl (fun za zC zh zk => wp_move rfl (zh.ev rfl) zk) ?_
    refine WL.val (.pointer (some ⟨g, 0, none⟩)) rfl rfl rfl (fun za zC zh zk => wp_move rfl (zh.ev rfl) zk) ?_
    refine WL.val (.pointer (some ⟨g, 0, none⟩)) rfl rfl rfl (fun za zC zh zk => nilCheck_ rfl (zh.ev rfl) zk) ?_
    refine WL.val (.pointer (some ⟨g, 0, none⟩)) rfl rfl rfl (fun za zC zh zk => fld_37_0 rfl (zh.ev rfl) zk) ?_
    refine WL.val (.slice a st.length c) rfl rfl rfl (fun za zC zh zk => ld_25 rfl (zh.ev rfl) ((hB12.cell 0).trans rfl) zk) ?_
    refine WL.val (.int .i64 (((st.length : Nat) : Int))) rfl rfl rfl (fun za zC zh zk => len_25 rfl (zh.ev rfl) zk) ?_
    refine WL.val (.bool ((decide ((((k : Nat) : Int) : Int) < (((st.length : Nat) : Int) : Int))))) rfl rfl rfl (fun za zC zh zk => lss_3 rfl (zh.ev rfl) (zh.ev rfl) zk) ?_
    refine WL.nil (WE.sub (K' := [(0, .pointer (some ⟨g, 0, none⟩)), (1, .int .i64 v), (4, .pointer (some ⟨g2, 0, none⟩)), (6, .int .i64 (((k : Nat) : Int))), (13, .bool ((decide ((((k : Nat) : Int) : Int) < (((st.length : Nat) : Int) : Int)))))]) ⟨rfl, rfl, rfl, rfl, rfl, trivial⟩ ?_)
    refine WE.next ?_
    refine WC.cond rfl (fun h14 => ?_) (fun h14 => ?_)
    · have h14 : (((k : Nat) : Int) : Int) < (((st.length : Nat) : Int) : Int) := by simpa using h14
      refine WC.skip ?_
      refine WE.next ?_
      refine WC.seq ?_
      refine WC.block ?_
      refine WC.seq ?_
      refine WC.region ?_
      refine WL.val (.pointer (some ⟨g, 0, none⟩)) rfl rfl rfl (fun za zC zh zk => wp_move rfl (zh.ev rfl) zk) ?_
      refine WL.val (.pointer (some ⟨g, 0, none⟩)) rfl rfl rfl (fun za zC zh zk => nilCheck_ rfl (zh.ev rfl) zk) ?_
      refine WL.val (.pointer (some ⟨g, 0, none⟩)) rfl rfl rfl (fun za zC zh zk => fld_37_0 rfl (zh.ev rfl) zk) ?_
      refine WL.val (.slice a st.length c) rfl rfl rfl (fun za zC zh zk => ld_25 rfl (zh.ev rfl) ((hB12.cell 0).trans rfl) zk) ?_
      refine WL.val (.int .i64 (((k : Nat) : Int))) rfl rfl rfl (fun za zC zh zk => wp_move rfl (zh.ev rfl) zk) ?_
      obtain ⟨b15, o16, A17, C18, ha19, hc20⟩ := InRow.openB hr
      refine WL.val (.pointer (some ⟨b15, o16 + k * 3, none⟩)) rfl rfl rfl (fun za zC zh zk => ix_25 (k := k) rfl (zh.ev rfl) (ha19 k (by first | omega | (simp; omega))) (zh.ev rfl) (by first | omega | (simp; omega)) zk) ?_
      refine WL.val (.pointer (some ⟨b15, o16 + k * 3, none⟩)) rfl rfl rfl (fun za zC zh zk => fld_57_0 rfl (zh.ev rfl) zk) ?_
      refine WL.val (.int .i64 ((dget st k).var)) rfl rfl rfl (fun za zC zh zk => ld_3 rfl (zh.ev rfl) (bkeeps hb11 _ _ (hc20 k (by first | omega | (simp; omega))).1) zk) ?_
      refine WL.val (.int .i64 v) rfl rfl rfl (fun za zC zh zk => wp_move rfl (zh.ev rfl) zk) ?_
      refine WL.val (.bool ((((dget st k).var : Int) == (v : Int)))) rfl rfl rfl (fun za zC zh zk => eql_3 rfl (zh.ev rfl) (zh.ev rfl) zk) ?_
      refine WL.nil (WE.sub (K' := [(0, .pointer (some ⟨g, 0, none⟩)), (1, .int .i64 v), (4, .pointer (some ⟨g2, 0, none⟩)), (6, .int .i64 (((k : Nat) : Int))), (13, .bool ((decide ((((k : Nat) : Int) : Int) < (((st.length : Nat) : Int) : Int))))), (25, .bool ((((dget st k).var : Int) == (v : Int))))]) ⟨rfl, rfl, rfl, rfl, rfl, rfl, trivial⟩ ?_)
      refine WE.next ?_
      refine WC.cond rfl (fun h21 => ?_) (fun h21 => ?_)
      · have h21 : ((dget st k).var : Int) = (v : Int) := by simpa using h21
        refine WC.seq ?_
        refine WC.region ?_
        refine WL.val (.pointer (some ⟨g, 0, none⟩)) rfl rfl rfl (fun za zC zh zk => wp_move rfl (zh.ev rfl) zk) ?_
        refine WL.val (.pointer (some ⟨g, 0, none⟩)) rfl rfl rfl (fun za zC zh zk => nilCheck_ rfl (zh.ev rfl) zk) ?_
        refine WL.val (.pointer (some ⟨g, 0, none⟩)) rfl rfl rfl (fun za zC zh zk => fld_37_0 rfl (zh.ev rfl) zk) ?_
        refine WL.val (.slice a st.length c) rfl rfl rfl (fun za zC zh zk => ld_25 rfl (zh.ev rfl) ((hB12.cell 0).trans rfl) zk) ?_
        refine WL.val (.int .i64 (((k : Nat) : Int))) rfl rfl rfl (fun za zC zh zk => wp_move rfl (zh.ev rfl) zk) ?_
        refine WL.val (.pointer (some ⟨b15, o16 + k * 3, none⟩)) rfl rfl rfl (fun za zC zh zk => ix_25 (k := k) rfl (zh.ev rfl) (ha19 k (by first | omega | (simp; omega))) (zh.ev rfl) (by first | omega | (simp; omega)) zk) ?_
        refine WL.val (.pointer (some ⟨b15, o16 + k * 3 + 1, none⟩)) rfl rfl rfl (fun za zC zh zk => fld_57_1 rfl (zh.ev rfl) zk) ?_
        refine WL.val (.agg #[.int .i64 ((dget st k).t.f), .slice ((A17 k)) ((dget st k).t.args.length) ((C18 k))]) rfl rfl rfl (fun za zC zh zk => ld_24 rfl (zh.ev rfl) (bkeeps hb11 _ _ (hc20 k (by first | omega | (simp; omega))).2.1) (bkeeps hb11 _ _ (hc20 k (by first | omega | (simp; omega))).2.2.1) zk) ?_
        refine WL.step (post := fun _ w' => Upd g2 w9 w' ∧ Blk w' g2 24 #[.int .i64 ((dget st k).t.f), .slice ((A17 k)) ((dget st k).t.args.length) ((C18 k))]) rfl rfl rfl (fun za zC zh zk => st_24 rfl (zh.ev rfl) (zh.ev rfl) rfl rfl hB13 (by first | decide | simp) (fun v => zk v _ ⟨(Upd.at_ _ _ _ _).trans (Upd.at_ _ _ _ _), (hB13.set_ 0 _).set_ 1 _⟩)) ?_
        rintro v25 w22 ⟨hu23, hB24⟩
        have hb26 := upd_below hb11 hu23 (by omega)
        have hB27 := upd_blk hB12 hu23 (by omega)
        refine WL.val (.bool true) rfl rfl rfl (fun za zC zh zk => wp_assign rfl (zh.ev rfl) zk) ?_
        refine WL.nil (WE.sub (K' := [(0, .pointer (some ⟨g, 0, none⟩)), (1, .int .i64 v), (4, .pointer (some ⟨g2, 0, none⟩)), (5, .bool true), (6, .int .i64 (((k : Nat) : Int))), (13, .bool ((decide ((((k : Nat) : Int) : Int) < (((st.length : Nat) : Int) : Int))))), (25, .bool ((((dget st k).var : Int) == (v : Int))))]) ⟨rfl, rfl, rfl, rfl, rfl, rfl, rfl, trivial⟩ ?_)
        refine WE.next ?_
        refine WC.ret ?_
        refine WE.blockRet ?_
        refine WE.thenRet ?_
        refine WE.thenRet ?_
        refine WE.blockRet ?_
        refine WE.thenRet ?_
        refine WE.retAny (v := .tuple #[.agg #[.int .i64 ((dget st k).t.f), .slice ((A17 k)) ((dget st k).t.args.length) ((C18 k))], .bool true]) (fun za zh => ?_) ?_
        · have z0 : za.tmps[4]?.getD undef = .pointer (some ⟨g2, 0, none⟩) := by rw [← Array.getD_eq_getD_getElem?]; exact zh.knows 4 _ rfl
          have y0_0 : w22.cell? ⟨g2, 0, none⟩ = some (.int .i64 ((dget st k).t.f)) := ((hB24.cell 0).trans rfl)
          have y0_1 : w22.cell? ⟨g2, 1, none⟩ = some (.slice ((A17 k)) ((dget st k).t.args.length) ((C18 k))) := ((hB24.cell 1).trans rfl)
          have z1 : za.tmps[5]?.getD undef = .bool true := by rw [← Array.getD_eq_getD_getElem?]; exact zh.knows 5 _ rfl
          simp [results, Try.results59, z0, y0_0, y0_1, z1, go_sem]
        · have hf9 := subFind_here (v := v) (by omega) hE (by simpa using h21)
          refine ⟨_, rfl, ?_, hb26⟩
          unfold RGetIs
          rw [hf9]
          exact ⟨_, _, rfl, (IsT.below hb26 (InT.isT (hc20 k (by first | omega | (simp; omega))).2.2.2.1))⟩
      · have h21 : ¬ (((dget st k).var : Int) = (v : Int)) := by simpa using h21
        refine WC.skip ?_
        refine WE.blockNormal ?_
        refine WE.next ?_
        refine WC.region ?_
        refine WL.val (.int .i64 (((k : Nat) : Int))) rfl rfl rfl (fun za zC zh zk => wp_move rfl (zh.ev rfl) zk) ?_
        refine WL.val (.int .i64 ((((k + 1) : Nat) : Int))) rfl rfl rfl (fun za zC zh zk => addb_3 rfl (zh.ev rfl) (zh.ev rfl) (wrap_eq (by omega) (by omega) (by omega)) zk) ?_
        refine WL.val (.int .i64 ((((k + 1) : Nat) : Int))) rfl rfl rfl (fun za zC zh zk => wp_assign rfl (zh.ev rfl) zk) ?_
        refine WL.nil (WE.sub (K' := [(0, .pointer (some ⟨g, 0, none⟩)), (1, .int .i64 v), (4, .pointer (some ⟨g2, 0, none⟩)), (6, .int .i64 ((((k + 1) : Nat) : Int))), (13, .bool ((decide ((((k : Nat) : Int) : Int) < (((st.length : Nat) : Int) : Int))))), (25, .bool ((((dget st k).var : Int) == (v : Int))))]) ⟨rfl, rfl, rfl, rfl, rfl, rfl, trivial⟩ ?_)
        refine WE.round (k + 1) ⟨rfl, rfl, rfl, rfl, trivial⟩ ?_ ?_
        · exact ⟨by omega, fun i hi => by rcases Nat.lt_or_ge i k with q | q; exact hE i q; (obtain rfl : i = k := by omega); simpa using h21, hb11, hB12, hB13⟩
        · omega
    · have h14 : ¬ ((((k : Nat) : Int) : Int) < (((st.length : Nat) : Int) : Int)) := by simpa using h14
      refine WC.exit ?_
      refine WE.thenExit ?_
      refine WE.thenExit ?_
      refine WE.blockIs rfl ?_
      refine WE.next ?_
      refine WC.seq ?_
      refine WC.region ?_
      refine WL.val (.agg #[.int .i64 0, .slice none 0 0]) rfl rfl rfl (fun za zC zh zk => build_24_ rfl  zk) ?_
      refine WL.step (post := fun _ w' => Upd g2 w9 w' ∧ Blk w' g2 24 #[.int .i64 0, .slice none 0 0]) rfl rfl rfl (fun za zC zh zk => st_24 rfl (zh.ev rfl) (zh.ev rfl) rfl rfl hB13 (by first | decide | simp) (fun v => zk v _ ⟨(Upd.at_ _ _ _ _).trans (Upd.at_ _ _ _ _), (hB13.set_ 0 _).set_ 1 _⟩)) ?_
      rintro v31 w28 ⟨hu29, hB30⟩
      have hb32 := upd_below hb11 hu29 (by omega)
      have hB33 := upd_blk hB12 hu29 (by omega)
      refine WL.val (.bool false) rfl rfl rfl (fun za zC zh zk => wp_assign rfl (zh.ev rfl) zk) ?_
      refine WL.nil (WE.sub (K' := [(0, .pointer (some ⟨g, 0, none⟩)), (1, .int .i64 v), (4, .pointer (some ⟨g2, 0, none⟩)), (5, .bool false), (6, .int .i64 (((k : Nat) : Int))), (13, .bool ((decide ((((k : Nat) : Int) : Int) < (((st.length : Nat) : Int) : Int)))))]) ⟨rfl, rfl, rfl, rfl, rfl, rfl, trivial⟩ ?_)
      refine WE.next ?_
      refine WC.ret ?_
      refine WE.retAny (v := .tuple #[.agg #[.int .i64 0, .slice none 0 0], .bool false]) (fun za zh => ?_) ?_
      · have z0 : za.tmps[4]?.getD undef = .pointer (some ⟨g2, 0, none⟩) := by rw [← Array.getD_eq_getD_getElem?]; exact zh.knows 4 _ rfl
        have y0_0 : w28.cell? ⟨g2, 0, none⟩ = some (.int .i64 0) := ((hB30.cell 0).trans rfl)
        have y0_1 : w28.cell? ⟨g2, 1, none⟩ = some (.slice none 0 0) := ((hB30.cell 1).trans rfl)
        have z1 : za.tmps[5]?.getD undef = .bool false := by rw [← Array.getD_eq_getD_getElem?]; exact zh.knows 5 _ rfl
        simp [results, Try.results59, z0, y0_0, y0_1, z1, go_sem]
      · have hf9 := subFind_gone (v := v) (st := st) (fun i hi => hE i (by omega))
        refine ⟨_, rfl, ?_, hb32⟩
        unfold RGetIs
        rw [hf9]

set_option maxRecDepth 100000 in
theorem rterm_any : ∀ p : T, RtSpec p := by
  refine T.ind (fun f l ih => ?_)
  intro t g st D A w u v h hp ht hA hzp hzt hn
  have h0 := h
  obtain ⟨a, c, hR⟩ := h
  have hDlt := hR.dlt
  have hgl := hR.blk.lt
  obtain ⟨hcap1, hcap2⟩ := hR.cap
  unfold maxLen at hcap2
  obtain ⟨hf64, pa0, pc0, rfl, hpc1, hpc2, _⟩ := hp.form
  have hf64b := hf64
  rw [T.f_mk] at hf64b
  unfold I64 at hf64b
  have hn2 := hn
  rw [T.size] at hn2
  obtain ⟨hft, ta0, tc0, rfl, htc1, htc2, _⟩ := ht.form
  unfold maxLen at hpc2 htc2
  have hA0 : ∀ b, (A b ∧ b < w.heap.size) → A b := fun b q => q.1
  have hzl : T.sizeL l + 1 ≤ 4294967296 := by have z := hzp; rw [T.size] at z; omega
  have hll := len_le_sizeL l
  have hlt := len_le_sizeL t.args
  have hzt2 : T.sizeL t.args + 1 ≤ 4294967296 := by have z := hzt; rw [T.size_eq] at z; omega
  refine Calls.walk (l := [.pointer (some ⟨g, 0, none⟩), .agg #[.int .i64 f, .slice pa0 l.length pc0], .agg #[.int .i64 t.f, .slice ta0 t.args.length tc0]]) Try.func37 rfl (by kernel_rfl) ?_
  refine WC.sub (K' := [(0, .pointer (some ⟨g, 0, none⟩)), (1, .agg #[.int .i64 f, .slice pa0 l.length pc0]), (2, .agg #[.int .i64 t.f, .slice ta0 t.args.length tc0])]) ⟨rfl, rfl, rfl, trivial⟩ ?_
  refine WC.seq ?_
  refine WC.region ?_
  refine WL.step (post := NewBlk w 24 #[.int .i64 f, .slice pa0 l.length pc0]) rfl rfl rfl (fun za zC zh zk => box_24 rfl (zh.ev rfl) (zk _ _ (newBlk _ _ _))) ?_
  rintro _ w1 ⟨g2, rfl, hg3, hB4, hb5, hz6⟩
  have hl7 : g < g2 := by have z1 := hR.blk.lt; omega
  have hl8 : w.heap.size ≤ g2 := by omega
  refine WL.step (post := NewBlk w1 24 #[.int .i64 t.f, .slice ta0 t.args.length tc0]) rfl rfl rfl (fun za zC zh zk => box_24 rfl (zh.ev rfl) (zk _ _ (newBlk _ _ _))) ?_
  rintro _ w9 ⟨g10, rfl, hg11, hB12, hb13, hz14⟩
  have hl15 : g < g10 := by have z1 := hR.blk.lt; have z2 := (hb5).size; omega
  have hl16 : g2 < g10 := by have z1 := hB4.lt; omega
  have hl17 : w.heap.size ≤ g10 := by have z2 := (hb5).size; omega
  refine WL.val (.bool false) rfl rfl rfl (fun za zC zh zk => wp_assign rfl (zh.ev rfl) zk) ?_
  refine WL.nil (WE.sub (K' := [(0, .pointer (some ⟨g, 0, none⟩)), (1, .agg #[.int .i64 f, .slice pa0 l.length pc0]), (2, .agg #[.int .i64 t.f, .slice ta0 t.args.length tc0]), (4, .pointer (some ⟨g2, 0, none⟩)), (5, .pointer (some ⟨g10, 0, none⟩)), (6, .bool false)]) ⟨rfl, rfl, rfl, rfl, rfl, rfl, trivial⟩ ?_)
  refine WE.next ?_
  refine WC.seq ?_
  refine WC.seq ?_
  refine WC.region ?_
  refine WL.val (.pointer (some ⟨g2, 0, none⟩)) rfl rfl rfl (fun za zC zh zk => fld_24_0 rfl (zh.ev rfl) zk) ?_
  have hB18 := hB4.below hb13
  refine WL.val (.int .i64 f) rfl rfl rfl (fun za zC zh zk => ld_3 rfl (zh.ev rfl) ((hB18.cell 0).trans rfl) zk) ?_
  refine WL.val (.bool ((decide ((f : Int) < (0 : Int))))) rfl rfl rfl (fun za zC zh zk => lss_3 rfl (zh.ev rfl) (zh.ev rfl) zk) ?_
  refine WL.nil (WE.sub (K' := [(0, .pointer (some ⟨g, 0, none⟩)), (1, .agg #[.int .i64 f, .slice pa0 l.length pc0]), (2, .agg #[.int .i64 t.f, .slice ta0 t.args.length tc0]), (4, .pointer (some ⟨g2, 0, none⟩)), (5, .pointer (some ⟨g10, 0, none⟩)), (6, .bool false), (12, .bool ((decide ((f : Int) < (0 : Int)))))]) ⟨rfl, rfl, rfl, rfl, rfl, rfl, rfl, trivial⟩ ?_)
  refine WE.next ?_
  refine WC.cond rfl (fun h19 => ?_) (fun h19 => ?_)
  · have h19 : (f : Int) < (0 : Int) := by simpa using h19
    refine WC.seq ?_
    refine WC.seq ?_
    refine WC.region ?_
    refine WL.val (.pointer (some ⟨g, 0, none⟩)) rfl rfl rfl (fun za zC zh zk => wp_move rfl (zh.ev rfl) zk) ?_
    refine WL.val (.pointer (some ⟨g2, 0, none⟩)) rfl rfl rfl (fun za zC zh zk => fld_24_0 rfl (zh.ev rfl) zk) ?_
    refine WL.val (.int .i64 f) rfl rfl rfl (fun za zC zh zk => ld_3 rfl (zh.ev rfl) ((hB18.cell 0).trans rfl) zk) ?_
    refine WL.val (.int .i64 ((-1 - f))) rfl rfl rfl (fun za zC zh zk => subb_3 rfl (zh.ev rfl) (zh.ev rfl) (wrap_eq rfl (by omega) (by omega)) zk) ?_
    have hb27 : Below w.heap.size w w9 := (bstep hb5 hb13)
    have hB26 := hR.blk.below hb27
    have hir := hR.rows.below hb27
    refine WL.call rfl rfl rfl (fun za zh zC => wp_call (by kernel_rfl) rfl (hv2 (zh.ev rfl) (zh.ev rfl))) (rget_any (-1 - f) w9 hB26 hir hcap1 (by omega)) ?_
    rintro v25 w20 ⟨hto21, hb22⟩
    unfold RGetIs at hto21
    rcases hf24 : subFind st (-1 - f) with _ | o23
    · rw [hf24] at hto21
      obtain rfl : v25 = _ := hto21
      refine WL.val (.tuple #[.agg #[.int .i64 0, .slice none 0 0], .bool false]) rfl rfl rfl (fun za zC zh zk => wp_move rfl (zh.ev rfl) zk) ?_
      refine WL.val (.agg #[.int .i64 0, .slice none 0 0]) rfl rfl rfl (fun za zC zh zk => ext2_0 rfl (zh.ev rfl) zk) ?_
      refine WL.val (.bool false) rfl rfl rfl (fun za zC zh zk => ext2_1 rfl (zh.ev rfl) zk) ?_
      refine WL.step (post := NewBlk w20 24 #[.int .i64 0, .slice none 0 0]) rfl rfl rfl (fun za zC zh zk => alloc_24 rfl (zk _ _ (newBlk _ _ _))) ?_
      rintro _ w28 ⟨g29, rfl, hg30, hB31, hb32, hz33⟩
      have hl34 : g < g29 := by have z1 := hB26.lt; have z2 := (hb22).size; omega
      have hl35 : g2 < g29 := by have z1 := hB18.lt; have z2 := (hb22).size; omega
      have hl36 : g10 < g29 := by have z1 := hB12.lt; have z2 := (hb22).size; omega
      have hb37 : Below w.heap.size w w20 := (bstep hb27 hb22)
      have hl38 : w.heap.size ≤ g29 := by have z2 := (hb37).size; omega
      have hl39 : w20.heap.size ≤ g29 := by omega
      refine WL.step (post := fun _ w' => Upd g29 w28 w' ∧ Blk w' g29 24 #[.int .i64 0, .slice none 0 0]) rfl rfl rfl (fun za zC zh zk => st_24 rfl (zh.ev rfl) (zh.ev rfl) rfl rfl hB31 (by first | decide | simp) (fun v => zk v _ ⟨(Upd.at_ _ _ _ _).trans (Upd.at_ _ _ _ _), (hB31.set_ 0 _).set_ 1 _⟩)) ?_
      rintro v43 w40 ⟨hu41, hB42⟩
      have hb44 : Below w.heap.size w w28 := (bstep hb37 hb32)
      have hb45 := upd_below hb44 hu41 (by omega)
      have hb46 := upd_below hb32 hu41 (by omega)
      have hb48 : Below w9.heap.size w9 w28 := (bstep hb22 hb32)
      have hB47 := hB26.below hb48
      have hB49 := upd_blk hB47 hu41 (by omega)
      have hB50 := hB18.below hb48
      have hB51 := upd_blk hB50 hu41 (by omega)
      have hB52 := hB12.below hb48
      have hB53 := upd_blk hB52 hu41 (by omega)
      refine WL.val (.bool false) rfl rfl rfl (fun za zC zh zk => wp_assign rfl (zh.ev rfl) zk) ?_
      refine WL.nil (WE.sub (K' := [(0, .pointer (some ⟨g, 0, none⟩)), (1, .agg #[.int .i64 f, .slice pa0 l.length pc0]), (2, .agg #[.int .i64 t.f, .slice ta0 t.args.length tc0]), (4, .pointer (some ⟨g2, 0, none⟩)), (5, .pointer (some ⟨g10, 0, none⟩)), (6, .bool false), (7, .pointer (some ⟨g29, 0, none⟩)), (8, .bool false), (12, .bool ((decide ((f : Int) < (0 : Int)))))]) ⟨rfl, rfl, rfl, rfl, rfl, rfl, rfl, rfl, rfl, trivial⟩ ?_)
      refine WE.next ?_
      refine WC.seq ?_
      refine WC.region ?_
      refine WL.val (.bool false) rfl rfl rfl (fun za zC zh zk => wp_move rfl (zh.ev rfl) zk) ?_
      refine WL.nil (WE.sub (K' := [(0, .pointer (some ⟨g, 0, none⟩)), (1, .agg #[.int .i64 f, .slice pa0 l.length pc0]), (2, .agg #[.int .i64 t.f, .slice ta0 t.args.length tc0]), (4, .pointer (some ⟨g2, 0, none⟩)), (5, .pointer (some ⟨g10, 0, none⟩)), (6, .bool false), (7, .pointer (some ⟨g29, 0, none⟩)), (8, .bool false), (12, .bool ((decide ((f : Int) < (0 : Int))))), (21, .bool false)]) ⟨rfl, rfl, rfl, rfl, rfl, rfl, rfl, rfl, rfl, rfl, trivial⟩ ?_)
      refine WE.next ?_
      refine WC.condF rfl rfl ?_
      refine WC.skip ?_
      refine WE.next ?_
      refine WC.seq ?_
      have hRR := hR.chg (S := fun _ => False) (.ofBelow hb45) (fun _ _ => id)
      have hgl5 : g < w40.heap.size := hB49.lt
      have hSlt : ∀ b, (fun b => b = g ∨ (Value.slice a st.length c).ownBlock = some b) b → b < w40.heap.size := fun b h => h.elim (fun e => by omega) (fun h => hRR.dlt b (hRR.drow b h))
      refine WC.tail2 (S := ((fun b => b = g ∨ (Value.slice a st.length c).ownBlock = some b))) [(true, .val (.pointer (some ⟨g, 0, none⟩))), (true, .val (.pointer (some ⟨g, 0, none⟩))), (true, .val (.pointer (some ⟨g, 0, none⟩))), (true, .val (.pointer (some ⟨g, 0, none⟩))), (true, .val (.slice a st.length c)), (true, .val (.pointer (some ⟨g2, 0, none⟩))), (true, .val (.int .i64 f)), (true, .val (.int .i64 ((-1 - f)))), (true, .val (.agg #[.int .i64 t.f, .slice ta0 t.args.length tc0])), (true, .mem (fun v w' => NewT w40 w' ((⟨-1 - f, t⟩ : Bd).t) v) (fun v w w' hc h => InT.chg h hc (fun b hb hs => by have z := hSlt b hs; omega))), (true, .mem (fun v w' => BdNew w40 w' ((⟨-1 - f, t⟩ : Bd)) v) (fun v w w' hc h => h.chg hc hSlt)), (true, .mem (fun v w' => OneRow eltB w40 57 ((⟨-1 - f, t⟩ : Bd)) v w') (fun v w w' hc h => h.chg hc hSlt)), (true, .val undef), (true, .val (.pointer (some ⟨g, 0, none⟩))), (true, .val (.pointer (some ⟨g, 0, none⟩))), (true, .val undef)] [(0, .pointer (some ⟨g, 0, none⟩)), (1, .agg #[.int .i64 f, .slice pa0 l.length pc0]), (2, .agg #[.int .i64 t.f, .slice ta0 t.args.length tc0]), (4, .pointer (some ⟨g2, 0, none⟩)), (5, .pointer (some ⟨g10, 0, none⟩)), (6, .bool false), (7, .pointer (some ⟨g29, 0, none⟩)), (8, .bool false), (12, .bool ((decide ((f : Int) < (0 : Int))))), (21, .bool false)] 12 15 ((st.length + 1)) 37 (fun ra rc wz => (∃ Z, RowD eltB Z wz 57 ra rc (st.length + 1) (st ++ [(⟨-1 - f, t⟩ : Bd)]) ∧ ∀ b, Z b → ((D b ∧ b ≠ g ∧ (Value.slice a st.length c).ownBlock ≠ some b) ∨ w40.heap.size ≤ b)) ∧ (∀ b, (Value.slice ra (st.length + 1) rc).ownBlock = some b → (Value.slice a st.length c).ownBlock = some b ∨ w40.heap.size ≤ b) ∧ Blk wz g 37 #[.slice a st.length c]) (fun ra rc wz => (∃ Z, RowD eltB Z wz 57 ra rc (st.length + 1) (st ++ [(⟨-1 - f, t⟩ : Bd)]) ∧ ∀ b, Z b → ((D b ∧ b ≠ g ∧ (Value.slice a st.length c).ownBlock ≠ some b) ∨ w40.heap.size ≤ b)) ∧ (∀ b, (Value.slice ra (st.length + 1) rc).ownBlock = some b → (Value.slice a st.length c).ownBlock = some b ∨ w40.heap.size ≤ b) ∧ Blk wz g 37 #[.slice ra (st.length + 1) rc]) (by decide) (fun ra rc w w' hb h => by obtain ⟨⟨Z, h1, h2⟩, h3, h4⟩ := h; exact ⟨⟨Z, h1.below hb, h2⟩, h3, h4.below hb⟩) (fun ra rc w w' hb h => by obtain ⟨⟨Z, h1, h2⟩, h3, h4⟩ := h; exact ⟨⟨Z, h1.below hb, h2⟩, h3, h4.below hb⟩) ⟨rfl, rfl, rfl, rfl, rfl, rfl, rfl, rfl, rfl, rfl, trivial⟩ (by kernel_rfl) (by kernel_rfl) (by kernel_rfl) (by kernel_rfl) (by kernel_rfl) ?_ ?_
      · refine ⟨.inl ⟨rfl, true, .none rfl, (fun gg b h => by cases h), fun h w => optUndef h, fun zβ za zw zc => ?_⟩, ?_⟩
        · exact wp_move rfl (zc.kn.ev rfl) ⟨_, rfl, Below.refl _ _, optDef zβ rfl⟩
        refine ⟨.inl ⟨rfl, true, .none rfl, (fun gg b h => by cases h), fun h w => optUndef h, fun zβ za zw zc => ?_⟩, ?_⟩
        · exact wp_move rfl (zc.kn.ev rfl) ⟨_, rfl, Below.refl _ _, optDef zβ rfl⟩
        refine ⟨.inl ⟨rfl, true, .none rfl, (fun gg b h => by cases h), fun h w => optUndef h, fun zβ za zw zc => ?_⟩, ?_⟩
        · exact nilCheck_ rfl ((show za.eval (.tmp 26) = za.tmps.getD 26 undef from rfl).trans (optSVal (zc.dep 1 26 (by kernel_rfl) (by decide)) rfl rfl)) ⟨_, rfl, Below.refl _ _, optDef zβ rfl⟩
        refine ⟨.inl ⟨rfl, true, .none rfl, (fun gg b h => by cases h), fun h w => optUndef h, fun zβ za zw zc => ?_⟩, ?_⟩
        · exact fld_37_0 rfl ((show za.eval (.tmp 27) = za.tmps.getD 27 undef from rfl).trans (optSVal (zc.dep 2 27 (by kernel_rfl) (by decide)) rfl rfl)) ⟨_, rfl, Below.refl _ _, optDef zβ rfl⟩
        refine ⟨.inl ⟨rfl, true, .none rfl, (fun gg b h => by cases h), fun h w => optUndef h, fun zβ za zw zc => ?_⟩, ?_⟩
        · exact ld_25 rfl ((show za.eval (.tmp 28) = za.tmps.getD 28 undef from rfl).trans (optSVal (zc.dep 3 28 (by kernel_rfl) (by decide)) rfl rfl)) (bkeeps (zc.early (by kernel_rfl)) _ _ ((hB49.cell 0).trans rfl)) ⟨_, rfl, Below.refl _ _, optDef zβ rfl⟩
        refine ⟨.inl ⟨rfl, true, .none rfl, (fun gg b h => by cases h), fun h w => optUndef h, fun zβ za zw zc => ?_⟩, ?_⟩
        · exact fld_24_0 rfl (zc.kn.ev rfl) ⟨_, rfl, Below.refl _ _, optDef zβ rfl⟩
        refine ⟨.inl ⟨rfl, true, .none rfl, (fun gg b h => by cases h), fun h w => optUndef h, fun zβ za zw zc => ?_⟩, ?_⟩
        · exact ld_3 rfl ((show za.eval (.tmp 30) = za.tmps.getD 30 undef from rfl).trans (optSVal (zc.dep 5 30 (by kernel_rfl) (by decide)) rfl rfl)) (bkeeps (zc.early (by kernel_rfl)) _ _ ((hB51.cell 0).trans rfl)) ⟨_, rfl, Below.refl _ _, optDef zβ rfl⟩
        refine ⟨.inl ⟨rfl, true, .none rfl, (fun gg b h => by cases h), fun h w => optUndef h, fun zβ za zw zc => ?_⟩, ?_⟩
        · exact subb_3 rfl (zc.kn.ev rfl) ((show za.eval (.tmp 31) = za.tmps.getD 31 undef from rfl).trans (optSVal (zc.dep 6 31 (by kernel_rfl) (by decide)) rfl rfl)) (wrap_eq rfl (by omega) (by omega)) ⟨_, rfl, Below.refl _ _, optDef zβ rfl⟩
        refine ⟨.inl ⟨rfl, true, .none rfl, (fun gg b h => by cases h), fun h w => optUndef h, fun zβ za zw zc => ?_⟩, ?_⟩
        · exact ld_24 rfl (zc.kn.ev rfl) (bkeeps (zc.early (by kernel_rfl)) _ _ ((hB53.cell 0).trans rfl)) (bkeeps (zc.early (by kernel_rfl)) _ _ ((hB53.cell 1).trans rfl)) ⟨_, rfl, Below.refl _ _, optDef zβ rfl⟩
        refine ⟨.inl ⟨rfl, true, .none rfl, (fun gg b h => by cases h), fun h w => optUndef h, fun zβ za zw zc => ?_⟩, ?_⟩
        · exact wp_call (by kernel_rfl) rfl (hv1 ((show za.eval (.tmp 33) = za.tmps.getD 33 undef from rfl).trans (optSVal (zc.dep 8 33 (by kernel_rfl) (by decide)) rfl rfl))) (rcopy_any t _ _ hzt (IsT.below (bstep hb45 (zc.early (by kernel_rfl))) (InT.isT ht))) (fun v w' h => ⟨v, rfl, h.2, optDef zβ (InT.mono (fun b hb _ => Nat.le_trans (zc.early (by kernel_rfl)).size hb) h.1)⟩)
        refine ⟨.inl ⟨rfl, true, .none rfl, (fun gg b h => by cases h), fun h w => optUndef h, fun zβ za zw zc => ?_⟩, ?_⟩
        · have zv := (optSMem (zc.dep 9 34 (by kernel_rfl) (by decide)) rfl rfl)
          obtain ⟨_, a1, c1, e1, _⟩ := zv.form
          rw [e1] at zv
          exact build_57_0_1 rfl ((show za.eval (.tmp 32) = za.tmps.getD 32 undef from rfl).trans (optSVal (zc.dep 7 32 (by kernel_rfl) (by decide)) rfl rfl)) ((show za.eval (.tmp 34) = za.tmps.getD 34 undef from rfl).trans e1) ⟨_, rfl, Below.refl _ _, optDef zβ ⟨_, _, rfl, (show I64 (-1 - f) by unfold I64; omega), zv⟩⟩
        refine ⟨.inl ⟨rfl, true, .none rfl, (fun gg b h => by cases h), fun h w => optUndef h, fun zβ za zw zc => ?_⟩, ?_⟩
        · have zv := (optSMem (zc.dep 10 35 (by kernel_rfl) (by decide)) rfl rfl)
          obtain ⟨u1, u2, e1, h0, zv⟩ := zv
          exact row_25_1 rfl ((show za.eval (.tmp 35) = za.tmps.getD 35 undef from rfl).trans e1) ⟨_, rfl, balloc _ _, optDef zβ ⟨_, _, rfl, zc.chg.size, Blk.new' rfl, ⟨_, _, rfl, h0, zv.below (balloc _ _)⟩⟩⟩
        refine ⟨.inr (.inl ⟨rfl, rfl, fun za zw zc => ?_⟩), ?_⟩
        · obtain ⟨g1, cs, e1, hg1, hB1, hin⟩ := (optSMem (zc.dep 11 36 (by kernel_rfl) (by decide)) rfl rfl)
          exact wp_appD (E := eltB) (size := 3) (bytes := 40) (z := .agg #[.int .i64 0, .int .i64 0, .slice none 0 0]) rfl Try.underlying25 (by kernel_rfl) rfl (by decide) rfl ((show za.eval (.tmp 29) = za.tmps.getD 29 undef from rfl).trans (optSVal (zc.dep 4 29 (by kernel_rfl) (by decide)) rfl rfl)) ((show za.eval (.tmp 36) = za.tmps.getD 36 undef from rfl).trans e1) (hRR.row.below zc.below) hB1 hin (fun b q e => by have z := hRR.dlt b (hRR.drow b e); omega) (by omega) (by omega) (fun ra rc w' h1 h2 h3 => ⟨ra, rc, rfl, ⟨⟨_, h1, fun b q => q.1.imp id id⟩, fun b e => (h3 b e).imp id (fun q => by have z := zc.below.size; omega), chg_blk (hB49.below zc.below) h2 (hRR.rowg)⟩, h2.mono (fun b hb => .inr hb)⟩)
        refine ⟨.inl ⟨rfl, true, .none rfl, (fun gg b h => by cases h), fun h w => optUndef h, fun zβ za zw zc => ?_⟩, ?_⟩
        · exact nilCheck_ rfl ((show za.eval (.tmp 25) = za.tmps.getD 25 undef from rfl).trans (optSVal (zc.dep 0 25 (by kernel_rfl) (by decide)) rfl rfl)) ⟨_, rfl, Below.refl _ _, optDef zβ rfl⟩
        refine ⟨.inl ⟨rfl, true, .none rfl, (fun gg b h => by cases h), fun h w => optUndef h, fun zβ za zw zc => ?_⟩, ?_⟩
        · exact fld_37_0 rfl ((show za.eval (.tmp 38) = za.tmps.getD 38 undef from rfl).trans (optSVal (zc.dep 13 38 (by kernel_rfl) (by decide)) rfl rfl)) ⟨_, rfl, Below.refl _ _, optDef zβ rfl⟩
        refine ⟨.inr (.inr ⟨rfl, rfl, 37, by kernel_rfl, fun za zw ra rc zk zd zv zg => ?_⟩), ?_⟩
        · obtain ⟨⟨Z, zr, zZ⟩, zo, zB⟩ := zg
          exact st_25 rfl ((show za.eval (.tmp 39) = za.tmps.getD 39 undef from rfl).trans (optSVal (zd 14 39 (by kernel_rfl) (by decide)) rfl rfl)) ((show za.eval (.tmp 37) = za.tmps.getD 37 undef from rfl).trans zv) zB (by first | decide | simp) (fun v => ⟨v, rfl, ⟨⟨Z, zr.chg (.ofUpd (S := fun b => b = g) (Upd.at_ _ _ _ _) rfl) (fun b q e => zr.neBlk zB (by decide) (by subst e; exact q)) (fun b q e => by rcases zZ b q with q | q; exact q.2.1 e; omega), zZ⟩, zo, zB.set_ 0 _⟩, .ofUpd (Upd.at_ _ _ _ _) (.inl rfl)⟩)
        exact trivial
      · intro za w54 ra57 rc58 zh zv hG55 hc56 zu
        have hB59 := chg_blk hB51 hc56 (fun h => h.elim (fun e => by omega) (fun h => by have z := hR.dlt _ (hR.drow _ h); omega))
        have hB60 := chg_blk hB53 hc56 (fun h => h.elim (fun e => by omega) (fun h => by have z := hR.dlt _ (hR.drow _ h); omega))
        have hB61 := chg_blk hB42 hc56 (fun h => h.elim (fun e => by omega) (fun h => by have z := hR.dlt _ (hR.drow _ h); omega))
        clear zu
        refine (show WE _ [(0, .pointer (some ⟨g, 0, none⟩)), (1, .agg #[.int .i64 f, .slice pa0 l.length pc0]), (2, .agg #[.int .i64 t.f, .slice ta0 t.args.length tc0]), (4, .pointer (some ⟨g2, 0, none⟩)), (5, .pointer (some ⟨g10, 0, none⟩)), (6, .bool false), (7, .pointer (some ⟨g29, 0, none⟩)), (8, .bool false), (12, .bool ((decide ((f : Int) < (0 : Int))))), (21, .bool false)] w54 _ .normal from ?_) za (zh.sub ⟨rfl, rfl, rfl, rfl, rfl, rfl, rfl, rfl, rfl, rfl, trivial⟩)
        refine WE.next ?_
        refine WC.seq ?_
        refine WC.region ?_
        refine WL.val (.bool true) rfl rfl rfl (fun za zC zh zk => wp_assign rfl (zh.ev rfl) zk) ?_
        refine WL.nil (WE.sub (K' := [(0, .pointer (some ⟨g, 0, none⟩)), (1, .agg #[.int .i64 f, .slice pa0 l.length pc0]), (2, .agg #[.int .i64 t.f, .slice ta0 t.args.length tc0]), (4, .pointer (some ⟨g2, 0, none⟩)), (5, .pointer (some ⟨g10, 0, none⟩)), (6, .bool true), (7, .pointer (some ⟨g29, 0, none⟩)), (8, .bool false), (12, .bool ((decide ((f : Int) < (0 : Int))))), (21, .bool false)]) ⟨rfl, rfl, rfl, rfl, rfl, rfl, rfl, rfl, rfl, rfl, trivial⟩ ?_)
        refine WE.next ?_
        refine WC.ret ?_
        refine WE.thenRet ?_
        refine WE.ret1 rfl rfl ?_
        have hs62 : Chg ((fun b => b = g ∨ (Value.slice a st.length c).ownBlock = some b)) w w54 := (Chg.trans2 (Chg.trans2 (Chg.refl ((fun b => b = g ∨ (Value.slice a st.length c).ownBlock = some b)) _) (Chg.ofBelow (S := fun k => k < 0) hb45) (fun i h1 h2 => by first | exact h2 | exact .inl h2 | exact .inr h2 | exact .inr (.inl h2) | exact .inr (.inr h2) | ((try dsimp only at *); omega))) hc56 (fun i h1 h2 => by first | exact h2 | exact .inl h2 | exact .inr h2 | exact .inr (.inl h2) | exact .inr (.inr h2) | ((try dsimp only at *); omega)))
        have hfin := mt_new_ok (l := l) (t := t) h19 hf24
        obtain ⟨⟨Z, zr, zZ⟩, zo, zB⟩ := hG55
        have hbw := (hb45).size
        refine ⟨_, rfl, ⟨_, _, congrArg Value.bool hfin.2.symm, ⟨_, _, hR.push zr (fun b q => (zZ b q).imp id (fun q => by omega)) (fun b q => (zo b q).imp id (fun q => by omega)) zB hzt (Nat.le_trans hb45.size hc56.size)⟩, fun b q => q.imp id (fun q => q.1), hfin.1⟩, hs62.mono (fun b q => by rcases q with rfl | q; exact hR.dg; exact hR.drow b q)⟩
    · rw [hf24] at hto21
      obtain ⟨a63, c64, rfl, h65⟩ := hto21
      refine WL.val (.tuple #[.agg #[.int .i64 o23.f, .slice a63 o23.args.length c64], .bool true]) rfl rfl rfl (fun za zC zh zk => wp_move rfl (zh.ev rfl) zk) ?_
      refine WL.val (.agg #[.int .i64 o23.f, .slice a63 o23.args.length c64]) rfl rfl rfl (fun za zC zh zk => ext2_0 rfl (zh.ev rfl) zk) ?_
      refine WL.val (.bool true) rfl rfl rfl (fun za zC zh zk => ext2_1 rfl (zh.ev rfl) zk) ?_
      refine WL.step (post := NewBlk w20 24 #[.int .i64 0, .slice none 0 0]) rfl rfl rfl (fun za zC zh zk => alloc_24 rfl (zk _ _ (newBlk _ _ _))) ?_
      rintro _ w66 ⟨g67, rfl, hg68, hB69, hb70, hz71⟩
      have hl72 : g < g67 := by have z1 := hB26.lt; have z2 := (hb22).size; omega
      have hl73 : g2 < g67 := by have z1 := hB18.lt; have z2 := (hb22).size; omega
      have hl74 : g10 < g67 := by have z1 := hB12.lt; have z2 := (hb22).size; omega
      have hb75 : Below w.heap.size w w20 := (bstep hb27 hb22)
      have hl76 : w.heap.size ≤ g67 := by have z2 := (hb75).size; omega
      have hl77 : w20.heap.size ≤ g67 := by omega
      refine WL.step (post := fun _ w' => Upd g67 w66 w' ∧ Blk w' g67 24 #[.int .i64 o23.f, .slice a63 o23.args.length c64]) rfl rfl rfl (fun za zC zh zk => st_24 rfl (zh.ev rfl) (zh.ev rfl) rfl rfl hB69 (by first | decide | simp) (fun v => zk v _ ⟨(Upd.at_ _ _ _ _).trans (Upd.at_ _ _ _ _), (hB69.set_ 0 _).set_ 1 _⟩)) ?_
      rintro v81 w78 ⟨hu79, hB80⟩
      have hb82 : Below w.heap.size w w66 := (bstep hb75 hb70)
      have hb83 := upd_below hb82 hu79 (by omega)
      have hb84 := upd_below hb70 hu79 (by omega)
      have hb86 : Below w9.heap.size w9 w66 := (bstep hb22 hb70)
      have hB85 := hB26.below hb86
      have hB87 := upd_blk hB85 hu79 (by omega)
      have hB88 := hB18.below hb86
      have hB89 := upd_blk hB88 hu79 (by omega)
      have hB90 := hB12.below hb86
      have hB91 := upd_blk hB90 hu79 (by omega)
      refine WL.val (.bool true) rfl rfl rfl (fun za zC zh zk => wp_assign rfl (zh.ev rfl) zk) ?_
      refine WL.nil (WE.sub (K' := [(0, .pointer (some ⟨g, 0, none⟩)), (1, .agg #[.int .i64 f, .slice pa0 l.length pc0]), (2, .agg #[.int .i64 t.f, .slice ta0 t.args.length tc0]), (4, .pointer (some ⟨g2, 0, none⟩)), (5, .pointer (some ⟨g10, 0, none⟩)), (6, .bool false), (7, .pointer (some ⟨g67, 0, none⟩)), (8, .bool true), (12, .bool ((decide ((f : Int) < (0 : Int)))))]) ⟨rfl, rfl, rfl, rfl, rfl, rfl, rfl, rfl, rfl, trivial⟩ ?_)
      refine WE.next ?_
      refine WC.seq ?_
      refine WC.region ?_
      refine WL.val (.bool true) rfl rfl rfl (fun za zC zh zk => wp_move rfl (zh.ev rfl) zk) ?_
      refine WL.nil (WE.sub (K' := [(0, .pointer (some ⟨g, 0, none⟩)), (1, .agg #[.int .i64 f, .slice pa0 l.length pc0]), (2, .agg #[.int .i64 t.f, .slice ta0 t.args.length tc0]), (4, .pointer (some ⟨g2, 0, none⟩)), (5, .pointer (some ⟨g10, 0, none⟩)), (6, .bool false), (7, .pointer (some ⟨g67, 0, none⟩)), (8, .bool true), (12, .bool ((decide ((f : Int) < (0 : Int))))), (21, .bool true)]) ⟨rfl, rfl, rfl, rfl, rfl, rfl, rfl, rfl, rfl, rfl, trivial⟩ ?_)
      refine WE.next ?_
      refine WC.condT rfl rfl ?_
      refine WC.seq ?_
      refine WC.region ?_
      refine WL.val (.agg #[.int .i64 o23.f, .slice a63 o23.args.length c64]) rfl rfl rfl (fun za zC zh zk => ld_24 rfl (zh.ev rfl) ((hB80.cell 0).trans rfl) ((hB80.cell 1).trans rfl) zk) ?_
      refine WL.val (.agg #[.int .i64 t.f, .slice ta0 t.args.length tc0]) rfl rfl rfl (fun za zC zh zk => ld_24 rfl (zh.ev rfl) ((hB91.cell 0).trans rfl) ((hB91.cell 1).trans rfl) zk) ?_
      refine WL.call rfl rfl rfl (fun za zh zC => wp_call (by kernel_rfl) rfl (hv2 (zh.ev rfl) (zh.ev rfl))) (ret_of (rsame_any o23 t _ _ _ (IsT.below hb84 h65) (IsT.below hb83 (InT.isT ht)))) ?_
      rintro _ w93 ⟨rfl, hq92⟩
      refine WL.val (.bool ((T.same o23 t))) rfl rfl rfl (fun za zC zh zk => wp_assign rfl (zh.ev rfl) zk) ?_
      refine WL.nil (WE.sub (K' := [(0, .pointer (some ⟨g, 0, none⟩)), (1, .agg #[.int .i64 f, .slice pa0 l.length pc0]), (2, .agg #[.int .i64 t.f, .slice ta0 t.args.length tc0]), (4, .pointer (some ⟨g2, 0, none⟩)), (5, .pointer (some ⟨g10, 0, none⟩)), (6, .bool ((T.same o23 t))), (7, .pointer (some ⟨g67, 0, none⟩)), (8, .bool true), (12, .bool ((decide ((f : Int) < (0 : Int))))), (21, .bool true)]) ⟨rfl, rfl, rfl, rfl, rfl, rfl, rfl, rfl, rfl, rfl, trivial⟩ ?_)
      refine WE.next ?_
      refine WC.ret ?_
      refine WE.thenRet ?_
      refine WE.thenRet ?_
      refine WE.ret1 rfl rfl ?_
      have hb94 : Below w.heap.size w w93 := (bstep hb83 hq92)
      have hfin := mt_old_ok (l := l) (t := t) h19 hf24
      exact ⟨_, rfl, ⟨st, D, congrArg Value.bool hfin.2.symm, h0.below hb94, fun b q => .inl q, hfin.1⟩, .ofBelow hb94⟩
  · have h19 : ¬ ((f : Int) < (0 : Int)) := by simpa using h19
    refine WC.skip ?_
    refine WE.next ?_
    refine WC.seq ?_
    refine WC.seq ?_
    refine WC.opt [(true, .val (.pointer (some ⟨g2, 0, none⟩))), (true, .val (.int .i64 f)), (true, .val (.pointer (some ⟨g10, 0, none⟩))), (true, .val (.int .i64 t.f)), (true, .val (.bool (((f : Int) != (t.f : Int))))), (true, .val (.bool (((f : Int) != (t.f : Int))))), ((true && !((f : Int) != (t.f : Int))), .val (.pointer (some ⟨g2, 1, none⟩))), ((true && !((f : Int) != (t.f : Int))), .val (.slice pa0 l.length pc0)), ((true && !((f : Int) != (t.f : Int))), .val (.int .i64 (((l.length : Nat) : Int)))), ((true && !((f : Int) != (t.f : Int))), .val (.pointer (some ⟨g10, 1, none⟩))), ((true && !((f : Int) != (t.f : Int))), .val (.slice ta0 t.args.length tc0)), ((true && !((f : Int) != (t.f : Int))), .val (.int .i64 (((t.args.length : Nat) : Int)))), ((true && !((f : Int) != (t.f : Int))), .val (.bool (((((l.length : Nat) : Int) : Int) != (((t.args.length : Nat) : Int) : Int))))), (true, .val (.bool ((((f : Int) != (t.f : Int)) || ((((l.length : Nat) : Int) : Int) != (((t.args.length : Nat) : Int) : Int))))))] [(0, .pointer (some ⟨g, 0, none⟩)), (1, .agg #[.int .i64 f, .slice pa0 l.length pc0]), (2, .agg #[.int .i64 t.f, .slice ta0 t.args.length tc0]), (4, .pointer (some ⟨g2, 0, none⟩)), (5, .pointer (some ⟨g10, 0, none⟩)), (6, .bool false), (12, .bool ((decide ((f : Int) < (0 : Int)))))] ⟨rfl, rfl, rfl, rfl, rfl, rfl, rfl, trivial⟩ (by kernel_rfl) (by kernel_rfl) (by kernel_rfl) ?_ ?_
    · refine ⟨⟨true, .none rfl, fun h w => optUndef h, fun zβ za zw zc => ?_⟩, ?_⟩
      · exact fld_24_0 rfl (zc.kn.ev rfl) ⟨_, rfl, Below.refl _ _, optDef zβ rfl⟩
      refine ⟨⟨true, .none rfl, fun h w => optUndef h, fun zβ za zw zc => ?_⟩, ?_⟩
      · exact ld_3 rfl ((show za.eval (.tmp 40) = za.tmps.getD 40 undef from rfl).trans (optVal (zc.dep 0 40 (by kernel_rfl)) rfl rfl)) (bkeeps zc.below _ _ ((hB18.cell 0).trans rfl)) ⟨_, rfl, Below.refl _ _, optDef zβ rfl⟩
      refine ⟨⟨true, .none rfl, fun h w => optUndef h, fun zβ za zw zc => ?_⟩, ?_⟩
      · exact fld_24_0 rfl (zc.kn.ev rfl) ⟨_, rfl, Below.refl _ _, optDef zβ rfl⟩
      refine ⟨⟨true, .none rfl, fun h w => optUndef h, fun zβ za zw zc => ?_⟩, ?_⟩
      · exact ld_3 rfl ((show za.eval (.tmp 42) = za.tmps.getD 42 undef from rfl).trans (optVal (zc.dep 2 42 (by kernel_rfl)) rfl rfl)) (bkeeps zc.below _ _ ((hB12.cell 0).trans rfl)) ⟨_, rfl, Below.refl _ _, optDef zβ rfl⟩
      refine ⟨⟨true, .none rfl, fun h w => optUndef h, fun zβ za zw zc => ?_⟩, ?_⟩
      · exact neq_3 rfl ((show za.eval (.tmp 41) = za.tmps.getD 41 undef from rfl).trans (optVal (zc.dep 1 41 (by kernel_rfl)) rfl rfl)) ((show za.eval (.tmp 43) = za.tmps.getD 43 undef from rfl).trans (optVal (zc.dep 3 43 (by kernel_rfl)) rfl rfl)) ⟨_, rfl, Below.refl _ _, optDef zβ rfl⟩
      refine ⟨⟨true, .none rfl, fun h w => optUndef h, fun zβ za zw zc => ?_⟩, ?_⟩
      · exact wp_move rfl ((show za.eval (.tmp 44) = za.tmps.getD 44 undef from rfl).trans (optVal (zc.dep 4 44 (by kernel_rfl)) rfl rfl)) ⟨_, rfl, Below.refl _ _, optDef zβ rfl⟩
      refine ⟨⟨(true && !((f : Int) != (t.f : Int))), .no (c := ((f : Int) != (t.f : Int))) (d := true) rfl (fun v w h => h), fun h w => optUndef h, fun zβ za zw zc => ?_⟩, ?_⟩
      · exact fld_24_1 rfl (zc.kn.ev rfl) ⟨_, rfl, Below.refl _ _, optDef zβ rfl⟩
      refine ⟨⟨(true && !((f : Int) != (t.f : Int))), .no (c := ((f : Int) != (t.f : Int))) (d := true) rfl (fun v w h => h), fun h w => optUndef h, fun zβ za zw zc => ?_⟩, ?_⟩
      · exact ld_22 rfl ((show za.eval (.tmp 46) = za.tmps.getD 46 undef from rfl).trans (optVal (zc.dep 6 46 (by kernel_rfl)) rfl zβ)) (bkeeps zc.below _ _ ((hB18.cell 1).trans rfl)) ⟨_, rfl, Below.refl _ _, optDef zβ rfl⟩
      refine ⟨⟨(true && !((f : Int) != (t.f : Int))), .no (c := ((f : Int) != (t.f : Int))) (d := true) rfl (fun v w h => h), fun h w => optUndef h, fun zβ za zw zc => ?_⟩, ?_⟩
      · exact len_22 rfl ((show za.eval (.tmp 47) = za.tmps.getD 47 undef from rfl).trans (optVal (zc.dep 7 47 (by kernel_rfl)) rfl zβ)) ⟨_, rfl, Below.refl _ _, optDef zβ rfl⟩
      refine ⟨⟨(true && !((f : Int) != (t.f : Int))), .no (c := ((f : Int) != (t.f : Int))) (d := true) rfl (fun v w h => h), fun h w => optUndef h, fun zβ za zw zc => ?_⟩, ?_⟩
      · exact fld_24_1 rfl (zc.kn.ev rfl) ⟨_, rfl, Below.refl _ _, optDef zβ rfl⟩
      refine ⟨⟨(true && !((f : Int) != (t.f : Int))), .no (c := ((f : Int) != (t.f : Int))) (d := true) rfl (fun v w h => h), fun h w => optUndef h, fun zβ za zw zc => ?_⟩, ?_⟩
      · exact ld_22 rfl ((show za.eval (.tmp 49) = za.tmps.getD 49 undef from rfl).trans (optVal (zc.dep 9 49 (by kernel_rfl)) rfl zβ)) (bkeeps zc.below _ _ ((hB12.cell 1).trans rfl)) ⟨_, rfl, Below.refl _ _, optDef zβ rfl⟩
      refine ⟨⟨(true && !((f : Int) != (t.f : Int))), .no (c := ((f : Int) != (t.f : Int))) (d := true) rfl (fun v w h => h), fun h w => optUndef h, fun zβ za zw zc => ?_⟩, ?_⟩
      · exact len_22 rfl ((show za.eval (.tmp 50) = za.tmps.getD 50 undef from rfl).trans (optVal (zc.dep 10 50 (by kernel_rfl)) rfl zβ)) ⟨_, rfl, Below.refl _ _, optDef zβ rfl⟩
      refine ⟨⟨(true && !((f : Int) != (t.f : Int))), .no (c := ((f : Int) != (t.f : Int))) (d := true) rfl (fun v w h => h), fun h w => optUndef h, fun zβ za zw zc => ?_⟩, ?_⟩
      · exact neq_3 rfl ((show za.eval (.tmp 48) = za.tmps.getD 48 undef from rfl).trans (optVal (zc.dep 8 48 (by kernel_rfl)) rfl zβ)) ((show za.eval (.tmp 51) = za.tmps.getD 51 undef from rfl).trans (optVal (zc.dep 11 51 (by kernel_rfl)) rfl zβ)) ⟨_, rfl, Below.refl _ _, optDef zβ rfl⟩
      refine ⟨⟨true, .none rfl, fun h w => optUndef h, fun zβ za zw zc => ?_⟩, ?_⟩
      · exact wp_or rfl ((show za.eval (.tmp 45) = za.tmps.getD 45 undef from rfl).trans (optVal (zc.dep 5 45 (by kernel_rfl)) rfl rfl)) (fun hp => ((show za.eval (.tmp 52) = za.tmps.getD 52 undef from rfl).trans (optVal (zc.dep 12 52 (by kernel_rfl)) rfl (bMkN zβ hp)))) ⟨_, rfl, Below.refl _ _, optDef zβ rfl⟩
      exact trivial
    · intro za w95 zh hb96 zu
      have zh := zh.cons (d := 53) (v := .bool ((((f : Int) != (t.f : Int)) || ((((l.length : Nat) : Int) : Int) != (((t.args.length : Nat) : Int) : Int))))) (optVal (zu 13 53 (by kernel_rfl)) rfl rfl)
      clear zu
      refine (show WE _ [(0, .pointer (some ⟨g, 0, none⟩)), (1, .agg #[.int .i64 f, .slice pa0 l.length pc0]), (2, .agg #[.int .i64 t.f, .slice ta0 t.args.length tc0]), (4, .pointer (some ⟨g2, 0, none⟩)), (5, .pointer (some ⟨g10, 0, none⟩)), (6, .bool false), (12, .bool ((decide ((f : Int) < (0 : Int))))), (53, .bool ((((f : Int) != (t.f : Int)) || ((((l.length : Nat) : Int) : Int) != (((t.args.length : Nat) : Int) : Int)))))] w95 _ .normal from ?_) za (zh.sub ⟨rfl, rfl, rfl, rfl, rfl, rfl, rfl, rfl, trivial⟩)
      refine WE.next ?_
      refine WC.cond rfl (fun h97 => ?_) (fun h97 => ?_)
      · have h97 : ((f : Int) ≠ (t.f : Int)) ∨ ((((l.length : Nat) : Int) : Int) ≠ (((t.args.length : Nat) : Int) : Int)) := by simpa using h97
        refine WC.seq ?_
        refine WC.region ?_
        refine WL.val (.bool false) rfl rfl rfl (fun za zC zh zk => wp_assign rfl (zh.ev rfl) zk) ?_
        refine WL.nil (WE.sub (K' := [(0, .pointer (some ⟨g, 0, none⟩)), (1, .agg #[.int .i64 f, .slice pa0 l.length pc0]), (2, .agg #[.int .i64 t.f, .slice ta0 t.args.length tc0]), (4, .pointer (some ⟨g2, 0, none⟩)), (5, .pointer (some ⟨g10, 0, none⟩)), (6, .bool false), (12, .bool ((decide ((f : Int) < (0 : Int))))), (53, .bool ((((f : Int) != (t.f : Int)) || ((((l.length : Nat) : Int) : Int) != (((t.args.length : Nat) : Int) : Int)))))]) ⟨rfl, rfl, rfl, rfl, rfl, rfl, rfl, rfl, trivial⟩ ?_)
        refine WE.next ?_
        refine WC.ret ?_
        refine WE.thenRet ?_
        refine WE.ret1 rfl rfl ?_
        have hb98 : Below w.heap.size w w95 := (bstep (bstep hb5 hb13) hb96)
        have hfin := mt_offr (st := st) (l := l) (t := t) h19 (fun q => by have z := h97; simp [q.1, q.2] at z)
        exact ⟨_, rfl, ⟨st, D, congrArg Value.bool (by unfold mtB; rw [hfin]; rfl), h0.below hb98, fun b q => .inl q, .same (fun s e => by rw [hfin] at e; cases e)⟩, .ofBelow hb98⟩
      · have h97 : ¬ (((f : Int) ≠ (t.f : Int)) ∨ ((((l.length : Nat) : Int) : Int) ≠ (((t.args.length : Nat) : Int) : Int))) := by simpa using h97
        refine WC.skip ?_
        refine WE.next ?_
        refine WC.seq ?_
        refine WC.seq ?_
        refine WC.region ?_
        refine WL.val (.int .i64 0) rfl rfl rfl (fun za zC zh zk => wp_assign rfl (zh.ev rfl) zk) ?_
        refine WL.nil (WE.sub (K' := [(0, .pointer (some ⟨g, 0, none⟩)), (1, .agg #[.int .i64 f, .slice pa0 l.length pc0]), (2, .agg #[.int .i64 t.f, .slice ta0 t.args.length tc0]), (4, .pointer (some ⟨g2, 0, none⟩)), (5, .pointer (some ⟨g10, 0, none⟩)), (6, .bool false), (9, .int .i64 0), (12, .bool ((decide ((f : Int) < (0 : Int))))), (53, .bool ((((f : Int) != (t.f : Int)) || ((((l.length : Nat) : Int) : Int) != (((t.args.length : Nat) : Int) : Int)))))]) ⟨rfl, rfl, rfl, rfl, rfl, rfl, rfl, rfl, rfl, trivial⟩ ?_)
        refine WE.next ?_
        refine WC.block ?_
        have hB99 := hB18.below hb96
        have hl100 : g2 < w95.heap.size := hB99.lt
        have hl101 : w.heap.size ≤ g2 := by have z : w.heap.size ≤ w.heap.size := (Nat.le_refl _); omega
        have hB102 := hB12.below hb96
        have hl103 : g10 < w95.heap.size := hB102.lt
        have hl104 : w.heap.size ≤ g10 := by have z : w.heap.size ≤ w1.heap.size := hb5.size; omega
        have hb105 : Below w.heap.size w w95 := (bstep (bstep hb5 hb13) hb96)
        have hsl : f = t.f ∧ l.length = t.args.length := by have z := h97; (try simp at z); omega
        have hgo : RefGo w95 D g st w95 := RefGo.start (h0.below hb105)
        have hA1 : ∀ b, (A b ∧ b < w.heap.size) → ¬ Since w95 D b := fun b q q2 => q2.elim (hA b q.1) (fun q2 => by have z := (hb105).size; omega)
        have hSD : ∀ b, Since w95 D b → (fun b => (D b ∧ b < w.heap.size) ∨ w95.heap.size ≤ b) b := fun b q => q.imp (fun q => ⟨q, hDlt b q⟩) id
        have hDS : ∀ b, (fun b => (D b ∧ b < w.heap.size) ∨ w95.heap.size ≤ b) b → Since w95 D b := fun b q => q.imp (fun q => q.1) id
        have hp1 := (InT.mono (S' := fun b => A b ∧ b < w.heap.size) (fun b q z => ⟨q, z⟩) hp).below hb105
        have ht1 := (InT.mono (S' := fun b => A b ∧ b < w.heap.size) (fun b q z => ⟨q, z⟩) ht).below hb105
        have hf0 : ¬ f < 0 := h19
        refine WC.loop (X := Nat × List Bd) (fun x => l.length - x.1) (fun x => [(0, .pointer (some ⟨g, 0, none⟩)), (1, .agg #[.int .i64 f, .slice pa0 l.length pc0]), (2, .agg #[.int .i64 t.f, .slice ta0 t.args.length tc0]), (4, .pointer (some ⟨g2, 0, none⟩)), (5, .pointer (some ⟨g10, 0, none⟩)), (9, .int .i64 (((x.1 : Nat) : Int))), (12, .bool ((decide ((f : Int) < (0 : Int))))), (53, .bool ((((f : Int) != (t.f : Int)) || ((((l.length : Nat) : Int) : Int) != (((t.args.length : Nat) : Int) : Int)))))]) (fun x w106 => x.1 ≤ l.length ∧ RtL l t.args st x.1 x.2 ∧ Blk w106 g2 24 #[.int .i64 f, .slice pa0 l.length pc0] ∧ Blk w106 g10 24 #[.int .i64 t.f, .slice ta0 t.args.length tc0] ∧ RefGo w95 D g x.2 (w106) ∧ Chg ((fun b => (D b ∧ b < w.heap.size) ∨ w95.heap.size ≤ b)) w95 w106) ((0, st)) ⟨rfl, rfl, rfl, rfl, rfl, rfl, rfl, rfl, trivial⟩ ?_ ?_
        · have hs107 : Chg ((fun b => (D b ∧ b < w.heap.size) ∨ w95.heap.size ≤ b)) w95 w95 := (Chg.refl ((fun b => (D b ∧ b < w.heap.size) ∨ w95.heap.size ≤ b)) _)
          exact ⟨Nat.zero_le _, RtL.start, hB99, hB102, hgo, hs107⟩
        · rintro x w106 ⟨hk, hrl, hB108, hB109, ho110, hc111⟩
          refine WC.seq ?_
          refine WC.seq ?_
          refine WC.region ?_
          refine WL.val (.int .i64 (((x.1 : Nat) : Int))) rfl rfl rfl (fun za zC zh zk => wp_move rfl (zh.ev rfl) zk) ?_
          refine WL.val (.pointer (some ⟨g2, 1, none⟩)) rfl rfl rfl (fun za zC zh zk => fld_24_1 rfl (zh.ev rfl) zk) ?_
          refine WL.val (.slice pa0 l.length pc0) rfl rfl rfl (fun za zC zh zk => ld_22 rfl (zh.ev rfl) ((hB108.cell 1).trans rfl) zk) ?_
          refine WL.val (.int .i64 (((l.length : Nat) : Int))) rfl rfl rfl (fun za zC zh zk => len_22 rfl (zh.ev rfl) zk) ?_
          refine WL.val (.bool ((decide ((((x.1 : Nat) : Int) : Int) < (((l.length : Nat) : Int) : Int))))) rfl rfl rfl (fun za zC zh zk => lss_3 rfl (zh.ev rfl) (zh.ev rfl) zk) ?_
          refine WL.nil (WE.sub (K' := [(0, .pointer (some ⟨g, 0, none⟩)), (1, .agg #[.int .i64 f, .slice pa0 l.length pc0]), (2, .agg #[.int .i64 t.f, .slice ta0 t.args.length tc0]), (4, .pointer (some ⟨g2, 0, none⟩)), (5, .pointer (some ⟨g10, 0, none⟩)), (9, .int .i64 (((x.1 : Nat) : Int))), (12, .bool ((decide ((f : Int) < (0 : Int))))), (53, .bool ((((f : Int) != (t.f : Int)) || ((((l.length : Nat) : Int) : Int) != (((t.args.length : Nat) : Int) : Int))))), (58, .bool ((decide ((((x.1 : Nat) : Int) : Int) < (((l.length : Nat) : Int) : Int)))))]) ⟨rfl, rfl, rfl, rfl, rfl, rfl, rfl, rfl, rfl, trivial⟩ ?_)
          refine WE.next ?_
          refine WC.cond rfl (fun h112 => ?_) (fun h112 => ?_)
          · have h112 : (((x.1 : Nat) : Int) : Int) < (((l.length : Nat) : Int) : Int) := by simpa using h112
            refine WC.skip ?_
            refine WE.next ?_
            refine WC.seq ?_
            refine WC.block ?_
            refine WC.seq ?_
            have hs113 : Chg ((fun b => (D b ∧ b < w.heap.size) ∨ w95.heap.size ≤ b)) w95 w106 := (Chg.trans2 (Chg.refl ((fun b => (D b ∧ b < w.heap.size) ∨ w95.heap.size ≤ b)) _) hc111 (fun i h1 h2 => by first | exact h2 | exact .inl h2 | exact .inr h2 | exact .inr (.inl h2) | exact .inr (.inr h2) | ((try dsimp only at *); omega)))
            have hcs9 : Chg (Since w95 D) w95 w106 := hs113.mono hDS
            obtain ⟨pb, po, hpa, hpk⟩ := InTp.arg (b := 0) (o := 0) (hp1.chg hcs9 hA1) x.1 (by simp; omega)
            obtain ⟨qb, qo, hqa, hqk⟩ := InTp.arg (b := 0) (o := 0) (ht1.chg hcs9 hA1) x.1 (by omega)
            have hpS : A pb ∧ pb < w.heap.size := by obtain ⟨b9, o9, a9, c9, e9, k9, _⟩ := hpk; simp only [Value.pointer.injEq, Option.some.injEq, Addr.mk.injEq] at e9; rw [e9.1]; exact k9
            have hqS : A qb ∧ qb < w.heap.size := by obtain ⟨b9, o9, a9, c9, e9, k9, _⟩ := hqk; simp only [Value.pointer.injEq, Option.some.injEq, Addr.mk.injEq] at e9; rw [e9.1]; exact k9
            have hnp : ¬ (fun b => (D b ∧ b < w.heap.size) ∨ w95.heap.size ≤ b) pb := fun q => hA1 pb hpS (hDS pb q)
            have hnq : ¬ (fun b => (D b ∧ b < w.heap.size) ∨ w95.heap.size ≤ b) qb := fun q => hA1 qb hqS (hDS qb q)
            obtain ⟨pka, pkc, hpk1, hpk2, hpk3⟩ := hpk.at
            obtain ⟨qka, qkc, hqk1, hqk2, hqk3⟩ := hqk.at
            simp only [T.args_mk] at hpk1 hpk2 hpk3
            have hsd := sizeL_drop (l := l) (k := x.1) (by omega)
            have hpz := T.size_le_sizeL (tget_mem (l := l) (k := x.1) (by omega))
            have hqz := T.size_le_sizeL (tget_mem (l := t.args) (k := x.1) (by omega))
            have hrhi := hrl.hi
            refine WC.seqV (S := ((fun b => (D b ∧ b < w.heap.size) ∨ w95.heap.size ≤ b))) [(true, .val (.pointer (some ⟨g, 0, none⟩))), (true, .val (.pointer (some ⟨g2, 1, none⟩))), (true, .val (.slice pa0 l.length pc0)), (true, .val (.int .i64 (((x.1 : Nat) : Int)))), (true, .val (.pointer (some ⟨pb, po + x.1 * 2, none⟩))), (true, .val (.agg #[.int .i64 ((tget l x.1).f), .slice pka ((tget l x.1).args.length) pkc])), (true, .val (.pointer (some ⟨g10, 1, none⟩))), (true, .val (.slice ta0 t.args.length tc0)), (true, .val (.int .i64 (((x.1 : Nat) : Int)))), (true, .val (.pointer (some ⟨qb, qo + x.1 * 2, none⟩))), (true, .val (.agg #[.int .i64 ((tget t.args x.1).f), .slice qka ((tget t.args x.1).args.length) qkc])), (true, .val undef), (true, .val (.bool ((!(mtB (tget l x.1) (tget t.args x.1) x.2)))))] [(0, .pointer (some ⟨g, 0, none⟩)), (1, .agg #[.int .i64 f, .slice pa0 l.length pc0]), (2, .agg #[.int .i64 t.f, .slice ta0 t.args.length tc0]), (4, .pointer (some ⟨g2, 0, none⟩)), (5, .pointer (some ⟨g10, 0, none⟩)), (9, .int .i64 (((x.1 : Nat) : Int))), (12, .bool ((decide ((f : Int) < (0 : Int))))), (53, .bool ((((f : Int) != (t.f : Int)) || ((((l.length : Nat) : Int) : Int) != (((t.args.length : Nat) : Int) : Int))))), (58, .bool ((decide ((((x.1 : Nat) : Int) : Int) < (((l.length : Nat) : Int) : Int)))))] [11] [some (true, .bool ((mtB (tget l x.1) (tget t.args x.1) x.2)))] (fun vals wz => match vals with | [] => RefGo w95 D g x.2 wz | [_] => ∃ st2, RefGo w95 D g st2 wz ∧ RtOk (tget l x.1) (tget t.args x.1) x.2 st2 | _ => False) (fun vals w w' hb h => by match vals, h with | [], h => exact RefGo.below h hb | [_], h => obtain ⟨s2, h1, h2⟩ := h; exact ⟨s2, h1.below hb, h2⟩) (by decide) ⟨rfl, rfl, rfl, rfl, rfl, rfl, rfl, rfl, rfl, trivial⟩ (by kernel_rfl) (by kernel_rfl) (by kernel_rfl) (by kernel_rfl) ho110 ?_ ?_
            · refine ⟨.inl ⟨rfl, true, .none rfl, (fun gg b h => by cases h), fun h w => optUndef h, fun zβ za zw zc => ?_⟩, ?_⟩
              · exact wp_move rfl (zc.kn.ev rfl) ⟨_, rfl, Below.refl _ _, optDef zβ rfl⟩
              refine ⟨.inl ⟨rfl, true, .none rfl, (fun gg b h => by cases h), fun h w => optUndef h, fun zβ za zw zc => ?_⟩, ?_⟩
              · exact fld_24_1 rfl (zc.kn.ev rfl) ⟨_, rfl, Below.refl _ _, optDef zβ rfl⟩
              refine ⟨.inl ⟨rfl, true, .none rfl, (fun gg b h => by cases h), fun h w => optUndef h, fun zβ za zw zc => ?_⟩, ?_⟩
              · exact ld_22 rfl ((show za.eval (.tmp 62) = za.tmps.getD 62 undef from rfl).trans (optSVal (zc.dep 1 62 (by kernel_rfl) (by decide)) rfl rfl)) (chg_cell zc.chg (by first | assumption | ((try dsimp only at *); omega)) ((hB108.cell 1).trans rfl)) ⟨_, rfl, Below.refl _ _, optDef zβ rfl⟩
              refine ⟨.inl ⟨rfl, true, .none rfl, (fun gg b h => by cases h), fun h w => optUndef h, fun zβ za zw zc => ?_⟩, ?_⟩
              · exact wp_move rfl (zc.kn.ev rfl) ⟨_, rfl, Below.refl _ _, optDef zβ rfl⟩
              refine ⟨.inl ⟨rfl, true, .none rfl, (fun gg b h => by cases h), fun h w => optUndef h, fun zβ za zw zc => ?_⟩, ?_⟩
              · exact ix_22 (k := x.1) rfl ((show za.eval (.tmp 63) = za.tmps.getD 63 undef from rfl).trans (optSVal (zc.dep 2 63 (by kernel_rfl) (by decide)) rfl rfl)) hpa ((show za.eval (.tmp 64) = za.tmps.getD 64 undef from rfl).trans (optSVal (zc.dep 3 64 (by kernel_rfl) (by decide)) rfl rfl)) (by first | omega | (simp; omega)) ⟨_, rfl, Below.refl _ _, optDef zβ rfl⟩
              refine ⟨.inl ⟨rfl, true, .none rfl, (fun gg b h => by cases h), fun h w => optUndef h, fun zβ za zw zc => ?_⟩, ?_⟩
              · exact ld_24 rfl ((show za.eval (.tmp 65) = za.tmps.getD 65 undef from rfl).trans (optSVal (zc.dep 4 65 (by kernel_rfl) (by decide)) rfl rfl)) (chg_cell zc.chg (by first | assumption | ((try dsimp only at *); omega)) hpk1) (chg_cell zc.chg (by first | assumption | ((try dsimp only at *); omega)) hpk2) ⟨_, rfl, Below.refl _ _, optDef zβ rfl⟩
              refine ⟨.inl ⟨rfl, true, .none rfl, (fun gg b h => by cases h), fun h w => optUndef h, fun zβ za zw zc => ?_⟩, ?_⟩
              · exact fld_24_1 rfl (zc.kn.ev rfl) ⟨_, rfl, Below.refl _ _, optDef zβ rfl⟩
              refine ⟨.inl ⟨rfl, true, .none rfl, (fun gg b h => by cases h), fun h w => optUndef h, fun zβ za zw zc => ?_⟩, ?_⟩
              · exact ld_22 rfl ((show za.eval (.tmp 67) = za.tmps.getD 67 undef from rfl).trans (optSVal (zc.dep 6 67 (by kernel_rfl) (by decide)) rfl rfl)) (chg_cell zc.chg (by first | assumption | ((try dsimp only at *); omega)) ((hB109.cell 1).trans rfl)) ⟨_, rfl, Below.refl _ _, optDef zβ rfl⟩
              refine ⟨.inl ⟨rfl, true, .none rfl, (fun gg b h => by cases h), fun h w => optUndef h, fun zβ za zw zc => ?_⟩, ?_⟩
              · exact wp_move rfl (zc.kn.ev rfl) ⟨_, rfl, Below.refl _ _, optDef zβ rfl⟩
              refine ⟨.inl ⟨rfl, true, .none rfl, (fun gg b h => by cases h), fun h w => optUndef h, fun zβ za zw zc => ?_⟩, ?_⟩
              · exact ix_22 (k := x.1) rfl ((show za.eval (.tmp 68) = za.tmps.getD 68 undef from rfl).trans (optSVal (zc.dep 7 68 (by kernel_rfl) (by decide)) rfl rfl)) hqa ((show za.eval (.tmp 69) = za.tmps.getD 69 undef from rfl).trans (optSVal (zc.dep 8 69 (by kernel_rfl) (by decide)) rfl rfl)) (by first | omega | (simp; omega)) ⟨_, rfl, Below.refl _ _, optDef zβ rfl⟩
              refine ⟨.inl ⟨rfl, true, .none rfl, (fun gg b h => by cases h), fun h w => optUndef h, fun zβ za zw zc => ?_⟩, ?_⟩
              · exact ld_24 rfl ((show za.eval (.tmp 70) = za.tmps.getD 70 undef from rfl).trans (optSVal (zc.dep 9 70 (by kernel_rfl) (by decide)) rfl rfl)) (chg_cell zc.chg (by first | assumption | ((try dsimp only at *); omega)) hqk1) (chg_cell zc.chg (by first | assumption | ((try dsimp only at *); omega)) hqk2) ⟨_, rfl, Below.refl _ _, optDef zβ rfl⟩
              refine ⟨.inr ⟨0, rfl, by kernel_rfl, true, .none rfl, (fun gg b h => by cases h), (fun h => (nomatch h)), fun zβ za zw zvals zc => ?_⟩, ?_⟩
              · obtain rfl := vlen0 zc.len
                have zn := zc.now
                exact wp_call (by kernel_rfl) rfl (hv3 ((show za.eval (.tmp 61) = za.tmps.getD 61 undef from rfl).trans (optSVal (zc.dep 0 61 (by kernel_rfl) (by decide)) rfl rfl)) ((show za.eval (.tmp 66) = za.tmps.getD 66 undef from rfl).trans (optSVal (zc.dep 5 66 (by kernel_rfl) (by decide)) rfl rfl)) ((show za.eval (.tmp 71) = za.tmps.getD 71 undef from rfl).trans (optSVal (zc.dep 10 71 (by kernel_rfl) (by decide)) rfl rfl))) (rterm_go (ih (tget l x.1) (tget_mem (by omega))) zn (hpk3.chg (zc.chg.mono hDS) hA1) (hqk3.chg (zc.chg.mono hDS) hA1) hA1 (by omega) (by omega) (by omega)) (fun v w' h => by obtain ⟨⟨st2, e2, k1, k2⟩, k3⟩ := h; exact ⟨v, rfl, k3.mono hSD, ⟨st2, k1, k2⟩, cvIs e2⟩)
              refine ⟨.inl ⟨rfl, true, .none rfl, (fun gg b h => by cases h), fun h w => optUndef h, fun zβ za zw zc => ?_⟩, ?_⟩
              · exact wp_not rfl ((show za.eval (.tmp 72) = za.tmps.getD 72 undef from rfl).trans (zc.link 0 11 72 _ _ rfl (by kernel_rfl) rfl rfl)) ⟨_, rfl, Below.refl _ _, optDef zβ rfl⟩
              exact trivial
            · intro za w114 zvals zh zl hG115 hc116 zu zw zk
              obtain ⟨z0, rfl⟩ := vlen1 zl
              have zh := zh.cons (d := 73) (v := .bool ((!(mtB (tget l x.1) (tget t.args x.1) x.2)))) (optSVal (zu 12 73 (by kernel_rfl) (by decide)) rfl rfl)
              obtain ⟨st117, hgo118, hrk119⟩ := hG115
              have hB120 := chg_blk hB108 hc116 (fun h => by (try dsimp only at *); omega)
              have hB121 := chg_blk hB109 hc116 (fun h => by (try dsimp only at *); omega)
              clear zu zw zk
              refine (show WE _ [(0, .pointer (some ⟨g, 0, none⟩)), (1, .agg #[.int .i64 f, .slice pa0 l.length pc0]), (2, .agg #[.int .i64 t.f, .slice ta0 t.args.length tc0]), (4, .pointer (some ⟨g2, 0, none⟩)), (5, .pointer (some ⟨g10, 0, none⟩)), (9, .int .i64 (((x.1 : Nat) : Int))), (12, .bool ((decide ((f : Int) < (0 : Int))))), (53, .bool ((((f : Int) != (t.f : Int)) || ((((l.length : Nat) : Int) : Int) != (((t.args.length : Nat) : Int) : Int))))), (58, .bool ((decide ((((x.1 : Nat) : Int) : Int) < (((l.length : Nat) : Int) : Int))))), (73, .bool ((!(mtB (tget l x.1) (tget t.args x.1) x.2))))] w114 _ .normal from ?_) za (zh.sub ⟨rfl, rfl, rfl, rfl, rfl, rfl, rfl, rfl, rfl, rfl, trivial⟩)
              refine WE.next ?_
              refine WC.cond rfl (fun h122 => ?_) (fun h122 => ?_)
              · have h122 : ¬ ((mtB (tget l x.1) (tget t.args x.1) x.2) = true) := by simpa using h122
                refine WC.seq ?_
                refine WC.region ?_
                refine WL.val (.bool false) rfl rfl rfl (fun za zC zh zk => wp_assign rfl (zh.ev rfl) zk) ?_
                refine WL.nil (WE.sub (K' := [(0, .pointer (some ⟨g, 0, none⟩)), (1, .agg #[.int .i64 f, .slice pa0 l.length pc0]), (2, .agg #[.int .i64 t.f, .slice ta0 t.args.length tc0]), (4, .pointer (some ⟨g2, 0, none⟩)), (5, .pointer (some ⟨g10, 0, none⟩)), (6, .bool false), (9, .int .i64 (((x.1 : Nat) : Int))), (12, .bool ((decide ((f : Int) < (0 : Int))))), (53, .bool ((((f : Int) != (t.f : Int)) || ((((l.length : Nat) : Int) : Int) != (((t.args.length : Nat) : Int) : Int))))), (58, .bool ((decide ((((x.1 : Nat) : Int) : Int) < (((l.length : Nat) : Int) : Int))))), (73, .bool ((!(mtB (tget l x.1) (tget t.args x.1) x.2))))]) ⟨rfl, rfl, rfl, rfl, rfl, rfl, rfl, rfl, rfl, rfl, rfl, trivial⟩ ?_)
                refine WE.next ?_
                refine WC.ret ?_
                refine WE.blockRet ?_
                refine WE.thenRet ?_
                refine WE.thenRet ?_
                refine WE.blockRet ?_
                refine WE.thenRet ?_
                refine WE.ret1 rfl rfl ?_
                have hs123 : Chg ((fun b => (D b ∧ b < w.heap.size) ∨ w95.heap.size ≤ b)) w95 w114 := (Chg.trans2 (Chg.trans2 (Chg.refl ((fun b => (D b ∧ b < w.heap.size) ∨ w95.heap.size ≤ b)) _) hc111 (fun i h1 h2 => by first | exact h2 | exact .inl h2 | exact .inr h2 | exact .inr (.inl h2) | exact .inr (.inr h2) | ((try dsimp only at *); omega))) hc116 (fun i h1 h2 => by first | exact h2 | exact .inl h2 | exact .inr h2 | exact .inr (.inl h2) | exact .inr (.inr h2) | ((try dsimp only at *); omega)))
                have hfin := hrl.bad hf0 hsl (by omega) hrk119 h122
                obtain ⟨D9, z1, z2⟩ := RefGo.done hgo118 (hb105).size
                exact ⟨_, rfl, ⟨_, D9, congrArg Value.bool hfin.2.symm, z1, z2, hfin.1⟩, chg_since hb105 (hs123.mono hDS)⟩
              · have h122 : ¬ (¬ ((mtB (tget l x.1) (tget t.args x.1) x.2) = true)) := by simpa using h122
                refine WC.skip ?_
                refine WE.blockNormal ?_
                refine WE.next ?_
                refine WC.region ?_
                refine WL.val (.int .i64 (((x.1 : Nat) : Int))) rfl rfl rfl (fun za zC zh zk => wp_move rfl (zh.ev rfl) zk) ?_
                refine WL.val (.int .i64 ((((x.1 + 1) : Nat) : Int))) rfl rfl rfl (fun za zC zh zk => addb_3 rfl (zh.ev rfl) (zh.ev rfl) (wrap_eq (by omega) (by omega) (by omega)) zk) ?_
                refine WL.val (.int .i64 ((((x.1 + 1) : Nat) : Int))) rfl rfl rfl (fun za zC zh zk => wp_assign rfl (zh.ev rfl) zk) ?_
                refine WL.nil (WE.sub (K' := [(0, .pointer (some ⟨g, 0, none⟩)), (1, .agg #[.int .i64 f, .slice pa0 l.length pc0]), (2, .agg #[.int .i64 t.f, .slice ta0 t.args.length tc0]), (4, .pointer (some ⟨g2, 0, none⟩)), (5, .pointer (some ⟨g10, 0, none⟩)), (9, .int .i64 ((((x.1 + 1) : Nat) : Int))), (12, .bool ((decide ((f : Int) < (0 : Int))))), (53, .bool ((((f : Int) != (t.f : Int)) || ((((l.length : Nat) : Int) : Int) != (((t.args.length : Nat) : Int) : Int))))), (58, .bool ((decide ((((x.1 : Nat) : Int) : Int) < (((l.length : Nat) : Int) : Int))))), (73, .bool ((!(mtB (tget l x.1) (tget t.args x.1) x.2))))]) ⟨rfl, rfl, rfl, rfl, rfl, rfl, rfl, rfl, rfl, rfl, trivial⟩ ?_)
                refine WE.round ((x.1 + 1, st117)) ⟨rfl, rfl, rfl, rfl, rfl, rfl, rfl, rfl, trivial⟩ ?_ ?_
                · have hs124 : Chg ((fun b => (D b ∧ b < w.heap.size) ∨ w95.heap.size ≤ b)) w95 w114 := (Chg.trans2 (Chg.trans2 (Chg.refl ((fun b => (D b ∧ b < w.heap.size) ∨ w95.heap.size ≤ b)) _) hc111 (fun i h1 h2 => by first | exact h2 | exact .inl h2 | exact .inr h2 | exact .inr (.inl h2) | exact .inr (.inr h2) | ((try dsimp only at *); omega))) hc116 (fun i h1 h2 => by first | exact h2 | exact .inl h2 | exact .inr h2 | exact .inr (.inl h2) | exact .inr (.inr h2) | ((try dsimp only at *); omega)))
                  exact ⟨by (try dsimp only); omega, hrl.next (by omega) hsl.2 hrk119 (Classical.not_not.1 h122), hB120, hB121, hgo118, hs124⟩
                · (try dsimp only); omega
          · have h112 : ¬ ((((x.1 : Nat) : Int) : Int) < (((l.length : Nat) : Int) : Int)) := by simpa using h112
            refine WC.exit ?_
            refine WE.thenExit ?_
            refine WE.thenExit ?_
            refine WE.blockIs rfl ?_
            refine WE.next ?_
            refine WC.seq ?_
            refine WC.region ?_
            refine WL.val (.bool true) rfl rfl rfl (fun za zC zh zk => wp_assign rfl (zh.ev rfl) zk) ?_
            refine WL.nil (WE.sub (K' := [(0, .pointer (some ⟨g, 0, none⟩)), (1, .agg #[.int .i64 f, .slice pa0 l.length pc0]), (2, .agg #[.int .i64 t.f, .slice ta0 t.args.length tc0]), (4, .pointer (some ⟨g2, 0, none⟩)), (5, .pointer (some ⟨g10, 0, none⟩)), (6, .bool true), (9, .int .i64 (((x.1 : Nat) : Int))), (12, .bool ((decide ((f : Int) < (0 : Int))))), (53, .bool ((((f : Int) != (t.f : Int)) || ((((l.length : Nat) : Int) : Int) != (((t.args.length : Nat) : Int) : Int))))), (58, .bool ((decide ((((x.1 : Nat) : Int) : Int) < (((l.length : Nat) : Int) : Int)))))]) ⟨rfl, rfl, rfl, rfl, rfl, rfl, rfl, rfl, rfl, rfl, trivial⟩ ?_)
            refine WE.next ?_
            refine WC.ret ?_
            refine WE.ret1 rfl rfl ?_
            have hs125 : Chg ((fun b => (D b ∧ b < w.heap.size) ∨ w95.heap.size ≤ b)) w95 w106 := (Chg.trans2 (Chg.refl ((fun b => (D b ∧ b < w.heap.size) ∨ w95.heap.size ≤ b)) _) hc111 (fun i h1 h2 => by first | exact h2 | exact .inl h2 | exact .inr h2 | exact .inr (.inl h2) | exact .inr (.inr h2) | ((try dsimp only at *); omega)))
            have hfin := hrl.good hf0 hsl (by omega)
            obtain ⟨D9, z1, z2⟩ := RefGo.done ho110 (hb105).size
            exact ⟨_, rfl, ⟨_, D9, congrArg Value.bool hfin.2.symm, z1, z2, hfin.1⟩, chg_since hb105 (hs125.mono hDS)⟩

end Go.Proofs.Ytcmfjnadjddboaa
