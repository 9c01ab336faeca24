/- The matcher matches literals. -/
import Derived.Test.YtcmfjnadjddboaaMatGo
import Derived.Test.YtcmfjnadjddboaaMatSubWalk
namespace Go.Proofs.Ytcmfjnadjddboaa
open Go.RowKit Go

theorem inv_term (v : Value) (w : World) : (method (Try.prog.types.size + Made.depth) 33 v "Term").run Try.prog w = .ok (15, v) w := by kernel_rfl
theorem inv_mark (v : Value) (w : World) : (method (Try.prog.types.size + Made.depth) 33 v "Mark").run Try.prog w = .ok (21, v) w := by kernel_rfl
theorem inv_back (v : Value) (w : World) : (method (Try.prog.types.size + Made.depth) 33 v "Back").run Try.prog w = .ok (19, v) w := by kernel_rfl
set_option maxRecDepth 100000 in
theorem lit_any {g : Nat} {st : List Bd} {C A : Nat → Prop} (p l : Li) (tu : Bool) (w : World) (u v : Value) (h : MatAt w g st C) (hp : LiIn A w p u) (hl : LiIn A w l v) (hA : ∀ b, A b → ¬ C b) (hp1 : p.l.size ≤ 4294967296) (hp2 : p.r.size ≤ 4294967296) (hl1 : l.l.size ≤ 4294967296) (hl2 : l.r.size ≤ 4294967296) (hn : st.length + p.l.size + p.r.size ≤ 1099511627776) :
    Calls Try.prog 38 #[.iface 33 (.pointer (some ⟨g, 0, none⟩)), u, v, .bool tu] w (Ret fun v' w' => (∃ C', v' = .bool (lOk p l tu st) ∧ MatAt w' g (lTo p l tu st) C' ∧ ∀ b, C' b → C b ∨ w.heap.size ≤ b) ∧ Chg C w w') := by
  have hClt := h.clt
  obtain ⟨a1, a2, c1, c2, rfl⟩ := hp.parts
  obtain ⟨hpl, hpr⟩ := hp.two
  obtain ⟨a3, a4, c3, c4, rfl⟩ := hl.parts
  obtain ⟨hll, hlr⟩ := hl.two
  refine Calls.walk (l := [.iface 33 (.pointer (some ⟨g, 0, none⟩)), .agg #[.bool p.neg, .int .i64 p.l.f, .slice a1 p.l.args.length c1, .int .i64 p.r.f, .slice a2 p.r.args.length c2], .agg #[.bool l.neg, .int .i64 l.l.f, .slice a3 l.l.args.length c3, .int .i64 l.r.f, .slice a4 l.r.args.length c4], .bool tu]) Try.func38 rfl (by kernel_rfl) ?_
  refine WC.sub (K' := [(0, .iface 33 (.pointer (some ⟨g, 0, none⟩))), (1, .agg #[.bool p.neg, .int .i64 p.l.f, .slice a1 p.l.args.length c1, .int .i64 p.r.f, .slice a2 p.r.args.length c2]), (2, .agg #[.bool l.neg, .int .i64 l.l.f, .slice a3 l.l.args.length c3, .int .i64 l.r.f, .slice a4 l.r.args.length c4]), (3, .bool tu)]) ⟨rfl, rfl, rfl, rfl, trivial⟩ ?_
  refine WC.seq ?_
  refine WC.region ?_
  refine WL.step (post := NewBlk w 41 #[.bool p.neg, .int .i64 p.l.f, .slice a1 p.l.args.length c1, .int .i64 p.r.f, .slice a2 p.r.args.length c2]) rfl rfl rfl (fun za zC zh zk => box_41 rfl (zh.ev rfl) (zk _ _ (newBlk _ _ _))) ?_
  rintro _ w1 ⟨g2, rfl, hg3, hB4, hb5, hz6⟩
  have hl7 : w.heap.size ≤ g2 := by omega
  refine WL.step (post := NewBlk w1 41 #[.bool l.neg, .int .i64 l.l.f, .slice a3 l.l.args.length c3, .int .i64 l.r.f, .slice a4 l.r.args.length c4]) rfl rfl rfl (fun za zC zh zk => box_41 rfl (zh.ev rfl) (zk _ _ (newBlk _ _ _))) ?_
  rintro _ w8 ⟨g9, rfl, hg10, hB11, hb12, hz13⟩
  have hl14 : g2 < g9 := by have z1 := hB4.lt; omega
  have hl15 : w.heap.size ≤ g9 := by have z2 := (hb5).size; omega
  refine WL.val (.bool false) rfl rfl rfl (fun za zC zh zk => wp_assign rfl (zh.ev rfl) zk) ?_
  refine WL.nil (WE.sub (K' := [(0, .iface 33 (.pointer (some ⟨g, 0, none⟩))), (1, .agg #[.bool p.neg, .int .i64 p.l.f, .slice a1 p.l.args.length c1, .int .i64 p.r.f, .slice a2 p.r.args.length c2]), (2, .agg #[.bool l.neg, .int .i64 l.l.f, .slice a3 l.l.args.length c3, .int .i64 l.r.f, .slice a4 l.r.args.length c4]), (3, .bool tu), (5, .pointer (some ⟨g2, 0, none⟩)), (6, .pointer (some ⟨g9, 0, none⟩)), (8, .bool false)]) ⟨rfl, rfl, rfl, rfl, rfl, rfl, rfl, trivial⟩ ?_)
  refine WE.next ?_
  refine WC.seq ?_
  refine WC.seq ?_
  have hB16 := hB4.below hb12
  refine WC.opt [(true, .val (.pointer (some ⟨g2, 0, none⟩))), (true, .val (.bool p.neg)), (true, .val (.pointer (some ⟨g9, 0, none⟩))), (true, .val (.bool l.neg)), (true, .val (.bool ((p.neg != l.neg)))), (true, .val (.bool ((p.neg != l.neg)))), ((true && !(p.neg != l.neg)), .val (.bool p.atom)), ((true && !(p.neg != l.neg)), .val (.bool l.atom)), ((true && !(p.neg != l.neg)), .val (.bool ((p.atom != l.atom)))), (true, .val (.bool (((p.neg != l.neg) || (p.atom != l.atom)))))] [(0, .iface 33 (.pointer (some ⟨g, 0, none⟩))), (1, .agg #[.bool p.neg, .int .i64 p.l.f, .slice a1 p.l.args.length c1, .int .i64 p.r.f, .slice a2 p.r.args.length c2]), (2, .agg #[.bool l.neg, .int .i64 l.l.f, .slice a3 l.l.args.length c3, .int .i64 l.r.f, .slice a4 l.r.args.length c4]), (3, .bool tu), (5, .pointer (some ⟨g2, 0, none⟩)), (6, .pointer (some ⟨g9, 0, none⟩)), (8, .bool false)] ⟨rfl, rfl, rfl, rfl, rfl, rfl, rfl, trivial⟩ (by kernel_rfl) (by kernel_rfl) (by kernel_rfl) ?_ ?_
  · refine ⟨⟨true, .none rfl, fun h w => optUndef h, fun zβ za zw zc => ?_⟩, ?_⟩
    · exact fld_41_0 rfl (zc.kn.ev rfl) ⟨_, rfl, Below.refl _ _, optDef zβ rfl⟩
    refine ⟨⟨true, .none rfl, fun h w => optUndef h, fun zβ za zw zc => ?_⟩, ?_⟩
    · exact ld_4 rfl ((show za.eval (.tmp 10) = za.tmps.getD 10 undef from rfl).trans (optVal (zc.dep 0 10 (by kernel_rfl)) rfl rfl)) (bkeeps zc.below _ _ ((hB16.cell 0).trans rfl)) ⟨_, rfl, Below.refl _ _, optDef zβ rfl⟩
    refine ⟨⟨true, .none rfl, fun h w => optUndef h, fun zβ za zw zc => ?_⟩, ?_⟩
    · exact fld_41_0 rfl (zc.kn.ev rfl) ⟨_, rfl, Below.refl _ _, optDef zβ rfl⟩
    refine ⟨⟨true, .none rfl, fun h w => optUndef h, fun zβ za zw zc => ?_⟩, ?_⟩
    · exact ld_4 rfl ((show za.eval (.tmp 12) = za.tmps.getD 12 undef from rfl).trans (optVal (zc.dep 2 12 (by kernel_rfl)) rfl rfl)) (bkeeps zc.below _ _ ((hB11.cell 0).trans rfl)) ⟨_, rfl, Below.refl _ _, optDef zβ rfl⟩
    refine ⟨⟨true, .none rfl, fun h w => optUndef h, fun zβ za zw zc => ?_⟩, ?_⟩
    · exact neq_4 rfl ((show za.eval (.tmp 11) = za.tmps.getD 11 undef from rfl).trans (optVal (zc.dep 1 11 (by kernel_rfl)) rfl rfl)) ((show za.eval (.tmp 13) = za.tmps.getD 13 undef from rfl).trans (optVal (zc.dep 3 13 (by kernel_rfl)) rfl rfl)) ⟨_, rfl, Below.refl _ _, optDef zβ rfl⟩
    refine ⟨⟨true, .none rfl, fun h w => optUndef h, fun zβ za zw zc => ?_⟩, ?_⟩
    · exact wp_move rfl ((show za.eval (.tmp 14) = za.tmps.getD 14 undef from rfl).trans (optVal (zc.dep 4 14 (by kernel_rfl)) rfl rfl)) ⟨_, rfl, Below.refl _ _, optDef zβ rfl⟩
    refine ⟨⟨(true && !(p.neg != l.neg)), .no (c := (p.neg != l.neg)) (d := true) rfl (fun v w h => h), fun h w => optUndef h, fun zβ za zw zc => ?_⟩, ?_⟩
    · exact wp_call (by kernel_rfl) rfl (hv1 (zc.kn.ev rfl)) (atom_any p _ g2 a1 a2 c1 c2 (hB16.below zc.below)) (fun v w' h => ⟨v, rfl, h.2, optDef zβ h.1⟩)
    refine ⟨⟨(true && !(p.neg != l.neg)), .no (c := (p.neg != l.neg)) (d := true) rfl (fun v w h => h), fun h w => optUndef h, fun zβ za zw zc => ?_⟩, ?_⟩
    · exact wp_call (by kernel_rfl) rfl (hv1 (zc.kn.ev rfl)) (atom_any l _ g9 a3 a4 c3 c4 (hB11.below zc.below)) (fun v w' h => ⟨v, rfl, h.2, optDef zβ h.1⟩)
    refine ⟨⟨(true && !(p.neg != l.neg)), .no (c := (p.neg != l.neg)) (d := true) rfl (fun v w h => h), fun h w => optUndef h, fun zβ za zw zc => ?_⟩, ?_⟩
    · exact neq_4 rfl ((show za.eval (.tmp 16) = za.tmps.getD 16 undef from rfl).trans (optVal (zc.dep 6 16 (by kernel_rfl)) rfl zβ)) ((show za.eval (.tmp 17) = za.tmps.getD 17 undef from rfl).trans (optVal (zc.dep 7 17 (by kernel_rfl)) rfl zβ)) ⟨_, rfl, Below.refl _ _, optDef zβ rfl⟩
    refine ⟨⟨true, .none rfl, fun h w => optUndef h, fun zβ za zw zc => ?_⟩, ?_⟩
    · exact wp_or rfl ((show za.eval (.tmp 15) = za.tmps.getD 15 undef from rfl).trans (optVal (zc.dep 5 15 (by kernel_rfl)) rfl rfl)) (fun hp => ((show za.eval (.tmp 18) = za.tmps.getD 18 undef from rfl).trans (optVal (zc.dep 8 18 (by kernel_rfl)) rfl (bMkN zβ hp)))) ⟨_, rfl, Below.refl _ _, optDef zβ rfl⟩
    exact trivial
  · intro za w19 zh hb20 zu
    have zh := zh.cons (d := 19) (v := .bool (((p.neg != l.neg) || (p.atom != l.atom)))) (optVal (zu 9 19 (by kernel_rfl)) rfl rfl)
    clear zu
    refine (show WE _ [(0, .iface 33 (.pointer (some ⟨g, 0, none⟩))), (1, .agg #[.bool p.neg, .int .i64 p.l.f, .slice a1 p.l.args.length c1, .int .i64 p.r.f, .slice a2 p.r.args.length c2]), (2, .agg #[.bool l.neg, .int .i64 l.l.f, .slice a3 l.l.args.length c3, .int .i64 l.r.f, .slice a4 l.r.args.length c4]), (3, .bool tu), (5, .pointer (some ⟨g2, 0, none⟩)), (6, .pointer (some ⟨g9, 0, none⟩)), (8, .bool false), (19, .bool (((p.neg != l.neg) || (p.atom != l.atom))))] w19 _ .normal from ?_) za (zh.sub ⟨rfl, rfl, rfl, rfl, rfl, rfl, rfl, rfl, trivial⟩)
    refine WE.next ?_
    refine WC.cond rfl (fun h21 => ?_) (fun h21 => ?_)
    · have h21 : (p.neg ≠ l.neg) ∨ (p.atom ≠ l.atom) := by simpa using h21
      refine WC.seq ?_
      refine WC.region ?_
      refine WL.val (.bool false) rfl rfl rfl (fun za zC zh zk => wp_assign rfl (zh.ev rfl) zk) ?_
      refine WL.nil (WE.sub (K' := [(0, .iface 33 (.pointer (some ⟨g, 0, none⟩))), (1, .agg #[.bool p.neg, .int .i64 p.l.f, .slice a1 p.l.args.length c1, .int .i64 p.r.f, .slice a2 p.r.args.length c2]), (2, .agg #[.bool l.neg, .int .i64 l.l.f, .slice a3 l.l.args.length c3, .int .i64 l.r.f, .slice a4 l.r.args.length c4]), (3, .bool tu), (5, .pointer (some ⟨g2, 0, none⟩)), (6, .pointer (some ⟨g9, 0, none⟩)), (8, .bool false), (19, .bool (((p.neg != l.neg) || (p.atom != l.atom))))]) ⟨rfl, rfl, rfl, rfl, rfl, rfl, rfl, rfl, trivial⟩ ?_)
      refine WE.next ?_
      refine WC.ret ?_
      refine WE.thenRet ?_
      refine WE.ret1 rfl rfl ?_
      have hb23 : Below w.heap.size w w19 := (bstep (bstep hb5 hb12) hb20)
      have ho22 := h.below hb23
      have hfin := lOk_no1 (p := p) (l := l) (b := tu) (st := st) (fun q => by simp [q.1, q.2] at h21)
      exact ⟨_, rfl, ⟨C, congrArg Value.bool hfin.1.symm, by rw [hfin.2]; exact ho22, fun b q => .inl q⟩, .ofBelow hb23⟩
    · have h21 : ¬ ((p.neg ≠ l.neg) ∨ (p.atom ≠ l.atom)) := by simpa using h21
      refine WC.skip ?_
      refine WE.next ?_
      refine WC.seq ?_
      refine WC.seq ?_
      refine WC.region ?_
      refine WL.val (.bool tu) rfl rfl rfl (fun za zC zh zk => wp_move rfl (zh.ev rfl) zk) ?_
      refine WL.nil (WE.sub (K' := [(0, .iface 33 (.pointer (some ⟨g, 0, none⟩))), (1, .agg #[.bool p.neg, .int .i64 p.l.f, .slice a1 p.l.args.length c1, .int .i64 p.r.f, .slice a2 p.r.args.length c2]), (2, .agg #[.bool l.neg, .int .i64 l.l.f, .slice a3 l.l.args.length c3, .int .i64 l.r.f, .slice a4 l.r.args.length c4]), (3, .bool tu), (5, .pointer (some ⟨g2, 0, none⟩)), (6, .pointer (some ⟨g9, 0, none⟩)), (8, .bool false), (19, .bool (((p.neg != l.neg) || (p.atom != l.atom)))), (20, .bool tu)]) ⟨rfl, rfl, rfl, rfl, rfl, rfl, rfl, rfl, rfl, trivial⟩ ?_)
      refine WE.next ?_
      refine WC.cond rfl (fun h24 => ?_) (fun h24 => ?_)
      · skip
        refine WC.region ?_
        refine WL.val (.pointer (some ⟨g9, 3, none⟩)) rfl rfl rfl (fun za zC zh zk => fld_41_2 rfl (zh.ev rfl) zk) ?_
        have hB25 := hB11.below hb20
        refine WL.val (.agg #[.int .i64 l.r.f, .slice a4 l.r.args.length c4]) rfl rfl rfl (fun za zC zh zk => ld_24 rfl (zh.ev rfl) ((hB25.cell 3).trans rfl) ((hB25.cell 4).trans rfl) zk) ?_
        refine WL.val (.pointer (some ⟨g9, 1, none⟩)) rfl rfl rfl (fun za zC zh zk => fld_41_1 rfl (zh.ev rfl) zk) ?_
        refine WL.val (.agg #[.int .i64 l.l.f, .slice a3 l.l.args.length c3]) rfl rfl rfl (fun za zC zh zk => ld_24 rfl (zh.ev rfl) ((hB25.cell 1).trans rfl) ((hB25.cell 2).trans rfl) zk) ?_
        refine WL.val (.pointer (some ⟨g9, 1, none⟩)) rfl rfl rfl (fun za zC zh zk => fld_41_1 rfl (zh.ev rfl) zk) ?_
        refine WL.step (post := fun _ w' => Upd g9 w19 w' ∧ Blk w' g9 41 #[.bool l.neg, .int .i64 l.r.f, .slice a4 l.r.args.length c4, .int .i64 l.r.f, .slice a4 l.r.args.length c4]) rfl rfl rfl (fun za zC zh zk => st_24 rfl (zh.ev rfl) (zh.ev rfl) rfl rfl hB25 (by first | decide | simp) (fun v => zk v _ ⟨(Upd.at_ _ _ _ _).trans (Upd.at_ _ _ _ _), (hB25.set_ 1 _).set_ 2 _⟩)) ?_
        rintro v29 w26 ⟨hu27, hB28⟩
        have hb30 : Below w.heap.size w w19 := (bstep (bstep hb5 hb12) hb20)
        have hb31 := upd_below hb30 hu27 (by omega)
        have hB32 := hB16.below hb20
        have hB33 := upd_blk hB32 hu27 (by omega)
        refine WL.val (.pointer (some ⟨g9, 3, none⟩)) rfl rfl rfl (fun za zC zh zk => fld_41_2 rfl (zh.ev rfl) zk) ?_
        refine WL.step (post := fun _ w' => Upd g9 w26 w' ∧ Blk w' g9 41 #[.bool l.neg, .int .i64 l.r.f, .slice a4 l.r.args.length c4, .int .i64 l.l.f, .slice a3 l.l.args.length c3]) rfl rfl rfl (fun za zC zh zk => st_24 rfl (zh.ev rfl) (zh.ev rfl) rfl rfl hB28 (by first | decide | simp) (fun v => zk v _ ⟨(Upd.at_ _ _ _ _).trans (Upd.at_ _ _ _ _), (hB28.set_ 3 _).set_ 4 _⟩)) ?_
        rintro v37 w34 ⟨hu35, hB36⟩
        have hb38 := upd_below hb31 hu35 (by omega)
        have hB39 := upd_blk hB33 hu35 (by omega)
        refine WL.nil (WE.sub (K' := [(0, .iface 33 (.pointer (some ⟨g, 0, none⟩))), (1, .agg #[.bool p.neg, .int .i64 p.l.f, .slice a1 p.l.args.length c1, .int .i64 p.r.f, .slice a2 p.r.args.length c2]), (2, .agg #[.bool l.neg, .int .i64 l.l.f, .slice a3 l.l.args.length c3, .int .i64 l.r.f, .slice a4 l.r.args.length c4]), (3, .bool tu), (5, .pointer (some ⟨g2, 0, none⟩)), (6, .pointer (some ⟨g9, 0, none⟩)), (8, .bool false), (19, .bool (((p.neg != l.neg) || (p.atom != l.atom)))), (20, .bool tu)]) ⟨rfl, rfl, rfl, rfl, rfl, rfl, rfl, rfl, rfl, trivial⟩ ?_)
        refine WE.next ?_
        refine WC.seq ?_
        refine WC.region ?_
        refine WL.val (.iface 33 (.pointer (some ⟨g, 0, none⟩))) rfl rfl rfl (fun za zC zh zk => wp_move rfl (zh.ev rfl) zk) ?_
        have hl40 : g2 < w34.heap.size := hB39.lt
        have hl41 : w.heap.size ≤ g2 := by have z : w.heap.size ≤ w.heap.size := (Nat.le_refl _); omega
        have hl42 : g9 < w34.heap.size := hB36.lt
        have hl43 : w.heap.size ≤ g9 := by have z : w.heap.size ≤ w1.heap.size := hb5.size; omega
        have ho45 := h.below hb38
        have hgo44 : MatGo w34 C g st w34 := MatGo.start ho45
        have hA1 : ∀ b, (A b ∧ b < w.heap.size) → ¬ Since w34 C b := fun b q q2 => q2.elim (hA b q.1) (fun q2 => by have z := hb38.size; omega)
        have hpl1 := InT.mono (S' := fun b => A b ∧ b < w.heap.size) (fun b q z => ⟨q, z⟩) hpl
        have hpr1 := InT.mono (S' := fun b => A b ∧ b < w.heap.size) (fun b q z => ⟨q, z⟩) hpr
        have hll1 := InT.mono (S' := fun b => A b ∧ b < w.heap.size) (fun b q z => ⟨q, z⟩) hll
        have hlr1 := InT.mono (S' := fun b => A b ∧ b < w.heap.size) (fun b q z => ⟨q, z⟩) hlr
        refine WL.step (post := fun v w' => v = .int .i64 (st.length : Nat) ∧ Below w34.heap.size w34 w') rfl rfl rfl (fun za zC zh zk => wp_invk (by kernel_rfl) (inv_mark _ _) rfl (zh.ev rfl) (hv0) (mark_go hgo44) (fun v w' h => zk v w' h)) ?_
        rintro _ w46 ⟨rfl, hb47⟩
        refine WL.val (.int .i64 (((st.length : Nat) : Int))) rfl rfl rfl (fun za zC zh zk => wp_assign rfl (zh.ev rfl) zk) ?_
        refine WL.nil (WE.sub (K' := [(0, .iface 33 (.pointer (some ⟨g, 0, none⟩))), (1, .agg #[.bool p.neg, .int .i64 p.l.f, .slice a1 p.l.args.length c1, .int .i64 p.r.f, .slice a2 p.r.args.length c2]), (2, .agg #[.bool l.neg, .int .i64 l.l.f, .slice a3 l.l.args.length c3, .int .i64 l.r.f, .slice a4 l.r.args.length c4]), (3, .bool tu), (5, .pointer (some ⟨g2, 0, none⟩)), (6, .pointer (some ⟨g9, 0, none⟩)), (8, .bool false), (9, .int .i64 (((st.length : Nat) : Int))), (19, .bool (((p.neg != l.neg) || (p.atom != l.atom)))), (20, .bool tu)]) ⟨rfl, rfl, rfl, rfl, rfl, rfl, rfl, rfl, rfl, rfl, trivial⟩ ?_)
        refine WE.next ?_
        refine WC.seq ?_
        refine WC.seq ?_
        refine WC.region ?_
        refine WL.val (.iface 33 (.pointer (some ⟨g, 0, none⟩))) rfl rfl rfl (fun za zC zh zk => wp_move rfl (zh.ev rfl) zk) ?_
        refine WL.val (.pointer (some ⟨g2, 1, none⟩)) rfl rfl rfl (fun za zC zh zk => fld_41_1 rfl (zh.ev rfl) zk) ?_
        have hB48 := hB39.below hb47
        refine WL.val (.agg #[.int .i64 p.l.f, .slice a1 p.l.args.length c1]) rfl rfl rfl (fun za zC zh zk => ld_24 rfl (zh.ev rfl) ((hB48.cell 1).trans rfl) ((hB48.cell 2).trans rfl) zk) ?_
        refine WL.val (.pointer (some ⟨g9, 1, none⟩)) rfl rfl rfl (fun za zC zh zk => fld_41_1 rfl (zh.ev rfl) zk) ?_
        have hB49 := hB36.below hb47
        refine WL.val (.agg #[.int .i64 l.r.f, .slice a4 l.r.args.length c4]) rfl rfl rfl (fun za zC zh zk => ld_24 rfl (zh.ev rfl) ((hB49.cell 1).trans rfl) ((hB49.cell 2).trans rfl) zk) ?_
        have ho50 := hgo44.below hb47
        have hs51 : Chg ((Since w34 C)) w34 w46 := (Chg.trans2 (Chg.refl ((Since w34 C)) _) (Chg.ofBelow (S := fun k => k < 0) hb47) (fun i h1 h2 => by first | exact h2 | exact .inl h2 | exact .inr h2 | exact .inr (.inl h2) | exact .inr (.inr h2) | ((try dsimp only at *); omega)))
        refine WL.step (post := fun v w' => (v = .bool (mOk p.l l.r st) ∧ MatGo w34 C g (mTo p.l l.r st) w') ∧ Chg (Since w34 C) w46 w') rfl rfl rfl (fun za zC zh zk => wp_invk (by kernel_rfl) (inv_term _ _) rfl (zh.ev rfl) (hv2 (zh.ev rfl) (zh.ev rfl)) (term_go p.l l.r ho50 ((hpl1.below hb38).chg hs51 hA1) (InT.isT ((hlr1.below hb38).chg hs51 hA1)) hA1 hp1 hl2 (by have z := mTo_take p.l l.r st; omega)) (fun v w' h => zk v w' h)) ?_
        rintro _ w52 ⟨⟨rfl, hgo53⟩, hc54⟩
        have hB55 := chg_blk hB48 hc54 (fun h => h.elim (fun h => by have z := hClt _ h; (try dsimp only at *); omega) (fun h => by (try dsimp only at *); omega))
        have hB56 := chg_blk hB49 hc54 (fun h => h.elim (fun h => by have z := hClt _ h; (try dsimp only at *); omega) (fun h => by (try dsimp only at *); omega))
        refine WL.val (.bool ((mOk p.l l.r st))) rfl rfl rfl (fun za zC zh zk => wp_move rfl (zh.ev rfl) zk) ?_
        refine bool_split ((mOk p.l l.r st)) (fun h57 => ?_) (fun h57 => ?_)
        · refine WL.sub (K' := [(0, .iface 33 (.pointer (some ⟨g, 0, none⟩))), (1, .agg #[.bool p.neg, .int .i64 p.l.f, .slice a1 p.l.args.length c1, .int .i64 p.r.f, .slice a2 p.r.args.length c2]), (2, .agg #[.bool l.neg, .int .i64 l.l.f, .slice a3 l.l.args.length c3, .int .i64 l.r.f, .slice a4 l.r.args.length c4]), (3, .bool tu), (5, .pointer (some ⟨g2, 0, none⟩)), (6, .pointer (some ⟨g9, 0, none⟩)), (8, .bool false), (9, .int .i64 (((st.length : Nat) : Int))), (19, .bool (((p.neg != l.neg) || (p.atom != l.atom)))), (20, .bool tu), (29, .iface 33 (.pointer (some ⟨g, 0, none⟩))), (30, .pointer (some ⟨g2, 1, none⟩)), (31, .agg #[.int .i64 p.l.f, .slice a1 p.l.args.length c1]), (32, .pointer (some ⟨g9, 1, none⟩)), (33, .agg #[.int .i64 l.r.f, .slice a4 l.r.args.length c4]), (34, .bool ((mOk p.l l.r st))), (35, .bool true)]) ⟨rfl, rfl, rfl, rfl, rfl, rfl, rfl, rfl, rfl, rfl, rfl, rfl, rfl, rfl, rfl, rfl, (by exact congrArg (fun z => some (Value.bool z)) h57), trivial⟩ ?_
          refine WL.want (d := 35) rfl rfl rfl ?_
          refine WL.val (.iface 33 (.pointer (some ⟨g, 0, none⟩))) rfl rfl rfl (fun za zC zh zk => wp_move rfl (zh.ev rfl) zk) ?_
          refine WL.want (d := 35) rfl rfl rfl ?_
          refine WL.val (.pointer (some ⟨g2, 3, none⟩)) rfl rfl rfl (fun za zC zh zk => fld_41_2 rfl (zh.ev rfl) zk) ?_
          refine WL.want (d := 35) rfl rfl rfl ?_
          refine WL.val (.agg #[.int .i64 p.r.f, .slice a2 p.r.args.length c2]) rfl rfl rfl (fun za zC zh zk => ld_24 rfl (zh.ev rfl) ((hB55.cell 3).trans rfl) ((hB55.cell 4).trans rfl) zk) ?_
          refine WL.want (d := 35) rfl rfl rfl ?_
          refine WL.val (.pointer (some ⟨g9, 3, none⟩)) rfl rfl rfl (fun za zC zh zk => fld_41_2 rfl (zh.ev rfl) zk) ?_
          refine WL.want (d := 35) rfl rfl rfl ?_
          refine WL.val (.agg #[.int .i64 l.l.f, .slice a3 l.l.args.length c3]) rfl rfl rfl (fun za zC zh zk => ld_24 rfl (zh.ev rfl) ((hB56.cell 3).trans rfl) ((hB56.cell 4).trans rfl) zk) ?_
          refine WL.want (d := 35) rfl rfl rfl ?_
          have hs58 : Chg ((Since w34 C)) w34 w52 := (Chg.trans2 (Chg.trans2 (Chg.refl ((Since w34 C)) _) (Chg.ofBelow (S := fun k => k < 0) hb47) (fun i h1 h2 => by first | exact h2 | exact .inl h2 | exact .inr h2 | exact .inr (.inl h2) | exact .inr (.inr h2) | ((try dsimp only at *); omega))) hc54 (fun i h1 h2 => by first | exact h2 | exact .inl h2 | exact .inr h2 | exact .inr (.inl h2) | exact .inr (.inr h2) | ((try dsimp only at *); omega)))
          refine WL.step (post := fun v w' => (v = .bool (mOk p.r l.l (mTo p.l l.r st)) ∧ MatGo w34 C g (mTo p.r l.l (mTo p.l l.r st)) w') ∧ Chg (Since w34 C) w52 w') rfl rfl rfl (fun za zC zh zk => wp_invk (by kernel_rfl) (inv_term _ _) rfl (zh.ev rfl) (hv2 (zh.ev rfl) (zh.ev rfl)) (term_go p.r l.l hgo53 ((hpr1.below hb38).chg hs58 hA1) (InT.isT ((hll1.below hb38).chg hs58 hA1)) hA1 hp2 hl1 (by have z := mTo_take p.l l.r st; omega)) (fun v w' h => zk v w' h)) ?_
          rintro _ w59 ⟨⟨rfl, hgo60⟩, hc61⟩
          have hB62 := chg_blk hB55 hc61 (fun h => h.elim (fun h => by have z := hClt _ h; (try dsimp only at *); omega) (fun h => by (try dsimp only at *); omega))
          have hB63 := chg_blk hB56 hc61 (fun h => h.elim (fun h => by have z := hClt _ h; (try dsimp only at *); omega) (fun h => by (try dsimp only at *); omega))
          refine WL.val (.bool ((mOk p.r l.l (mTo p.l l.r st)))) rfl rfl rfl (fun za zC zh zk => wp_pickT rfl (zh.ev rfl) (zh.ev rfl) zk) ?_
          refine WL.nil (WE.sub (K' := [(0, .iface 33 (.pointer (some ⟨g, 0, none⟩))), (1, .agg #[.bool p.neg, .int .i64 p.l.f, .slice a1 p.l.args.length c1, .int .i64 p.r.f, .slice a2 p.r.args.length c2]), (2, .agg #[.bool l.neg, .int .i64 l.l.f, .slice a3 l.l.args.length c3, .int .i64 l.r.f, .slice a4 l.r.args.length c4]), (3, .bool tu), (5, .pointer (some ⟨g2, 0, none⟩)), (6, .pointer (some ⟨g9, 0, none⟩)), (8, .bool false), (9, .int .i64 (((st.length : Nat) : Int))), (19, .bool (((p.neg != l.neg) || (p.atom != l.atom)))), (20, .bool tu), (42, .bool ((mOk p.r l.l (mTo p.l l.r st))))]) ⟨rfl, rfl, rfl, rfl, rfl, rfl, rfl, rfl, rfl, rfl, rfl, trivial⟩ ?_)
          refine WE.next ?_
          refine WC.cond rfl (fun h64 => ?_) (fun h64 => ?_)
          · skip
            refine WC.seq ?_
            refine WC.region ?_
            refine WL.val (.bool true) rfl rfl rfl (fun za zC zh zk => wp_assign rfl (zh.ev rfl) zk) ?_
            refine WL.nil (WE.sub (K' := [(0, .iface 33 (.pointer (some ⟨g, 0, none⟩))), (1, .agg #[.bool p.neg, .int .i64 p.l.f, .slice a1 p.l.args.length c1, .int .i64 p.r.f, .slice a2 p.r.args.length c2]), (2, .agg #[.bool l.neg, .int .i64 l.l.f, .slice a3 l.l.args.length c3, .int .i64 l.r.f, .slice a4 l.r.args.length c4]), (3, .bool tu), (5, .pointer (some ⟨g2, 0, none⟩)), (6, .pointer (some ⟨g9, 0, none⟩)), (8, .bool true), (9, .int .i64 (((st.length : Nat) : Int))), (19, .bool (((p.neg != l.neg) || (p.atom != l.atom)))), (20, .bool tu), (42, .bool ((mOk p.r l.l (mTo p.l l.r st))))]) ⟨rfl, rfl, rfl, rfl, rfl, rfl, rfl, rfl, rfl, rfl, rfl, trivial⟩ ?_)
            refine WE.next ?_
            refine WC.ret ?_
            refine WE.thenRet ?_
            refine WE.ret1 rfl rfl ?_
            have hs65 : Chg ((Since w34 C)) w34 w59 := (Chg.trans2 (Chg.trans2 (Chg.trans2 (Chg.refl ((Since w34 C)) _) (Chg.ofBelow (S := fun k => k < 0) hb47) (fun i h1 h2 => by first | exact h2 | exact .inl h2 | exact .inr h2 | exact .inr (.inl h2) | exact .inr (.inr h2) | ((try dsimp only at *); omega))) hc54 (fun i h1 h2 => by first | exact h2 | exact .inl h2 | exact .inr h2 | exact .inr (.inl h2) | exact .inr (.inr h2) | ((try dsimp only at *); omega))) hc61 (fun i h1 h2 => by first | exact h2 | exact .inl h2 | exact .inr h2 | exact .inr (.inl h2) | exact .inr (.inr h2) | ((try dsimp only at *); omega)))
            have htu9 : tu = true := by simpa using h24
            have hsm : p.neg = l.neg ∧ p.atom = l.atom := by have z := h21; simp at z; exact z
            have hfin := lOk_yes (p := p) (l := l) (b := tu) (st := st) hsm (by rw [htu9]; exact h57) (by rw [htu9]; exact h64)
            rw [htu9] at hfin
            subst htu9
            exact ⟨_, rfl, by rw [hfin.1, hfin.2]; obtain ⟨C9, z1, z2⟩ := MatGo.done hgo60 hb38.size; exact ⟨C9, rfl, z1, z2⟩, chg_since hb38 hs65⟩
          · skip
            refine WC.skip ?_
            refine WE.next ?_
            refine WC.seq ?_
            refine WC.region ?_
            refine WL.val (.iface 33 (.pointer (some ⟨g, 0, none⟩))) rfl rfl rfl (fun za zC zh zk => wp_move rfl (zh.ev rfl) zk) ?_
            refine WL.val (.int .i64 (((st.length : Nat) : Int))) rfl rfl rfl (fun za zC zh zk => wp_move rfl (zh.ev rfl) zk) ?_
            refine WL.step (post := fun v w' => MatGo w34 C g (backTo (mTo p.r l.l (mTo p.l l.r st)) (st.length : Nat)) w' ∧ Chg (Since w34 C) w59 w') rfl rfl rfl (fun za zC zh zk => wp_invk (by kernel_rfl) (inv_back _ _) rfl (zh.ev rfl) (hv1 (zh.ev rfl)) (back_go (st.length : Nat) hgo60) (fun v w' h => zk v w' h)) ?_
            rintro _ w66 ⟨hgo67, hc68⟩
            have hB69 := chg_blk hB62 hc68 (fun h => h.elim (fun h => by have z := hClt _ h; (try dsimp only at *); omega) (fun h => by (try dsimp only at *); omega))
            have hB70 := chg_blk hB63 hc68 (fun h => h.elim (fun h => by have z := hClt _ h; (try dsimp only at *); omega) (fun h => by (try dsimp only at *); omega))
            refine WL.nil (WE.sub (K' := [(0, .iface 33 (.pointer (some ⟨g, 0, none⟩))), (1, .agg #[.bool p.neg, .int .i64 p.l.f, .slice a1 p.l.args.length c1, .int .i64 p.r.f, .slice a2 p.r.args.length c2]), (2, .agg #[.bool l.neg, .int .i64 l.l.f, .slice a3 l.l.args.length c3, .int .i64 l.r.f, .slice a4 l.r.args.length c4]), (3, .bool tu), (5, .pointer (some ⟨g2, 0, none⟩)), (6, .pointer (some ⟨g9, 0, none⟩)), (8, .bool false), (9, .int .i64 (((st.length : Nat) : Int))), (19, .bool (((p.neg != l.neg) || (p.atom != l.atom)))), (20, .bool tu), (42, .bool ((mOk p.r l.l (mTo p.l l.r st))))]) ⟨rfl, rfl, rfl, rfl, rfl, rfl, rfl, rfl, rfl, rfl, rfl, trivial⟩ ?_)
            refine WE.next ?_
            refine WC.seq ?_
            refine WC.region ?_
            refine WL.val (.bool false) rfl rfl rfl (fun za zC zh zk => wp_assign rfl (zh.ev rfl) zk) ?_
            refine WL.nil (WE.sub (K' := [(0, .iface 33 (.pointer (some ⟨g, 0, none⟩))), (1, .agg #[.bool p.neg, .int .i64 p.l.f, .slice a1 p.l.args.length c1, .int .i64 p.r.f, .slice a2 p.r.args.length c2]), (2, .agg #[.bool l.neg, .int .i64 l.l.f, .slice a3 l.l.args.length c3, .int .i64 l.r.f, .slice a4 l.r.args.length c4]), (3, .bool tu), (5, .pointer (some ⟨g2, 0, none⟩)), (6, .pointer (some ⟨g9, 0, none⟩)), (8, .bool false), (9, .int .i64 (((st.length : Nat) : Int))), (19, .bool (((p.neg != l.neg) || (p.atom != l.atom)))), (20, .bool tu), (42, .bool ((mOk p.r l.l (mTo p.l l.r st))))]) ⟨rfl, rfl, rfl, rfl, rfl, rfl, rfl, rfl, rfl, rfl, rfl, trivial⟩ ?_)
            refine WE.next ?_
            refine WC.ret ?_
            refine WE.ret1 rfl rfl ?_
            have hs71 : Chg ((Since w34 C)) w34 w66 := (Chg.trans2 (Chg.trans2 (Chg.trans2 (Chg.trans2 (Chg.refl ((Since w34 C)) _) (Chg.ofBelow (S := fun k => k < 0) hb47) (fun i h1 h2 => by first | exact h2 | exact .inl h2 | exact .inr h2 | exact .inr (.inl h2) | exact .inr (.inr h2) | ((try dsimp only at *); omega))) hc54 (fun i h1 h2 => by first | exact h2 | exact .inl h2 | exact .inr h2 | exact .inr (.inl h2) | exact .inr (.inr h2) | ((try dsimp only at *); omega))) hc61 (fun i h1 h2 => by first | exact h2 | exact .inl h2 | exact .inr h2 | exact .inr (.inl h2) | exact .inr (.inr h2) | ((try dsimp only at *); omega))) hc68 (fun i h1 h2 => by first | exact h2 | exact .inl h2 | exact .inr h2 | exact .inr (.inl h2) | exact .inr (.inr h2) | ((try dsimp only at *); omega)))
            have htu9 : tu = true := by simpa using h24
            have hsm : p.neg = l.neg ∧ p.atom = l.atom := by have z := h21; simp at z; exact z
            have hfin := lOk_no3 (p := p) (l := l) (b := tu) (st := st) (by rw [htu9]; exact Bool.eq_false_iff.1 h64)
            have hb9 : backTo (mTo p.r l.l (mTo p.l l.r st)) (st.length : Nat) = st := by rw [mTo_no (Bool.eq_false_iff.1 h64)]; have z1 := mTo_take p.l l.r st; rw [backTo_nat (by omega), z1.2.2]
            rw [hb9] at hgo67
            exact ⟨_, rfl, by rw [hfin.1, hfin.2]; obtain ⟨C9, z1, z2⟩ := MatGo.done hgo67 hb38.size; exact ⟨C9, rfl, z1, z2⟩, chg_since hb38 hs71⟩
        · refine WL.sub (K' := [(0, .iface 33 (.pointer (some ⟨g, 0, none⟩))), (1, .agg #[.bool p.neg, .int .i64 p.l.f, .slice a1 p.l.args.length c1, .int .i64 p.r.f, .slice a2 p.r.args.length c2]), (2, .agg #[.bool l.neg, .int .i64 l.l.f, .slice a3 l.l.args.length c3, .int .i64 l.r.f, .slice a4 l.r.args.length c4]), (3, .bool tu), (5, .pointer (some ⟨g2, 0, none⟩)), (6, .pointer (some ⟨g9, 0, none⟩)), (8, .bool false), (9, .int .i64 (((st.length : Nat) : Int))), (19, .bool (((p.neg != l.neg) || (p.atom != l.atom)))), (20, .bool tu), (29, .iface 33 (.pointer (some ⟨g, 0, none⟩))), (30, .pointer (some ⟨g2, 1, none⟩)), (31, .agg #[.int .i64 p.l.f, .slice a1 p.l.args.length c1]), (32, .pointer (some ⟨g9, 1, none⟩)), (33, .agg #[.int .i64 l.r.f, .slice a4 l.r.args.length c4]), (34, .bool ((mOk p.l l.r st))), (35, .bool false)]) ⟨rfl, rfl, rfl, rfl, rfl, rfl, rfl, rfl, rfl, rfl, rfl, rfl, rfl, rfl, rfl, rfl, (by exact congrArg (fun z => some (Value.bool z)) h57), trivial⟩ ?_
          refine WL.skip (d := 35) rfl rfl rfl rfl rfl ?_
          refine WL.skip (d := 35) rfl rfl rfl rfl rfl ?_
          refine WL.skip (d := 35) rfl rfl rfl rfl rfl ?_
          refine WL.skip (d := 35) rfl rfl rfl rfl rfl ?_
          refine WL.skip (d := 35) rfl rfl rfl rfl rfl ?_
          refine WL.skip (d := 35) rfl rfl rfl rfl rfl ?_
          refine WL.val (.bool false) rfl rfl rfl (fun za zC zh zk => wp_pickF rfl (zh.ev rfl) (zh.ev rfl) zk) ?_
          refine WL.nil (WE.sub (K' := [(0, .iface 33 (.pointer (some ⟨g, 0, none⟩))), (1, .agg #[.bool p.neg, .int .i64 p.l.f, .slice a1 p.l.args.length c1, .int .i64 p.r.f, .slice a2 p.r.args.length c2]), (2, .agg #[.bool l.neg, .int .i64 l.l.f, .slice a3 l.l.args.length c3, .int .i64 l.r.f, .slice a4 l.r.args.length c4]), (3, .bool tu), (5, .pointer (some ⟨g2, 0, none⟩)), (6, .pointer (some ⟨g9, 0, none⟩)), (8, .bool false), (9, .int .i64 (((st.length : Nat) : Int))), (19, .bool (((p.neg != l.neg) || (p.atom != l.atom)))), (20, .bool tu), (42, .bool false)]) ⟨rfl, rfl, rfl, rfl, rfl, rfl, rfl, rfl, rfl, rfl, rfl, trivial⟩ ?_)
          refine WE.next ?_
          refine WC.condF rfl rfl ?_
          refine WC.skip ?_
          refine WE.next ?_
          refine WC.seq ?_
          refine WC.region ?_
          refine WL.val (.iface 33 (.pointer (some ⟨g, 0, none⟩))) rfl rfl rfl (fun za zC zh zk => wp_move rfl (zh.ev rfl) zk) ?_
          refine WL.val (.int .i64 (((st.length : Nat) : Int))) rfl rfl rfl (fun za zC zh zk => wp_move rfl (zh.ev rfl) zk) ?_
          refine WL.step (post := fun v w' => MatGo w34 C g (backTo (mTo p.l l.r st) (st.length : Nat)) w' ∧ Chg (Since w34 C) w52 w') rfl rfl rfl (fun za zC zh zk => wp_invk (by kernel_rfl) (inv_back _ _) rfl (zh.ev rfl) (hv1 (zh.ev rfl)) (back_go (st.length : Nat) hgo53) (fun v w' h => zk v w' h)) ?_
          rintro _ w72 ⟨hgo73, hc74⟩
          have hB75 := chg_blk hB55 hc74 (fun h => h.elim (fun h => by have z := hClt _ h; (try dsimp only at *); omega) (fun h => by (try dsimp only at *); omega))
          have hB76 := chg_blk hB56 hc74 (fun h => h.elim (fun h => by have z := hClt _ h; (try dsimp only at *); omega) (fun h => by (try dsimp only at *); omega))
          refine WL.nil (WE.sub (K' := [(0, .iface 33 (.pointer (some ⟨g, 0, none⟩))), (1, .agg #[.bool p.neg, .int .i64 p.l.f, .slice a1 p.l.args.length c1, .int .i64 p.r.f, .slice a2 p.r.args.length c2]), (2, .agg #[.bool l.neg, .int .i64 l.l.f, .slice a3 l.l.args.length c3, .int .i64 l.r.f, .slice a4 l.r.args.length c4]), (3, .bool tu), (5, .pointer (some ⟨g2, 0, none⟩)), (6, .pointer (some ⟨g9, 0, none⟩)), (8, .bool false), (9, .int .i64 (((st.length : Nat) : Int))), (19, .bool (((p.neg != l.neg) || (p.atom != l.atom)))), (20, .bool tu), (42, .bool false)]) ⟨rfl, rfl, rfl, rfl, rfl, rfl, rfl, rfl, rfl, rfl, rfl, trivial⟩ ?_)
          refine WE.next ?_
          refine WC.seq ?_
          refine WC.region ?_
          refine WL.val (.bool false) rfl rfl rfl (fun za zC zh zk => wp_assign rfl (zh.ev rfl) zk) ?_
          refine WL.nil (WE.sub (K' := [(0, .iface 33 (.pointer (some ⟨g, 0, none⟩))), (1, .agg #[.bool p.neg, .int .i64 p.l.f, .slice a1 p.l.args.length c1, .int .i64 p.r.f, .slice a2 p.r.args.length c2]), (2, .agg #[.bool l.neg, .int .i64 l.l.f, .slice a3 l.l.args.length c3, .int .i64 l.r.f, .slice a4 l.r.args.length c4]), (3, .bool tu), (5, .pointer (some ⟨g2, 0, none⟩)), (6, .pointer (some ⟨g9, 0, none⟩)), (8, .bool false), (9, .int .i64 (((st.length : Nat) : Int))), (19, .bool (((p.neg != l.neg) || (p.atom != l.atom)))), (20, .bool tu), (42, .bool false)]) ⟨rfl, rfl, rfl, rfl, rfl, rfl, rfl, rfl, rfl, rfl, rfl, trivial⟩ ?_)
          refine WE.next ?_
          refine WC.ret ?_
          refine WE.ret1 rfl rfl ?_
          have hs77 : Chg ((Since w34 C)) w34 w72 := (Chg.trans2 (Chg.trans2 (Chg.trans2 (Chg.refl ((Since w34 C)) _) (Chg.ofBelow (S := fun k => k < 0) hb47) (fun i h1 h2 => by first | exact h2 | exact .inl h2 | exact .inr h2 | exact .inr (.inl h2) | exact .inr (.inr h2) | ((try dsimp only at *); omega))) hc54 (fun i h1 h2 => by first | exact h2 | exact .inl h2 | exact .inr h2 | exact .inr (.inl h2) | exact .inr (.inr h2) | ((try dsimp only at *); omega))) hc74 (fun i h1 h2 => by first | exact h2 | exact .inl h2 | exact .inr h2 | exact .inr (.inl h2) | exact .inr (.inr h2) | ((try dsimp only at *); omega)))
          have htu9 : tu = true := by simpa using h24
          have hsm : p.neg = l.neg ∧ p.atom = l.atom := by have z := h21; simp at z; exact z
          have hfin := lOk_no2 (p := p) (l := l) (b := tu) (st := st) (by rw [htu9]; exact Bool.eq_false_iff.1 h57)
          have hb9 : backTo (mTo p.l l.r st) (st.length : Nat) = st := by have z1 := mTo_take p.l l.r st; rw [backTo_nat (by omega), z1.2.2]
          rw [hb9] at hgo73
          exact ⟨_, rfl, by rw [hfin.1, hfin.2]; obtain ⟨C9, z1, z2⟩ := MatGo.done hgo73 hb38.size; exact ⟨C9, rfl, z1, z2⟩, chg_since hb38 hs77⟩
      · skip
        refine WC.skip ?_
        refine WE.next ?_
        refine WC.seq ?_
        refine WC.region ?_
        refine WL.val (.iface 33 (.pointer (some ⟨g, 0, none⟩))) rfl rfl rfl (fun za zC zh zk => wp_move rfl (zh.ev rfl) zk) ?_
        have hB78 := hB16.below hb20
        have hl79 : g2 < w19.heap.size := hB78.lt
        have hl80 : w.heap.size ≤ g2 := by have z : w.heap.size ≤ w.heap.size := (Nat.le_refl _); omega
        have hB81 := hB11.below hb20
        have hl82 : g9 < w19.heap.size := hB81.lt
        have hl83 : w.heap.size ≤ g9 := by have z : w.heap.size ≤ w1.heap.size := hb5.size; omega
        have hb86 : Below w.heap.size w w19 := (bstep (bstep hb5 hb12) hb20)
        have ho85 := h.below hb86
        have hgo84 : MatGo w19 C g st w19 := MatGo.start ho85
        have hA1 : ∀ b, (A b ∧ b < w.heap.size) → ¬ Since w19 C b := fun b q q2 => q2.elim (hA b q.1) (fun q2 => by have z := hb86.size; omega)
        have hpl1 := InT.mono (S' := fun b => A b ∧ b < w.heap.size) (fun b q z => ⟨q, z⟩) hpl
        have hpr1 := InT.mono (S' := fun b => A b ∧ b < w.heap.size) (fun b q z => ⟨q, z⟩) hpr
        have hll1 := InT.mono (S' := fun b => A b ∧ b < w.heap.size) (fun b q z => ⟨q, z⟩) hll
        have hlr1 := InT.mono (S' := fun b => A b ∧ b < w.heap.size) (fun b q z => ⟨q, z⟩) hlr
        refine WL.step (post := fun v w' => v = .int .i64 (st.length : Nat) ∧ Below w19.heap.size w19 w') rfl rfl rfl (fun za zC zh zk => wp_invk (by kernel_rfl) (inv_mark _ _) rfl (zh.ev rfl) (hv0) (mark_go hgo84) (fun v w' h => zk v w' h)) ?_
        rintro _ w87 ⟨rfl, hb88⟩
        refine WL.val (.int .i64 (((st.length : Nat) : Int))) rfl rfl rfl (fun za zC zh zk => wp_assign rfl (zh.ev rfl) zk) ?_
        refine WL.nil (WE.sub (K' := [(0, .iface 33 (.pointer (some ⟨g, 0, none⟩))), (1, .agg #[.bool p.neg, .int .i64 p.l.f, .slice a1 p.l.args.length c1, .int .i64 p.r.f, .slice a2 p.r.args.length c2]), (2, .agg #[.bool l.neg, .int .i64 l.l.f, .slice a3 l.l.args.length c3, .int .i64 l.r.f, .slice a4 l.r.args.length c4]), (3, .bool tu), (5, .pointer (some ⟨g2, 0, none⟩)), (6, .pointer (some ⟨g9, 0, none⟩)), (8, .bool false), (9, .int .i64 (((st.length : Nat) : Int))), (19, .bool (((p.neg != l.neg) || (p.atom != l.atom)))), (20, .bool tu)]) ⟨rfl, rfl, rfl, rfl, rfl, rfl, rfl, rfl, rfl, rfl, trivial⟩ ?_)
        refine WE.next ?_
        refine WC.seq ?_
        refine WC.seq ?_
        refine WC.region ?_
        refine WL.val (.iface 33 (.pointer (some ⟨g, 0, none⟩))) rfl rfl rfl (fun za zC zh zk => wp_move rfl (zh.ev rfl) zk) ?_
        refine WL.val (.pointer (some ⟨g2, 1, none⟩)) rfl rfl rfl (fun za zC zh zk => fld_41_1 rfl (zh.ev rfl) zk) ?_
        have hB89 := hB78.below hb88
        refine WL.val (.agg #[.int .i64 p.l.f, .slice a1 p.l.args.length c1]) rfl rfl rfl (fun za zC zh zk => ld_24 rfl (zh.ev rfl) ((hB89.cell 1).trans rfl) ((hB89.cell 2).trans rfl) zk) ?_
        refine WL.val (.pointer (some ⟨g9, 1, none⟩)) rfl rfl rfl (fun za zC zh zk => fld_41_1 rfl (zh.ev rfl) zk) ?_
        have hB90 := hB81.below hb88
        refine WL.val (.agg #[.int .i64 l.l.f, .slice a3 l.l.args.length c3]) rfl rfl rfl (fun za zC zh zk => ld_24 rfl (zh.ev rfl) ((hB90.cell 1).trans rfl) ((hB90.cell 2).trans rfl) zk) ?_
        have ho91 := hgo84.below hb88
        have hs92 : Chg ((Since w19 C)) w19 w87 := (Chg.trans2 (Chg.refl ((Since w19 C)) _) (Chg.ofBelow (S := fun k => k < 0) hb88) (fun i h1 h2 => by first | exact h2 | exact .inl h2 | exact .inr h2 | exact .inr (.inl h2) | exact .inr (.inr h2) | ((try dsimp only at *); omega)))
        refine WL.step (post := fun v w' => (v = .bool (mOk p.l l.l st) ∧ MatGo w19 C g (mTo p.l l.l st) w') ∧ Chg (Since w19 C) w87 w') rfl rfl rfl (fun za zC zh zk => wp_invk (by kernel_rfl) (inv_term _ _) rfl (zh.ev rfl) (hv2 (zh.ev rfl) (zh.ev rfl)) (term_go p.l l.l ho91 ((hpl1.below hb86).chg hs92 hA1) (InT.isT ((hll1.below hb86).chg hs92 hA1)) hA1 hp1 hl1 (by have z := mTo_take p.l l.l st; omega)) (fun v w' h => zk v w' h)) ?_
        rintro _ w93 ⟨⟨rfl, hgo94⟩, hc95⟩
        have hB96 := chg_blk hB89 hc95 (fun h => h.elim (fun h => by have z := hClt _ h; (try dsimp only at *); omega) (fun h => by (try dsimp only at *); omega))
        have hB97 := chg_blk hB90 hc95 (fun h => h.elim (fun h => by have z := hClt _ h; (try dsimp only at *); omega) (fun h => by (try dsimp only at *); omega))
        refine WL.val (.bool ((mOk p.l l.l st))) rfl rfl rfl (fun za zC zh zk => wp_move rfl (zh.ev rfl) zk) ?_
        refine bool_split ((mOk p.l l.l st)) (fun h98 => ?_) (fun h98 => ?_)
        · refine WL.sub (K' := [(0, .iface 33 (.pointer (some ⟨g, 0, none⟩))), (1, .agg #[.bool p.neg, .int .i64 p.l.f, .slice a1 p.l.args.length c1, .int .i64 p.r.f, .slice a2 p.r.args.length c2]), (2, .agg #[.bool l.neg, .int .i64 l.l.f, .slice a3 l.l.args.length c3, .int .i64 l.r.f, .slice a4 l.r.args.length c4]), (3, .bool tu), (5, .pointer (some ⟨g2, 0, none⟩)), (6, .pointer (some ⟨g9, 0, none⟩)), (8, .bool false), (9, .int .i64 (((st.length : Nat) : Int))), (19, .bool (((p.neg != l.neg) || (p.atom != l.atom)))), (20, .bool tu), (29, .iface 33 (.pointer (some ⟨g, 0, none⟩))), (30, .pointer (some ⟨g2, 1, none⟩)), (31, .agg #[.int .i64 p.l.f, .slice a1 p.l.args.length c1]), (32, .pointer (some ⟨g9, 1, none⟩)), (33, .agg #[.int .i64 l.l.f, .slice a3 l.l.args.length c3]), (34, .bool ((mOk p.l l.l st))), (35, .bool true)]) ⟨rfl, rfl, rfl, rfl, rfl, rfl, rfl, rfl, rfl, rfl, rfl, rfl, rfl, rfl, rfl, rfl, (by exact congrArg (fun z => some (Value.bool z)) h98), trivial⟩ ?_
          refine WL.want (d := 35) rfl rfl rfl ?_
          refine WL.val (.iface 33 (.pointer (some ⟨g, 0, none⟩))) rfl rfl rfl (fun za zC zh zk => wp_move rfl (zh.ev rfl) zk) ?_
          refine WL.want (d := 35) rfl rfl rfl ?_
          refine WL.val (.pointer (some ⟨g2, 3, none⟩)) rfl rfl rfl (fun za zC zh zk => fld_41_2 rfl (zh.ev rfl) zk) ?_
          refine WL.want (d := 35) rfl rfl rfl ?_
          refine WL.val (.agg #[.int .i64 p.r.f, .slice a2 p.r.args.length c2]) rfl rfl rfl (fun za zC zh zk => ld_24 rfl (zh.ev rfl) ((hB96.cell 3).trans rfl) ((hB96.cell 4).trans rfl) zk) ?_
          refine WL.want (d := 35) rfl rfl rfl ?_
          refine WL.val (.pointer (some ⟨g9, 3, none⟩)) rfl rfl rfl (fun za zC zh zk => fld_41_2 rfl (zh.ev rfl) zk) ?_
          refine WL.want (d := 35) rfl rfl rfl ?_
          refine WL.val (.agg #[.int .i64 l.r.f, .slice a4 l.r.args.length c4]) rfl rfl rfl (fun za zC zh zk => ld_24 rfl (zh.ev rfl) ((hB97.cell 3).trans rfl) ((hB97.cell 4).trans rfl) zk) ?_
          refine WL.want (d := 35) rfl rfl rfl ?_
          have hs99 : Chg ((Since w19 C)) w19 w93 := (Chg.trans2 (Chg.trans2 (Chg.refl ((Since w19 C)) _) (Chg.ofBelow (S := fun k => k < 0) hb88) (fun i h1 h2 => by first | exact h2 | exact .inl h2 | exact .inr h2 | exact .inr (.inl h2) | exact .inr (.inr h2) | ((try dsimp only at *); omega))) hc95 (fun i h1 h2 => by first | exact h2 | exact .inl h2 | exact .inr h2 | exact .inr (.inl h2) | exact .inr (.inr h2) | ((try dsimp only at *); omega)))
          refine WL.step (post := fun v w' => (v = .bool (mOk p.r l.r (mTo p.l l.l st)) ∧ MatGo w19 C g (mTo p.r l.r (mTo p.l l.l st)) w') ∧ Chg (Since w19 C) w93 w') rfl rfl rfl (fun za zC zh zk => wp_invk (by kernel_rfl) (inv_term _ _) rfl (zh.ev rfl) (hv2 (zh.ev rfl) (zh.ev rfl)) (term_go p.r l.r hgo94 ((hpr1.below hb86).chg hs99 hA1) (InT.isT ((hlr1.below hb86).chg hs99 hA1)) hA1 hp2 hl2 (by have z := mTo_take p.l l.l st; omega)) (fun v w' h => zk v w' h)) ?_
          rintro _ w100 ⟨⟨rfl, hgo101⟩, hc102⟩
          have hB103 := chg_blk hB96 hc102 (fun h => h.elim (fun h => by have z := hClt _ h; (try dsimp only at *); omega) (fun h => by (try dsimp only at *); omega))
          have hB104 := chg_blk hB97 hc102 (fun h => h.elim (fun h => by have z := hClt _ h; (try dsimp only at *); omega) (fun h => by (try dsimp only at *); omega))
          refine WL.val (.bool ((mOk p.r l.r (mTo p.l l.l st)))) rfl rfl rfl (fun za zC zh zk => wp_pickT rfl (zh.ev rfl) (zh.ev rfl) zk) ?_
          refine WL.nil (WE.sub (K' := [(0, .iface 33 (.pointer (some ⟨g, 0, none⟩))), (1, .agg #[.bool p.neg, .int .i64 p.l.f, .slice a1 p.l.args.length c1, .int .i64 p.r.f, .slice a2 p.r.args.length c2]), (2, .agg #[.bool l.neg, .int .i64 l.l.f, .slice a3 l.l.args.length c3, .int .i64 l.r.f, .slice a4 l.r.args.length c4]), (3, .bool tu), (5, .pointer (some ⟨g2, 0, none⟩)), (6, .pointer (some ⟨g9, 0, none⟩)), (8, .bool false), (9, .int .i64 (((st.length : Nat) : Int))), (19, .bool (((p.neg != l.neg) || (p.atom != l.atom)))), (20, .bool tu), (42, .bool ((mOk p.r l.r (mTo p.l l.l st))))]) ⟨rfl, rfl, rfl, rfl, rfl, rfl, rfl, rfl, rfl, rfl, rfl, trivial⟩ ?_)
          refine WE.next ?_
          refine WC.cond rfl (fun h105 => ?_) (fun h105 => ?_)
          · skip
            refine WC.seq ?_
            refine WC.region ?_
            refine WL.val (.bool true) rfl rfl rfl (fun za zC zh zk => wp_assign rfl (zh.ev rfl) zk) ?_
            refine WL.nil (WE.sub (K' := [(0, .iface 33 (.pointer (some ⟨g, 0, none⟩))), (1, .agg #[.bool p.neg, .int .i64 p.l.f, .slice a1 p.l.args.length c1, .int .i64 p.r.f, .slice a2 p.r.args.length c2]), (2, .agg #[.bool l.neg, .int .i64 l.l.f, .slice a3 l.l.args.length c3, .int .i64 l.r.f, .slice a4 l.r.args.length c4]), (3, .bool tu), (5, .pointer (some ⟨g2, 0, none⟩)), (6, .pointer (some ⟨g9, 0, none⟩)), (8, .bool true), (9, .int .i64 (((st.length : Nat) : Int))), (19, .bool (((p.neg != l.neg) || (p.atom != l.atom)))), (20, .bool tu), (42, .bool ((mOk p.r l.r (mTo p.l l.l st))))]) ⟨rfl, rfl, rfl, rfl, rfl, rfl, rfl, rfl, rfl, rfl, rfl, trivial⟩ ?_)
            refine WE.next ?_
            refine WC.ret ?_
            refine WE.thenRet ?_
            refine WE.ret1 rfl rfl ?_
            have hs106 : Chg ((Since w19 C)) w19 w100 := (Chg.trans2 (Chg.trans2 (Chg.trans2 (Chg.refl ((Since w19 C)) _) (Chg.ofBelow (S := fun k => k < 0) hb88) (fun i h1 h2 => by first | exact h2 | exact .inl h2 | exact .inr h2 | exact .inr (.inl h2) | exact .inr (.inr h2) | ((try dsimp only at *); omega))) hc95 (fun i h1 h2 => by first | exact h2 | exact .inl h2 | exact .inr h2 | exact .inr (.inl h2) | exact .inr (.inr h2) | ((try dsimp only at *); omega))) hc102 (fun i h1 h2 => by first | exact h2 | exact .inl h2 | exact .inr h2 | exact .inr (.inl h2) | exact .inr (.inr h2) | ((try dsimp only at *); omega)))
            have htu9 : tu = false := by simpa using h24
            have hsm : p.neg = l.neg ∧ p.atom = l.atom := by have z := h21; simp at z; exact z
            have hfin := lOk_yes (p := p) (l := l) (b := tu) (st := st) hsm (by rw [htu9]; exact h98) (by rw [htu9]; exact h105)
            rw [htu9] at hfin
            subst htu9
            exact ⟨_, rfl, by rw [hfin.1, hfin.2]; obtain ⟨C9, z1, z2⟩ := MatGo.done hgo101 hb86.size; exact ⟨C9, rfl, z1, z2⟩, chg_since hb86 hs106⟩
          · skip
            refine WC.skip ?_
            refine WE.next ?_
            refine WC.seq ?_
            refine WC.region ?_
            refine WL.val (.iface 33 (.pointer (some ⟨g, 0, none⟩))) rfl rfl rfl (fun za zC zh zk => wp_move rfl (zh.ev rfl) zk) ?_
            refine WL.val (.int .i64 (((st.length : Nat) : Int))) rfl rfl rfl (fun za zC zh zk => wp_move rfl (zh.ev rfl) zk) ?_
            refine WL.step (post := fun v w' => MatGo w19 C g (backTo (mTo p.r l.r (mTo p.l l.l st)) (st.length : Nat)) w' ∧ Chg (Since w19 C) w100 w') rfl rfl rfl (fun za zC zh zk => wp_invk (by kernel_rfl) (inv_back _ _) rfl (zh.ev rfl) (hv1 (zh.ev rfl)) (back_go (st.length : Nat) hgo101) (fun v w' h => zk v w' h)) ?_
            rintro _ w107 ⟨hgo108, hc109⟩
            have hB110 := chg_blk hB103 hc109 (fun h => h.elim (fun h => by have z := hClt _ h; (try dsimp only at *); omega) (fun h => by (try dsimp only at *); omega))
            have hB111 := chg_blk hB104 hc109 (fun h => h.elim (fun h => by have z := hClt _ h; (try dsimp only at *); omega) (fun h => by (try dsimp only at *); omega))
            refine WL.nil (WE.sub (K' := [(0, .iface 33 (.pointer (some ⟨g, 0, none⟩))), (1, .agg #[.bool p.neg, .int .i64 p.l.f, .slice a1 p.l.args.length c1, .int .i64 p.r.f, .slice a2 p.r.args.length c2]), (2, .agg #[.bool l.neg, .int .i64 l.l.f, .slice a3 l.l.args.length c3, .int .i64 l.r.f, .slice a4 l.r.args.length c4]), (3, .bool tu), (5, .pointer (some ⟨g2, 0, none⟩)), (6, .pointer (some ⟨g9, 0, none⟩)), (8, .bool false), (9, .int .i64 (((st.length : Nat) : Int))), (19, .bool (((p.neg != l.neg) || (p.atom != l.atom)))), (20, .bool tu), (42, .bool ((mOk p.r l.r (mTo p.l l.l st))))]) ⟨rfl, rfl, rfl, rfl, rfl, rfl, rfl, rfl, rfl, rfl, rfl, trivial⟩ ?_)
            refine WE.next ?_
            refine WC.seq ?_
            refine WC.region ?_
            refine WL.val (.bool false) rfl rfl rfl (fun za zC zh zk => wp_assign rfl (zh.ev rfl) zk) ?_
            refine WL.nil (WE.sub (K' := [(0, .iface 33 (.pointer (some ⟨g, 0, none⟩))), (1, .agg #[.bool p.neg, .int .i64 p.l.f, .slice a1 p.l.args.length c1, .int .i64 p.r.f, .slice a2 p.r.args.length c2]), (2, .agg #[.bool l.neg, .int .i64 l.l.f, .slice a3 l.l.args.length c3, .int .i64 l.r.f, .slice a4 l.r.args.length c4]), (3, .bool tu), (5, .pointer (some ⟨g2, 0, none⟩)), (6, .pointer (some ⟨g9, 0, none⟩)), (8, .bool false), (9, .int .i64 (((st.length : Nat) : Int))), (19, .bool (((p.neg != l.neg) || (p.atom != l.atom)))), (20, .bool tu), (42, .bool ((mOk p.r l.r (mTo p.l l.l st))))]) ⟨rfl, rfl, rfl, rfl, rfl, rfl, rfl, rfl, rfl, rfl, rfl, trivial⟩ ?_)
            refine WE.next ?_
            refine WC.ret ?_
            refine WE.ret1 rfl rfl ?_
            have hs112 : Chg ((Since w19 C)) w19 w107 := (Chg.trans2 (Chg.trans2 (Chg.trans2 (Chg.trans2 (Chg.refl ((Since w19 C)) _) (Chg.ofBelow (S := fun k => k < 0) hb88) (fun i h1 h2 => by first | exact h2 | exact .inl h2 | exact .inr h2 | exact .inr (.inl h2) | exact .inr (.inr h2) | ((try dsimp only at *); omega))) hc95 (fun i h1 h2 => by first | exact h2 | exact .inl h2 | exact .inr h2 | exact .inr (.inl h2) | exact .inr (.inr h2) | ((try dsimp only at *); omega))) hc102 (fun i h1 h2 => by first | exact h2 | exact .inl h2 | exact .inr h2 | exact .inr (.inl h2) | exact .inr (.inr h2) | ((try dsimp only at *); omega))) hc109 (fun i h1 h2 => by first | exact h2 | exact .inl h2 | exact .inr h2 | exact .inr (.inl h2) | exact .inr (.inr h2) | ((try dsimp only at *); omega)))
            have htu9 : tu = false := by simpa using h24
            have hsm : p.neg = l.neg ∧ p.atom = l.atom := by have z := h21; simp at z; exact z
            have hfin := lOk_no3 (p := p) (l := l) (b := tu) (st := st) (by rw [htu9]; exact Bool.eq_false_iff.1 h105)
            have hb9 : backTo (mTo p.r l.r (mTo p.l l.l st)) (st.length : Nat) = st := by rw [mTo_no (Bool.eq_false_iff.1 h105)]; have z1 := mTo_take p.l l.l st; rw [backTo_nat (by omega), z1.2.2]
            rw [hb9] at hgo108
            exact ⟨_, rfl, by rw [hfin.1, hfin.2]; obtain ⟨C9, z1, z2⟩ := MatGo.done hgo108 hb86.size; exact ⟨C9, rfl, z1, z2⟩, chg_since hb86 hs112⟩
        · refine WL.sub (K' := [(0, .iface 33 (.pointer (some ⟨g, 0, none⟩))), (1, .agg #[.bool p.neg, .int .i64 p.l.f, .slice a1 p.l.args.length c1, .int .i64 p.r.f, .slice a2 p.r.args.length c2]), (2, .agg #[.bool l.neg, .int .i64 l.l.f, .slice a3 l.l.args.length c3, .int .i64 l.r.f, .slice a4 l.r.args.length c4]), (3, .bool tu), (5, .pointer (some ⟨g2, 0, none⟩)), (6, .pointer (some ⟨g9, 0, none⟩)), (8, .bool false), (9, .int .i64 (((st.length : Nat) : Int))), (19, .bool (((p.neg != l.neg) || (p.atom != l.atom)))), (20, .bool tu), (29, .iface 33 (.pointer (some ⟨g, 0, none⟩))), (30, .pointer (some ⟨g2, 1, none⟩)), (31, .agg #[.int .i64 p.l.f, .slice a1 p.l.args.length c1]), (32, .pointer (some ⟨g9, 1, none⟩)), (33, .agg #[.int .i64 l.l.f, .slice a3 l.l.args.length c3]), (34, .bool ((mOk p.l l.l st))), (35, .bool false)]) ⟨rfl, rfl, rfl, rfl, rfl, rfl, rfl, rfl, rfl, rfl, rfl, rfl, rfl, rfl, rfl, rfl, (by exact congrArg (fun z => some (Value.bool z)) h98), trivial⟩ ?_
          refine WL.skip (d := 35) rfl rfl rfl rfl rfl ?_
          refine WL.skip (d := 35) rfl rfl rfl rfl rfl ?_
          refine WL.skip (d := 35) rfl rfl rfl rfl rfl ?_
          refine WL.skip (d := 35) rfl rfl rfl rfl rfl ?_
          refine WL.skip (d := 35) rfl rfl rfl rfl rfl ?_
          refine WL.skip (d := 35) rfl rfl rfl rfl rfl ?_
          refine WL.val (.bool false) rfl rfl rfl (fun za zC zh zk => wp_pickF rfl (zh.ev rfl) (zh.ev rfl) zk) ?_
          refine WL.nil (WE.sub (K' := [(0, .iface 33 (.pointer (some ⟨g, 0, none⟩))), (1, .agg #[.bool p.neg, .int .i64 p.l.f, .slice a1 p.l.args.length c1, .int .i64 p.r.f, .slice a2 p.r.args.length c2]), (2, .agg #[.bool l.neg, .int .i64 l.l.f, .slice a3 l.l.args.length c3, .int .i64 l.r.f, .slice a4 l.r.args.length c4]), (3, .bool tu), (5, .pointer (some ⟨g2, 0, none⟩)), (6, .pointer (some ⟨g9, 0, none⟩)), (8, .bool false), (9, .int .i64 (((st.length : Nat) : Int))), (19, .bool (((p.neg != l.neg) || (p.atom != l.atom)))), (20, .bool tu), (42, .bool false)]) ⟨rfl, rfl, rfl, rfl, rfl, rfl, rfl, rfl, rfl, rfl, rfl, trivial⟩ ?_)
          refine WE.next ?_
          refine WC.condF rfl rfl ?_
          refine WC.skip ?_
          refine WE.next ?_
          refine WC.seq ?_
          refine WC.region ?_
          refine WL.val (.iface 33 (.pointer (some ⟨g, 0, none⟩))) rfl rfl rfl (fun za zC zh zk => wp_move rfl (zh.ev rfl) zk) ?_
          refine WL.val (.int .i64 (((st.length : Nat) : Int))) rfl rfl rfl (fun za zC zh zk => wp_move rfl (zh.ev rfl) zk) ?_
          refine WL.step (post := fun v w' => MatGo w19 C g (backTo (mTo p.l l.l st) (st.length : Nat)) w' ∧ Chg (Since w19 C) w93 w') rfl rfl rfl (fun za zC zh zk => wp_invk (by kernel_rfl) (inv_back _ _) rfl (zh.ev rfl) (hv1 (zh.ev rfl)) (back_go (st.length : Nat) hgo94) (fun v w' h => zk v w' h)) ?_
          rintro _ w113 ⟨hgo114, hc115⟩
          have hB116 := chg_blk hB96 hc115 (fun h => h.elim (fun h => by have z := hClt _ h; (try dsimp only at *); omega) (fun h => by (try dsimp only at *); omega))
          have hB117 := chg_blk hB97 hc115 (fun h => h.elim (fun h => by have z := hClt _ h; (try dsimp only at *); omega) (fun h => by (try dsimp only at *); omega))
          refine WL.nil (WE.sub (K' := [(0, .iface 33 (.pointer (some ⟨g, 0, none⟩))), (1, .agg #[.bool p.neg, .int .i64 p.l.f, .slice a1 p.l.args.length c1, .int .i64 p.r.f, .slice a2 p.r.args.length c2]), (2, .agg #[.bool l.neg, .int .i64 l.l.f, .slice a3 l.l.args.length c3, .int .i64 l.r.f, .slice a4 l.r.args.length c4]), (3, .bool tu), (5, .pointer (some ⟨g2, 0, none⟩)), (6, .pointer (some ⟨g9, 0, none⟩)), (8, .bool false), (9, .int .i64 (((st.length : Nat) : Int))), (19, .bool (((p.neg != l.neg) || (p.atom != l.atom)))), (20, .bool tu), (42, .bool false)]) ⟨rfl, rfl, rfl, rfl, rfl, rfl, rfl, rfl, rfl, rfl, rfl, trivial⟩ ?_)
          refine WE.next ?_
          refine WC.seq ?_
          refine WC.region ?_
          refine WL.val (.bool false) rfl rfl rfl (fun za zC zh zk => wp_assign rfl (zh.ev rfl) zk) ?_
          refine WL.nil (WE.sub (K' := [(0, .iface 33 (.pointer (some ⟨g, 0, none⟩))), (1, .agg #[.bool p.neg, .int .i64 p.l.f, .slice a1 p.l.args.length c1, .int .i64 p.r.f, .slice a2 p.r.args.length c2]), (2, .agg #[.bool l.neg, .int .i64 l.l.f, .slice a3 l.l.args.length c3, .int .i64 l.r.f, .slice a4 l.r.args.length c4]), (3, .bool tu), (5, .pointer (some ⟨g2, 0, none⟩)), (6, .pointer (some ⟨g9, 0, none⟩)), (8, .bool false), (9, .int .i64 (((st.length : Nat) : Int))), (19, .bool (((p.neg != l.neg) || (p.atom != l.atom)))), (20, .bool tu), (42, .bool false)]) ⟨rfl, rfl, rfl, rfl, rfl, rfl, rfl, rfl, rfl, rfl, rfl, trivial⟩ ?_)
          refine WE.next ?_
          refine WC.ret ?_
          refine WE.ret1 rfl rfl ?_
          have hs118 : Chg ((Since w19 C)) w19 w113 := (Chg.trans2 (Chg.trans2 (Chg.trans2 (Chg.refl ((Since w19 C)) _) (Chg.ofBelow (S := fun k => k < 0) hb88) (fun i h1 h2 => by first | exact h2 | exact .inl h2 | exact .inr h2 | exact .inr (.inl h2) | exact .inr (.inr h2) | ((try dsimp only at *); omega))) hc95 (fun i h1 h2 => by first | exact h2 | exact .inl h2 | exact .inr h2 | exact .inr (.inl h2) | exact .inr (.inr h2) | ((try dsimp only at *); omega))) hc115 (fun i h1 h2 => by first | exact h2 | exact .inl h2 | exact .inr h2 | exact .inr (.inl h2) | exact .inr (.inr h2) | ((try dsimp only at *); omega)))
          have htu9 : tu = false := by simpa using h24
          have hsm : p.neg = l.neg ∧ p.atom = l.atom := by have z := h21; simp at z; exact z
          have hfin := lOk_no2 (p := p) (l := l) (b := tu) (st := st) (by rw [htu9]; exact Bool.eq_false_iff.1 h98)
          have hb9 : backTo (mTo p.l l.l st) (st.length : Nat) = st := by have z1 := mTo_take p.l l.l st; rw [backTo_nat (by omega), z1.2.2]
          rw [hb9] at hgo114
          exact ⟨_, rfl, by rw [hfin.1, hfin.2]; obtain ⟨C9, z1, z2⟩ := MatGo.done hgo114 hb86.size; exact ⟨C9, rfl, z1, z2⟩, chg_since hb86 hs118⟩

end Go.Proofs.Ytcmfjnadjddboaa
