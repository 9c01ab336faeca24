/- The walks through the laws MatchNil and MatchFinds. -/
import Derived.Test.YtcmfjnadjddboaaMatWakes
namespace Go.Proofs.Ytcmfjnadjddboaa
open Go.RowKit Go

set_option maxRecDepth 100000 in
theorem termNil (p t : T) (w : World) (u v : Value) (hp : IsT w p u) (ht : IsT w t v) (hzp : p.size ≤ 4294967296) (hzt : t.size ≤ 4294967296) : Calls Try.prog 15 #[.pointer none, u, v] w (Ret fun v' w' => v' = .bool false ∧ Below w.heap.size w w') := by
  have hp0 := hp
  have ht0 := ht
  obtain ⟨hfp, pa0, pc0, rfl, _, _, _⟩ := hp.form
  obtain ⟨hft, ta0, tc0, rfl, _, _, _⟩ := ht.form
  refine Calls.walk (l := [.pointer none, .agg #[.int .i64 p.f, .slice pa0 p.args.length pc0], .agg #[.int .i64 t.f, .slice ta0 t.args.length tc0]]) Try.func15 rfl (by kernel_rfl) ?_
  refine WC.sub (K' := [(0, .pointer none), (1, .agg #[.int .i64 p.f, .slice pa0 p.args.length pc0]), (2, .agg #[.int .i64 t.f, .slice ta0 t.args.length tc0])]) ⟨rfl, rfl, rfl, trivial⟩ ?_
  refine WC.seq ?_
  refine WC.region ?_
  refine WL.step (post := NewBlk w 24 #[.int .i64 p.f, .slice pa0 p.args.length pc0]) rfl rfl rfl (fun za zC zh zk => box_24 rfl (zh.ev rfl) (zk _ _ (newBlk _ _ _))) ?_
  rintro _ w1 ⟨g2, rfl, hg3, hB4, hb5, hz6⟩
  have hl7 : w.heap.size ≤ g2 := by omega
  refine WL.step (post := NewBlk w1 24 #[.int .i64 t.f, .slice ta0 t.args.length tc0]) rfl rfl rfl (fun za zC zh zk => box_24 rfl (zh.ev rfl) (zk _ _ (newBlk _ _ _))) ?_
  rintro _ w8 ⟨g9, rfl, hg10, hB11, hb12, hz13⟩
  have hl14 : g2 < g9 := by have z1 := hB4.lt; omega
  have hl15 : w.heap.size ≤ g9 := by have z2 := (hb5).size; omega
  refine WL.val (.bool false) rfl rfl rfl (fun za zC zh zk => wp_assign rfl (zh.ev rfl) zk) ?_
  refine WL.nil (WE.sub (K' := [(0, .pointer none), (1, .agg #[.int .i64 p.f, .slice pa0 p.args.length pc0]), (2, .agg #[.int .i64 t.f, .slice ta0 t.args.length tc0]), (4, .pointer (some ⟨g2, 0, none⟩)), (5, .pointer (some ⟨g9, 0, none⟩)), (6, .bool false)]) ⟨rfl, rfl, rfl, rfl, rfl, rfl, trivial⟩ ?_)
  refine WE.next ?_
  refine WC.scope rfl ?_
  refine WC.seq ?_
  refine WC.seq ?_
  refine WC.opt [(true, .val (.pointer none)), (true, .val (.bool true)), (true, .val (.bool true)), ((true && !true), .val undef), ((true && !true), .val undef), (true, .val (.bool true)), (true, .val (.bool true)), ((true && !true), .val undef), ((true && !true), .val undef), (true, .val (.bool true))] [(0, .pointer none), (1, .agg #[.int .i64 p.f, .slice pa0 p.args.length pc0]), (2, .agg #[.int .i64 t.f, .slice ta0 t.args.length tc0]), (4, .pointer (some ⟨g2, 0, none⟩)), (5, .pointer (some ⟨g9, 0, none⟩)), (6, .bool false)] ⟨rfl, rfl, rfl, rfl, rfl, rfl, trivial⟩ (by kernel_rfl) (by kernel_rfl) (by kernel_rfl) ?_ ?_
  · refine ⟨⟨true, .none rfl, fun h w => optUndef h, fun zβ za zw zc => ?_⟩, ?_⟩
    · exact wp_move rfl (zc.kn.ev rfl) ⟨_, rfl, Below.refl _ _, optDef zβ rfl⟩
    refine ⟨⟨true, .none rfl, fun h w => optUndef h, fun zβ za zw zc => ?_⟩, ?_⟩
    · exact eqln_33 rfl ((show za.eval (.tmp 14) = za.tmps.getD 14 undef from rfl).trans (optVal (zc.dep 0 14 (by kernel_rfl)) rfl rfl)) (zc.kn.ev rfl) ⟨_, rfl, Below.refl _ _, optDef zβ rfl⟩
    refine ⟨⟨true, .none rfl, fun h w => optUndef h, fun zβ za zw zc => ?_⟩, ?_⟩
    · exact wp_move rfl ((show za.eval (.tmp 15) = za.tmps.getD 15 undef from rfl).trans (optVal (zc.dep 1 15 (by kernel_rfl)) rfl rfl)) ⟨_, rfl, Below.refl _ _, optDef zβ rfl⟩
    refine ⟨⟨(true && !true), .no (c := true) (d := true) rfl (fun v w h => h), fun h w => optUndef h, fun zβ za zw zc => ?_⟩, ?_⟩
    · simp at zβ
    refine ⟨⟨(true && !true), .no (c := true) (d := true) rfl (fun v w h => h), fun h w => optUndef h, fun zβ za zw zc => ?_⟩, ?_⟩
    · simp at zβ
    refine ⟨⟨true, .none rfl, fun h w => optUndef h, fun zβ za zw zc => ?_⟩, ?_⟩
    · exact wp_pickT rfl ((show za.eval (.tmp 16) = za.tmps.getD 16 undef from rfl).trans (optVal (zc.dep 2 16 (by kernel_rfl)) rfl rfl)) (zc.kn.ev rfl) ⟨_, rfl, Below.refl _ _, optDef zβ rfl⟩
    refine ⟨⟨true, .none rfl, fun h w => optUndef h, fun zβ za zw zc => ?_⟩, ?_⟩
    · exact wp_move rfl ((show za.eval (.tmp 19) = za.tmps.getD 19 undef from rfl).trans (optVal (zc.dep 5 19 (by kernel_rfl)) rfl rfl)) ⟨_, rfl, Below.refl _ _, optDef zβ rfl⟩
    refine ⟨⟨(true && !true), .no (c := true) (d := true) rfl (fun v w h => h), fun h w => optUndef h, fun zβ za zw zc => ?_⟩, ?_⟩
    · simp at zβ
    refine ⟨⟨(true && !true), .no (c := true) (d := true) rfl (fun v w h => h), fun h w => optUndef h, fun zβ za zw zc => ?_⟩, ?_⟩
    · simp at zβ
    refine ⟨⟨true, .none rfl, fun h w => optUndef h, fun zβ za zw zc => ?_⟩, ?_⟩
    · exact wp_pickT rfl ((show za.eval (.tmp 20) = za.tmps.getD 20 undef from rfl).trans (optVal (zc.dep 6 20 (by kernel_rfl)) rfl rfl)) (zc.kn.ev rfl) ⟨_, rfl, Below.refl _ _, optDef zβ rfl⟩
    exact trivial
  · intro za w16 zh hb17 zu
    have zh := zh.cons (d := 23) (v := .bool true) (optVal (zu 9 23 (by kernel_rfl)) rfl rfl)
    clear zu
    refine (show WE _ [(0, .pointer none), (1, .agg #[.int .i64 p.f, .slice pa0 p.args.length pc0]), (2, .agg #[.int .i64 t.f, .slice ta0 t.args.length tc0]), (4, .pointer (some ⟨g2, 0, none⟩)), (5, .pointer (some ⟨g9, 0, none⟩)), (6, .bool false), (23, .bool true)] w16 _ .normal from ?_) za (zh.sub ⟨rfl, rfl, rfl, rfl, rfl, rfl, rfl, trivial⟩)
    refine WE.next ?_
    refine WC.condT rfl rfl ?_
    refine WC.seq ?_
    refine WC.region ?_
    refine WL.val (.bool false) rfl rfl rfl (fun za zC zh zk => wp_assign rfl (zh.ev rfl) zk) ?_
    refine WL.nil (WE.sub (K' := [(0, .pointer none), (1, .agg #[.int .i64 p.f, .slice pa0 p.args.length pc0]), (2, .agg #[.int .i64 t.f, .slice ta0 t.args.length tc0]), (4, .pointer (some ⟨g2, 0, none⟩)), (5, .pointer (some ⟨g9, 0, none⟩)), (6, .bool false), (23, .bool true)]) ⟨rfl, rfl, rfl, rfl, rfl, rfl, rfl, trivial⟩ ?_)
    refine WE.next ?_
    refine WC.ret ?_
    refine WE.thenRet ?_
    refine WE.scopeRet ?_
    refine WE.ret1 rfl rfl ?_
    have hb18 : Below w.heap.size w w16 := (bstep (bstep hb5 hb12) hb17)
    exact ⟨_, rfl, rfl, hb18⟩

theorem wp_ifc {P : Program} {w : World} {a : Act} {K : Act → World → Prop} {Q : Exit → Act → World → Prop} {o : Oper} {x : Operand} {v : Value} {t e : TypeId} (ht : P.underlying t = some (.pointer e)) (ho : o.op = .makeInterface t x) (hx : a.eval x = v) (hK : K (a.put o.dst (.iface t v)) w) : o.wp P a w K Q := by
  have h1 : (Instr.makeInterface t v).run P w = .ok (.iface t v) w := by simp [Instr.makeInterface, run_underlying ht, go_sem]
  unfold Oper.wp execOp
  simp only [ho, hx, Sem.run_bind, h1, Result.andThen_ok]
  exact hK
set_option maxRecDepth 100000 in
theorem litNil (p l : Li) (tu : Bool) (w : World) (u v : Value) (hp : IsLi w p u) (hl : IsLi w l v) : Calls Try.prog 17 #[.pointer none, u, v, .bool tu] w (Ret fun v' w' => v' = .bool false ∧ Below w.heap.size w w') := by
  obtain ⟨a1, a2, c1, c2, rfl, _, _⟩ := hp.form
  obtain ⟨a3, a4, c3, c4, rfl, _, _⟩ := hl.form
  refine Calls.walk (l := [.pointer none, .agg #[.bool p.neg, .int .i64 p.l.f, .slice a1 p.l.args.length c1, .int .i64 p.r.f, .slice a2 p.r.args.length c2], .agg #[.bool l.neg, .int .i64 l.l.f, .slice a3 l.l.args.length c3, .int .i64 l.r.f, .slice a4 l.r.args.length c4], .bool tu]) Try.func17 rfl (by kernel_rfl) ?_
  refine WC.sub (K' := [(0, .pointer none), (1, .agg #[.bool p.neg, .int .i64 p.l.f, .slice a1 p.l.args.length c1, .int .i64 p.r.f, .slice a2 p.r.args.length c2]), (2, .agg #[.bool l.neg, .int .i64 l.l.f, .slice a3 l.l.args.length c3, .int .i64 l.r.f, .slice a4 l.r.args.length c4]), (3, .bool tu)]) ⟨rfl, rfl, rfl, rfl, trivial⟩ ?_
  refine WC.seq ?_
  refine WC.region ?_
  refine WL.step (post := NewBlk w 41 #[.bool p.neg, .int .i64 p.l.f, .slice a1 p.l.args.length c1, .int .i64 p.r.f, .slice a2 p.r.args.length c2]) rfl rfl rfl (fun za zC zh zk => box_41 rfl (zh.ev rfl) (zk _ _ (newBlk _ _ _))) ?_
  rintro _ w1 ⟨g2, rfl, hg3, hB4, hb5, hz6⟩
  have hl7 : w.heap.size ≤ g2 := by omega
  refine WL.step (post := NewBlk w1 41 #[.bool l.neg, .int .i64 l.l.f, .slice a3 l.l.args.length c3, .int .i64 l.r.f, .slice a4 l.r.args.length c4]) rfl rfl rfl (fun za zC zh zk => box_41 rfl (zh.ev rfl) (zk _ _ (newBlk _ _ _))) ?_
  rintro _ w8 ⟨g9, rfl, hg10, hB11, hb12, hz13⟩
  have hl14 : g2 < g9 := by have z1 := hB4.lt; omega
  have hl15 : w.heap.size ≤ g9 := by have z2 := (hb5).size; omega
  refine WL.val (.bool false) rfl rfl rfl (fun za zC zh zk => wp_assign rfl (zh.ev rfl) zk) ?_
  refine WL.nil (WE.sub (K' := [(0, .pointer none), (1, .agg #[.bool p.neg, .int .i64 p.l.f, .slice a1 p.l.args.length c1, .int .i64 p.r.f, .slice a2 p.r.args.length c2]), (2, .agg #[.bool l.neg, .int .i64 l.l.f, .slice a3 l.l.args.length c3, .int .i64 l.r.f, .slice a4 l.r.args.length c4]), (3, .bool tu), (5, .pointer (some ⟨g2, 0, none⟩)), (6, .pointer (some ⟨g9, 0, none⟩)), (8, .bool false)]) ⟨rfl, rfl, rfl, rfl, rfl, rfl, rfl, trivial⟩ ?_)
  refine WE.next ?_
  refine WC.seq ?_
  refine WC.region ?_
  refine WL.val (.pointer none) rfl rfl rfl (fun za zC zh zk => wp_move rfl (zh.ev rfl) zk) ?_
  refine WL.val (.bool false) rfl rfl rfl (fun za zC zh zk => neqn_33 rfl (zh.ev rfl) (zh.ev rfl) zk) ?_
  refine WL.val (.bool false) rfl rfl rfl (fun za zC zh zk => wp_move rfl (zh.ev rfl) zk) ?_
  refine WL.skip (d := 11) rfl rfl rfl rfl rfl ?_
  refine WL.skip (d := 11) rfl rfl rfl rfl rfl ?_
  refine WL.skip (d := 11) rfl rfl rfl rfl rfl ?_
  refine WL.skip (d := 11) rfl rfl rfl rfl rfl ?_
  refine WL.skip (d := 11) rfl rfl rfl rfl rfl ?_
  refine WL.skip (d := 11) rfl rfl rfl rfl rfl ?_
  refine WL.val (.bool false) rfl rfl rfl (fun za zC zh zk => wp_pickF rfl (zh.ev rfl) (zh.ev rfl) zk) ?_
  refine WL.val (.bool false) rfl rfl rfl (fun za zC zh zk => wp_assign rfl (zh.ev rfl) zk) ?_
  refine WL.nil (WE.sub (K' := [(0, .pointer none), (1, .agg #[.bool p.neg, .int .i64 p.l.f, .slice a1 p.l.args.length c1, .int .i64 p.r.f, .slice a2 p.r.args.length c2]), (2, .agg #[.bool l.neg, .int .i64 l.l.f, .slice a3 l.l.args.length c3, .int .i64 l.r.f, .slice a4 l.r.args.length c4]), (3, .bool tu), (5, .pointer (some ⟨g2, 0, none⟩)), (6, .pointer (some ⟨g9, 0, none⟩)), (8, .bool false)]) ⟨rfl, rfl, rfl, rfl, rfl, rfl, rfl, trivial⟩ ?_)
  refine WE.next ?_
  refine WC.ret ?_
  refine WE.ret1 rfl rfl ?_
  have hb16 : Below w.heap.size w w8 := (bstep hb5 hb12)
  exact ⟨_, rfl, rfl, hb16⟩

set_option maxRecDepth 100000 in
theorem mlit_any {g : Nat} {st : List Bd} {C A : Nat → Prop} (p l : Li) (tu : Bool) (w : World) (u v : Value) (h : MatAt w g st C) (hp : LiIn A w p u) (hl : LiIn A w l v) (hA : ∀ b, A b → ¬ C b) (hp1 : p.l.size ≤ 4294967296) (hp2 : p.r.size ≤ 4294967296) (hl1 : l.l.size ≤ 4294967296) (hl2 : l.r.size ≤ 4294967296) (hn : st.length + p.l.size + p.r.size ≤ 1099511627776) :
    Calls Try.prog 17 #[.pointer (some ⟨g, 0, none⟩), u, v, .bool tu] w (Ret fun v' w' => (∃ C', v' = .bool (lOk p l tu st) ∧ MatAt w' g (lTo p l tu st) C' ∧ ∀ b, C' b → C b ∨ w.heap.size ≤ b) ∧ Chg C w w') := by
  have hClt := h.clt
  obtain ⟨a1, a2, c1, c2, rfl⟩ := hp.parts
  obtain ⟨a3, a4, c3, c4, rfl⟩ := hl.parts
  refine Calls.walk (l := [.pointer (some ⟨g, 0, none⟩), .agg #[.bool p.neg, .int .i64 p.l.f, .slice a1 p.l.args.length c1, .int .i64 p.r.f, .slice a2 p.r.args.length c2], .agg #[.bool l.neg, .int .i64 l.l.f, .slice a3 l.l.args.length c3, .int .i64 l.r.f, .slice a4 l.r.args.length c4], .bool tu]) Try.func17 rfl (by kernel_rfl) ?_
  refine WC.sub (K' := [(0, .pointer (some ⟨g, 0, none⟩)), (1, .agg #[.bool p.neg, .int .i64 p.l.f, .slice a1 p.l.args.length c1, .int .i64 p.r.f, .slice a2 p.r.args.length c2]), (2, .agg #[.bool l.neg, .int .i64 l.l.f, .slice a3 l.l.args.length c3, .int .i64 l.r.f, .slice a4 l.r.args.length c4]), (3, .bool tu)]) ⟨rfl, rfl, rfl, rfl, trivial⟩ ?_
  refine WC.seq ?_
  refine WC.region ?_
  refine WL.step (post := NewBlk w 41 #[.bool p.neg, .int .i64 p.l.f, .slice a1 p.l.args.length c1, .int .i64 p.r.f, .slice a2 p.r.args.length c2]) rfl rfl rfl (fun za zC zh zk => box_41 rfl (zh.ev rfl) (zk _ _ (newBlk _ _ _))) ?_
  rintro _ w1 ⟨g2, rfl, hg3, hB4, hb5, hz6⟩
  have hl7 : w.heap.size ≤ g2 := by omega
  refine WL.step (post := NewBlk w1 41 #[.bool l.neg, .int .i64 l.l.f, .slice a3 l.l.args.length c3, .int .i64 l.r.f, .slice a4 l.r.args.length c4]) rfl rfl rfl (fun za zC zh zk => box_41 rfl (zh.ev rfl) (zk _ _ (newBlk _ _ _))) ?_
  rintro _ w8 ⟨g9, rfl, hg10, hB11, hb12, hz13⟩
  have hl14 : g2 < g9 := by have z1 := hB4.lt; omega
  have hl15 : w.heap.size ≤ g9 := by have z2 := (hb5).size; omega
  refine WL.val (.bool false) rfl rfl rfl (fun za zC zh zk => wp_assign rfl (zh.ev rfl) zk) ?_
  refine WL.nil (WE.sub (K' := [(0, .pointer (some ⟨g, 0, none⟩)), (1, .agg #[.bool p.neg, .int .i64 p.l.f, .slice a1 p.l.args.length c1, .int .i64 p.r.f, .slice a2 p.r.args.length c2]), (2, .agg #[.bool l.neg, .int .i64 l.l.f, .slice a3 l.l.args.length c3, .int .i64 l.r.f, .slice a4 l.r.args.length c4]), (3, .bool tu), (5, .pointer (some ⟨g2, 0, none⟩)), (6, .pointer (some ⟨g9, 0, none⟩)), (8, .bool false)]) ⟨rfl, rfl, rfl, rfl, rfl, rfl, rfl, trivial⟩ ?_)
  refine WE.next ?_
  refine WC.seq ?_
  refine WC.region ?_
  refine WL.val (.pointer (some ⟨g, 0, none⟩)) rfl rfl rfl (fun za zC zh zk => wp_move rfl (zh.ev rfl) zk) ?_
  refine WL.val (.bool true) rfl rfl rfl (fun za zC zh zk => neqp_33 rfl (zh.ev rfl) (zh.ev rfl) zk) ?_
  refine WL.val (.bool true) rfl rfl rfl (fun za zC zh zk => wp_move rfl (zh.ev rfl) zk) ?_
  refine WL.want (d := 11) rfl rfl rfl ?_
  refine WL.val (.pointer (some ⟨g, 0, none⟩)) rfl rfl rfl (fun za zC zh zk => wp_move rfl (zh.ev rfl) zk) ?_
  refine WL.want (d := 11) rfl rfl rfl ?_
  refine WL.val (.iface 33 (.pointer (some ⟨g, 0, none⟩))) rfl rfl rfl (fun za zC zh zk => wp_ifc Try.underlying33 rfl (zh.ev rfl) zk) ?_
  refine WL.want (d := 11) rfl rfl rfl ?_
  have hB16 := hB4.below hb12
  refine WL.val (.agg #[.bool p.neg, .int .i64 p.l.f, .slice a1 p.l.args.length c1, .int .i64 p.r.f, .slice a2 p.r.args.length c2]) rfl rfl rfl (fun za zC zh zk => ld_41 rfl (zh.ev rfl) ((hB16.cell 0).trans rfl) ((hB16.cell 1).trans rfl) ((hB16.cell 2).trans rfl) ((hB16.cell 3).trans rfl) ((hB16.cell 4).trans rfl) zk) ?_
  refine WL.want (d := 11) rfl rfl rfl ?_
  refine WL.val (.agg #[.bool l.neg, .int .i64 l.l.f, .slice a3 l.l.args.length c3, .int .i64 l.r.f, .slice a4 l.r.args.length c4]) rfl rfl rfl (fun za zC zh zk => ld_41 rfl (zh.ev rfl) ((hB11.cell 0).trans rfl) ((hB11.cell 1).trans rfl) ((hB11.cell 2).trans rfl) ((hB11.cell 3).trans rfl) ((hB11.cell 4).trans rfl) zk) ?_
  refine WL.want (d := 11) rfl rfl rfl ?_
  refine WL.val (.bool tu) rfl rfl rfl (fun za zC zh zk => wp_move rfl (zh.ev rfl) zk) ?_
  refine WL.want (d := 11) rfl rfl rfl ?_
  have hb17 : Below w.heap.size w w8 := (bstep hb5 hb12)
  refine WL.call rfl rfl rfl (fun za zh zC => wp_call (by kernel_rfl) rfl (hv4 (zh.ev rfl) (zh.ev rfl) (zh.ev rfl) (zh.ev rfl))) (lit_any p l tu _ _ _ (h.below hb17) (hp.keep (fun p x _ hx => bkeeps hb17 p x hx)) (hl.keep (fun p x _ hx => bkeeps hb17 p x hx)) hA hp1 hp2 hl1 hl2 hn) ?_
  rintro _ w18 ⟨⟨C2, rfl, hM2, hC2⟩, hcL⟩
  refine WL.val (.bool ((lOk p l tu st))) rfl rfl rfl (fun za zC zh zk => wp_pickT rfl (zh.ev rfl) (zh.ev rfl) zk) ?_
  refine WL.val (.bool ((lOk p l tu st))) rfl rfl rfl (fun za zC zh zk => wp_assign rfl (zh.ev rfl) zk) ?_
  refine WL.nil (WE.sub (K' := [(0, .pointer (some ⟨g, 0, none⟩)), (1, .agg #[.bool p.neg, .int .i64 p.l.f, .slice a1 p.l.args.length c1, .int .i64 p.r.f, .slice a2 p.r.args.length c2]), (2, .agg #[.bool l.neg, .int .i64 l.l.f, .slice a3 l.l.args.length c3, .int .i64 l.r.f, .slice a4 l.r.args.length c4]), (3, .bool tu), (5, .pointer (some ⟨g2, 0, none⟩)), (6, .pointer (some ⟨g9, 0, none⟩)), (8, .bool ((lOk p l tu st)))]) ⟨rfl, rfl, rfl, rfl, rfl, rfl, rfl, trivial⟩ ?_)
  refine WE.next ?_
  refine WC.ret ?_
  refine WE.ret1 rfl rfl ?_
  exact ⟨_, rfl, ⟨C2, rfl, hM2, fun b q => (hC2 b q).imp id (fun q => by have z := (hb17).size; omega)⟩, (Chg.refl C w).trans2 (.ofBelow (S := fun _ => False) hb17) (fun _ _ q => q.elim) |>.trans2 hcL (fun _ _ q => q)⟩

theorem rsubSame_yes (s1 s2 : List Bd) (w : World) (pa pb : Option Addr) (ca cb : Nat) (h1 : s1.length ≤ maxLen) (ha : IsBs w s1 pa) (hb : IsBs w s2 pb) (he : s1 = s2) : Calls Try.prog 10 #[.slice pa s1.length ca, .slice pb s2.length cb] w (Ret fun v' w' => v' = .bool true ∧ Below w.heap.size w w') := by
  have z := rsubSame_any s1 s2 w pa pb ca cb h1 ha hb
  rwa [show subSame s1 s2 = true by simp [subSame, he]] at z
set_option maxRecDepth 100000 in
theorem nil_any (n : Int) (p t : T) (w : World) (u v : Value) (hp : IsT w p u) (ht : IsT w t v) (hzp : p.size ≤ 4294967296) (hzt : t.size ≤ 4294967296) : Calls Try.prog 5 #[u, v, .int .i64 n] w (Ret fun v' w' => v' = .bool true ∧ Below w.heap.size w w') := by
  have hp0 := hp
  have ht0 := ht
  obtain ⟨hfp, pa0, pc0, rfl, _, _, _⟩ := hp.form
  obtain ⟨hft, ta0, tc0, rfl, _, _, _⟩ := ht.form
  have hzT : IsT w (.mk 0 []) (.agg #[.int .i64 0, .slice none 0 0]) := InT.isT (S := fun _ => True) (inT_leaf (i64_lit (by omega)))
  refine Calls.walk (l := [.agg #[.int .i64 p.f, .slice pa0 p.args.length pc0], .agg #[.int .i64 t.f, .slice ta0 t.args.length tc0], .int .i64 n]) Try.func5 rfl (by kernel_rfl) ?_
  refine WC.sub (K' := [(0, .agg #[.int .i64 p.f, .slice pa0 p.args.length pc0]), (1, .agg #[.int .i64 t.f, .slice ta0 t.args.length tc0]), (2, .int .i64 n)]) ⟨rfl, rfl, rfl, trivial⟩ ?_
  refine WC.seq ?_
  refine WC.region ?_
  refine WL.step (post := NewBlk w 24 #[.int .i64 p.f, .slice pa0 p.args.length pc0]) rfl rfl rfl (fun za zC zh zk => box_24 rfl (zh.ev rfl) (zk _ _ (newBlk _ _ _))) ?_
  rintro _ w1 ⟨g2, rfl, hg3, hB4, hb5, hz6⟩
  have hl7 : w.heap.size ≤ g2 := by omega
  refine WL.step (post := NewBlk w1 24 #[.int .i64 t.f, .slice ta0 t.args.length tc0]) rfl rfl rfl (fun za zC zh zk => box_24 rfl (zh.ev rfl) (zk _ _ (newBlk _ _ _))) ?_
  rintro _ w8 ⟨g9, rfl, hg10, hB11, hb12, hz13⟩
  have hl14 : g2 < g9 := by have z1 := hB4.lt; omega
  have hl15 : w.heap.size ≤ g9 := by have z2 := (hb5).size; omega
  refine WL.val (.bool false) rfl rfl rfl (fun za zC zh zk => wp_assign rfl (zh.ev rfl) zk) ?_
  refine WL.nil (WE.sub (K' := [(0, .agg #[.int .i64 p.f, .slice pa0 p.args.length pc0]), (1, .agg #[.int .i64 t.f, .slice ta0 t.args.length tc0]), (2, .int .i64 n), (3, .pointer (some ⟨g2, 0, none⟩)), (4, .pointer (some ⟨g9, 0, none⟩)), (6, .bool false)]) ⟨rfl, rfl, rfl, rfl, rfl, rfl, trivial⟩ ?_)
  refine WE.next ?_
  refine WC.seq ?_
  refine WC.region ?_
  refine WL.val (.pointer none) rfl rfl rfl (fun za zC zh zk => wp_assign rfl (zh.ev rfl) zk) ?_
  refine WL.nil (WE.sub (K' := [(0, .agg #[.int .i64 p.f, .slice pa0 p.args.length pc0]), (1, .agg #[.int .i64 t.f, .slice ta0 t.args.length tc0]), (2, .int .i64 n), (3, .pointer (some ⟨g2, 0, none⟩)), (4, .pointer (some ⟨g9, 0, none⟩)), (6, .bool false), (7, .pointer none)]) ⟨rfl, rfl, rfl, rfl, rfl, rfl, rfl, trivial⟩ ?_)
  refine WE.next ?_
  refine WC.seq ?_
  refine WC.region ?_
  refine WL.val (.pointer none) rfl rfl rfl (fun za zC zh zk => wp_move rfl (zh.ev rfl) zk) ?_
  refine WL.val (.int .i64 n) rfl rfl rfl (fun za zC zh zk => wp_move rfl (zh.ev rfl) zk) ?_
  refine WL.call rfl rfl rfl (fun za zh zC => wp_call (by kernel_rfl) rfl (hv2 (zh.ev rfl) (zh.ev rfl))) (backNil n _) ?_
  rintro _ w17 hq16
  refine WL.nil (WE.sub (K' := [(0, .agg #[.int .i64 p.f, .slice pa0 p.args.length pc0]), (1, .agg #[.int .i64 t.f, .slice ta0 t.args.length tc0]), (2, .int .i64 n), (3, .pointer (some ⟨g2, 0, none⟩)), (4, .pointer (some ⟨g9, 0, none⟩)), (6, .bool false), (7, .pointer none)]) ⟨rfl, rfl, rfl, rfl, rfl, rfl, rfl, trivial⟩ ?_)
  refine WE.next ?_
  refine WC.seq ?_
  refine WC.region ?_
  refine WL.val (.pointer none) rfl rfl rfl (fun za zC zh zk => wp_move rfl (zh.ev rfl) zk) ?_
  have hb19 : Below w1.heap.size w1 w17 := (bstep hb12 hq16)
  have hB18 := hB4.below hb19
  refine WL.val (.agg #[.int .i64 p.f, .slice pa0 p.args.length pc0]) rfl rfl rfl (fun za zC zh zk => ld_24 rfl (zh.ev rfl) ((hB18.cell 0).trans rfl) ((hB18.cell 1).trans rfl) zk) ?_
  have hB20 := hB11.below hq16
  refine WL.val (.agg #[.int .i64 t.f, .slice ta0 t.args.length tc0]) rfl rfl rfl (fun za zC zh zk => ld_24 rfl (zh.ev rfl) ((hB20.cell 0).trans rfl) ((hB20.cell 1).trans rfl) zk) ?_
  have hb21 : Below w.heap.size w w17 := (bstep hb5 hb19)
  refine WL.call rfl rfl rfl (fun za zh zC => wp_call (by kernel_rfl) rfl (hv3 (zh.ev rfl) (zh.ev rfl) (zh.ev rfl))) (termNil p t _ _ _ (IsT.below hb21 hp) (IsT.below hb21 ht) hzp hzt) ?_
  rintro _ w23 ⟨rfl, hq22⟩
  refine WL.val (.bool true) rfl rfl rfl (fun za zC zh zk => wp_not rfl (zh.ev rfl) zk) ?_
  refine WL.val (.bool true) rfl rfl rfl (fun za zC zh zk => wp_move rfl (zh.ev rfl) zk) ?_
  refine WL.want (d := 16) rfl rfl rfl ?_
  refine WL.val (.pointer none) rfl rfl rfl (fun za zC zh zk => wp_move rfl (zh.ev rfl) zk) ?_
  refine WL.want (d := 16) rfl rfl rfl ?_
  have hB24 := hB18.below hq22
  refine WL.val (.agg #[.int .i64 p.f, .slice pa0 p.args.length pc0]) rfl rfl rfl (fun za zC zh zk => ld_24 rfl (zh.ev rfl) ((hB24.cell 0).trans rfl) ((hB24.cell 1).trans rfl) zk) ?_
  refine WL.want (d := 16) rfl rfl rfl ?_
  refine WL.val (.agg #[.bool false, .int .i64 p.f, .slice pa0 p.args.length pc0, .int .i64 0, .slice none 0 0]) rfl rfl rfl (fun za zC zh zk => build_41_1 rfl (zh.ev rfl) zk) ?_
  refine WL.want (d := 16) rfl rfl rfl ?_
  have hB25 := hB20.below hq22
  refine WL.val (.agg #[.int .i64 t.f, .slice ta0 t.args.length tc0]) rfl rfl rfl (fun za zC zh zk => ld_24 rfl (zh.ev rfl) ((hB25.cell 0).trans rfl) ((hB25.cell 1).trans rfl) zk) ?_
  refine WL.want (d := 16) rfl rfl rfl ?_
  refine WL.val (.agg #[.bool false, .int .i64 t.f, .slice ta0 t.args.length tc0, .int .i64 0, .slice none 0 0]) rfl rfl rfl (fun za zC zh zk => build_41_1 rfl (zh.ev rfl) zk) ?_
  refine WL.want (d := 16) rfl rfl rfl ?_
  have hb26 : Below w.heap.size w w23 := (bstep hb21 hq22)
  refine WL.call rfl rfl rfl (fun za zh zC => wp_call (by kernel_rfl) rfl (hv4 (zh.ev rfl) (zh.ev rfl) (zh.ev rfl) (zh.ev rfl))) (litNil ⟨false, p, .mk 0 []⟩ ⟨false, t, .mk 0 []⟩ false _ _ _ (isLi_mk (x := ⟨false, p, .mk 0 []⟩) (IsT.below hb26 hp) (IsT.below hb26 hzT)) (isLi_mk (x := ⟨false, t, .mk 0 []⟩) (IsT.below hb26 ht) (IsT.below hb26 hzT))) ?_
  rintro _ w28 ⟨rfl, hq27⟩
  refine WL.want (d := 16) rfl rfl rfl ?_
  refine WL.val (.bool true) rfl rfl rfl (fun za zC zh zk => wp_not rfl (zh.ev rfl) zk) ?_
  refine WL.val (.bool true) rfl rfl rfl (fun za zC zh zk => wp_pickT rfl (zh.ev rfl) (zh.ev rfl) zk) ?_
  refine WL.val (.bool true) rfl rfl rfl (fun za zC zh zk => wp_move rfl (zh.ev rfl) zk) ?_
  refine WL.want (d := 25) rfl rfl rfl ?_
  refine WL.val (.pointer none) rfl rfl rfl (fun za zC zh zk => wp_move rfl (zh.ev rfl) zk) ?_
  refine WL.want (d := 25) rfl rfl rfl ?_
  refine WL.call rfl rfl rfl (fun za zh zC => wp_call (by kernel_rfl) rfl (hv1 (zh.ev rfl))) (markNil _) ?_
  rintro _ w30 ⟨rfl, hq29⟩
  refine WL.want (d := 25) rfl rfl rfl ?_
  refine WL.val (.bool true) rfl rfl rfl (fun za zC zh zk => eql_3 rfl (zh.ev rfl) (zh.ev rfl) zk) ?_
  refine WL.val (.bool true) rfl rfl rfl (fun za zC zh zk => wp_pickT rfl (zh.ev rfl) (zh.ev rfl) zk) ?_
  refine WL.val (.bool true) rfl rfl rfl (fun za zC zh zk => wp_move rfl (zh.ev rfl) zk) ?_
  refine WL.want (d := 30) rfl rfl rfl ?_
  refine WL.val (.pointer none) rfl rfl rfl (fun za zC zh zk => wp_move rfl (zh.ev rfl) zk) ?_
  refine WL.want (d := 30) rfl rfl rfl ?_
  refine WL.call rfl rfl rfl (fun za zh zC => wp_call (by kernel_rfl) rfl (hv1 (zh.ev rfl))) (msubNil _) ?_
  rintro _ w32 ⟨rfl, hq31⟩
  refine WL.want (d := 30) rfl rfl rfl ?_
  refine WL.val (.int .i64 0) rfl rfl rfl (fun za zC zh zk => len_26 rfl (zh.ev rfl) zk) ?_
  refine WL.want (d := 30) rfl rfl rfl ?_
  refine WL.val (.bool true) rfl rfl rfl (fun za zC zh zk => eql_3 rfl (zh.ev rfl) (zh.ev rfl) zk) ?_
  refine WL.val (.bool true) rfl rfl rfl (fun za zC zh zk => wp_pickT rfl (zh.ev rfl) (zh.ev rfl) zk) ?_
  refine WL.val (.bool true) rfl rfl rfl (fun za zC zh zk => wp_move rfl (zh.ev rfl) zk) ?_
  refine WL.want (d := 36) rfl rfl rfl ?_
  refine WL.call rfl rfl rfl (fun za zh zC => wp_call (by kernel_rfl) rfl (hv0)) (wakes_any _) ?_
  rintro _ w34 ⟨rfl, hq33⟩
  refine WL.val (.bool true) rfl rfl rfl (fun za zC zh zk => wp_pickT rfl (zh.ev rfl) (zh.ev rfl) zk) ?_
  refine WL.val (.bool true) rfl rfl rfl (fun za zC zh zk => wp_assign rfl (zh.ev rfl) zk) ?_
  refine WL.nil (WE.sub (K' := [(0, .agg #[.int .i64 p.f, .slice pa0 p.args.length pc0]), (1, .agg #[.int .i64 t.f, .slice ta0 t.args.length tc0]), (2, .int .i64 n), (3, .pointer (some ⟨g2, 0, none⟩)), (4, .pointer (some ⟨g9, 0, none⟩)), (6, .bool true), (7, .pointer none)]) ⟨rfl, rfl, rfl, rfl, rfl, rfl, rfl, trivial⟩ ?_)
  refine WE.next ?_
  refine WC.ret ?_
  refine WE.ret1 rfl rfl ?_
  have hb35 : Below w.heap.size w w34 := (bstep (bstep (bstep (bstep hb26 hq27) hq29) hq31) hq33)
  exact ⟨_, rfl, rfl, hb35⟩

set_option maxRecDepth 100000 in
theorem finds_yes (p t : T) (w : World) (u v : Value) (hp : IsT w p u) (ht : IsT w t v) (hzp : p.size ≤ 4294967296) (hzt : t.size ≤ 4294967296) (hok :  mOk p t [] = true) : Calls Try.prog 3 #[u, v] w (Ret fun v' w' => v' = .bool true ∧ Below w.heap.size w w') := by
  have hp0 := hp
  have ht0 := ht
  obtain ⟨hfp, pa0, pc0, rfl, _, _, _⟩ := hp.form
  obtain ⟨hft, ta0, tc0, rfl, _, _, _⟩ := ht.form
  refine Calls.walk (l := [.agg #[.int .i64 p.f, .slice pa0 p.args.length pc0], .agg #[.int .i64 t.f, .slice ta0 t.args.length tc0]]) Try.func3 rfl (by kernel_rfl) ?_
  refine WC.sub (K' := [(0, .agg #[.int .i64 p.f, .slice pa0 p.args.length pc0]), (1, .agg #[.int .i64 t.f, .slice ta0 t.args.length tc0])]) ⟨rfl, rfl, trivial⟩ ?_
  refine WC.seq ?_
  refine WC.region ?_
  refine WL.step (post := NewBlk w 24 #[.int .i64 p.f, .slice pa0 p.args.length pc0]) rfl rfl rfl (fun za zC zh zk => box_24 rfl (zh.ev rfl) (zk _ _ (newBlk _ _ _))) ?_
  rintro _ w1 ⟨g2, rfl, hg3, hB4, hb5, hz6⟩
  have hl7 : w.heap.size ≤ g2 := by omega
  refine WL.step (post := NewBlk w1 24 #[.int .i64 t.f, .slice ta0 t.args.length tc0]) rfl rfl rfl (fun za zC zh zk => box_24 rfl (zh.ev rfl) (zk _ _ (newBlk _ _ _))) ?_
  rintro _ w8 ⟨g9, rfl, hg10, hB11, hb12, hz13⟩
  have hl14 : g2 < g9 := by have z1 := hB4.lt; omega
  have hl15 : w.heap.size ≤ g9 := by have z2 := (hb5).size; omega
  refine WL.val (.bool false) rfl rfl rfl (fun za zC zh zk => wp_assign rfl (zh.ev rfl) zk) ?_
  refine WL.nil (WE.sub (K' := [(0, .agg #[.int .i64 p.f, .slice pa0 p.args.length pc0]), (1, .agg #[.int .i64 t.f, .slice ta0 t.args.length tc0]), (2, .pointer (some ⟨g2, 0, none⟩)), (3, .pointer (some ⟨g9, 0, none⟩)), (4, .bool false)]) ⟨rfl, rfl, rfl, rfl, rfl, trivial⟩ ?_)
  refine WE.next ?_
  refine WC.seq ?_
  refine WC.region ?_
  have hB16 := hB4.below hb12
  refine WL.val (.agg #[.int .i64 p.f, .slice pa0 p.args.length pc0]) rfl rfl rfl (fun za zC zh zk => ld_24 rfl (zh.ev rfl) ((hB16.cell 0).trans rfl) ((hB16.cell 1).trans rfl) zk) ?_
  refine WL.val (.agg #[.int .i64 t.f, .slice ta0 t.args.length tc0]) rfl rfl rfl (fun za zC zh zk => ld_24 rfl (zh.ev rfl) ((hB11.cell 0).trans rfl) ((hB11.cell 1).trans rfl) zk) ?_
  have hb20 : Below w.heap.size w w8 := (bstep hb5 hb12)
  refine WL.call rfl rfl rfl (fun za zh zC => wp_call (by kernel_rfl) rfl (hv2 (zh.ev rfl) (zh.ev rfl))) (match_any p t _ _ _ (IsT.below hb20 hp) (IsT.below hb20 ht) hzp hzt) ?_
  rintro v17 w21 ⟨hm18, hb19⟩
  unfold MatchIs at hm18
  rw [if_pos hok] at hm18
  obtain ⟨R1, p1, c1, rfl, hR1, hN1⟩ := hm18
  refine WL.val (.tuple #[.slice p1 R1.length c1, .bool true]) rfl rfl rfl (fun za zC zh zk => wp_move rfl (zh.ev rfl) zk) ?_
  refine WL.val (.slice p1 R1.length c1) rfl rfl rfl (fun za zC zh zk => ext2_0 rfl (zh.ev rfl) zk) ?_
  refine WL.val (.bool true) rfl rfl rfl (fun za zC zh zk => ext2_1 rfl (zh.ev rfl) zk) ?_
  refine WL.val (.slice p1 R1.length c1) rfl rfl rfl (fun za zC zh zk => wp_assign rfl (zh.ev rfl) zk) ?_
  refine WL.val (.bool true) rfl rfl rfl (fun za zC zh zk => wp_assign rfl (zh.ev rfl) zk) ?_
  refine WL.nil (WE.sub (K' := [(0, .agg #[.int .i64 p.f, .slice pa0 p.args.length pc0]), (1, .agg #[.int .i64 t.f, .slice ta0 t.args.length tc0]), (2, .pointer (some ⟨g2, 0, none⟩)), (3, .pointer (some ⟨g9, 0, none⟩)), (4, .bool false), (5, .slice p1 R1.length c1), (6, .bool true)]) ⟨rfl, rfl, rfl, rfl, rfl, rfl, rfl, trivial⟩ ?_)
  refine WE.next ?_
  refine WC.seq ?_
  refine WC.region ?_
  have hB22 := hB16.below hb19
  refine WL.val (.agg #[.int .i64 p.f, .slice pa0 p.args.length pc0]) rfl rfl rfl (fun za zC zh zk => ld_24 rfl (zh.ev rfl) ((hB22.cell 0).trans rfl) ((hB22.cell 1).trans rfl) zk) ?_
  have hB23 := hB11.below hb19
  refine WL.val (.agg #[.int .i64 t.f, .slice ta0 t.args.length tc0]) rfl rfl rfl (fun za zC zh zk => ld_24 rfl (zh.ev rfl) ((hB23.cell 0).trans rfl) ((hB23.cell 1).trans rfl) zk) ?_
  have hb27 : Below w.heap.size w w21 := (bstep hb20 hb19)
  refine WL.call rfl rfl rfl (fun za zh zC => wp_call (by kernel_rfl) rfl (hv2 (zh.ev rfl) (zh.ev rfl))) (rmatch_any p t _ _ _ (IsT.below hb27 hp) (IsT.below hb27 ht) hzp hzt) ?_
  rintro v24 w28 ⟨hm25, hb26⟩
  unfold MatchIs at hm25
  rw [if_pos hok] at hm25
  obtain ⟨R2, p2, c2, rfl, hR2, hN2⟩ := hm25
  refine WL.val (.tuple #[.slice p2 R2.length c2, .bool true]) rfl rfl rfl (fun za zC zh zk => wp_move rfl (zh.ev rfl) zk) ?_
  refine WL.val (.slice p2 R2.length c2) rfl rfl rfl (fun za zC zh zk => ext2_0 rfl (zh.ev rfl) zk) ?_
  refine WL.val (.bool true) rfl rfl rfl (fun za zC zh zk => ext2_1 rfl (zh.ev rfl) zk) ?_
  refine WL.val (.slice p2 R2.length c2) rfl rfl rfl (fun za zC zh zk => wp_assign rfl (zh.ev rfl) zk) ?_
  refine WL.val (.bool true) rfl rfl rfl (fun za zC zh zk => wp_assign rfl (zh.ev rfl) zk) ?_
  refine WL.nil (WE.sub (K' := [(0, .agg #[.int .i64 p.f, .slice pa0 p.args.length pc0]), (1, .agg #[.int .i64 t.f, .slice ta0 t.args.length tc0]), (2, .pointer (some ⟨g2, 0, none⟩)), (3, .pointer (some ⟨g9, 0, none⟩)), (4, .bool false), (5, .slice p1 R1.length c1), (6, .bool true), (7, .slice p2 R2.length c2), (8, .bool true)]) ⟨rfl, rfl, rfl, rfl, rfl, rfl, rfl, rfl, rfl, trivial⟩ ?_)
  refine WE.next ?_
  refine WC.seq ?_
  have hB30 := hB22.below hb26
  have hB31 := hB23.below hb26
  have hb32 : Below w.heap.size w w28 := (bstep hb27 hb26)
  refine WC.opt [(true, .val (.bool true)), (true, .val (.bool true)), (true, .val (.bool ((true == true)))), (true, .val (.bool ((true == true)))), ((true && (true == true)), .val (.slice p1 R1.length c1)), ((true && (true == true)), .val (.slice p2 R2.length c2)), ((true && (true == true)), .val (.bool true)), (true, .val (.bool (((true == true) && true)))), (true, .val (.bool (((true == true) && true)))), ((true && ((true == true) && true)), .val (.agg #[.int .i64 p.f, .slice pa0 p.args.length pc0])), ((true && ((true == true) && true)), .val (.agg #[.int .i64 t.f, .slice ta0 t.args.length tc0])), ((true && ((true == true) && true)), .val (.bool ((varB p t)))), ((true && ((true == true) && true)), .val (.agg #[.int .i64 p.f, .slice pa0 p.args.length pc0])), ((true && ((true == true) && true)), .val (.agg #[.int .i64 t.f, .slice ta0 t.args.length tc0])), ((true && ((true == true) && true)), .val (.bool ((varB p t)))), ((true && ((true == true) && true)), .val (.bool (((varB p t) == (varB p t))))), (true, .val (.bool ((((true == true) && true) && ((varB p t) == (varB p t)))))), (true, .val (.bool ((((true == true) && true) && ((varB p t) == (varB p t)))))), ((true && (((true == true) && true) && ((varB p t) == (varB p t)))), .val (.bool true)), (true, .val (.bool (((((true == true) && true) && ((varB p t) == (varB p t))) && true)))), (true, .val (.bool (((((true == true) && true) && ((varB p t) == (varB p t))) && true))))] [(0, .agg #[.int .i64 p.f, .slice pa0 p.args.length pc0]), (1, .agg #[.int .i64 t.f, .slice ta0 t.args.length tc0]), (2, .pointer (some ⟨g2, 0, none⟩)), (3, .pointer (some ⟨g9, 0, none⟩)), (5, .slice p1 R1.length c1), (6, .bool true), (7, .slice p2 R2.length c2), (8, .bool true)] ⟨rfl, rfl, rfl, rfl, rfl, rfl, rfl, rfl, trivial⟩ (by kernel_rfl) (by kernel_rfl) (by kernel_rfl) ?_ ?_
  · refine ⟨⟨true, .none rfl, fun h w => optUndef h, fun zβ za zw zc => ?_⟩, ?_⟩
    · exact wp_move rfl (zc.kn.ev rfl) ⟨_, rfl, Below.refl _ _, optDef zβ rfl⟩
    refine ⟨⟨true, .none rfl, fun h w => optUndef h, fun zβ za zw zc => ?_⟩, ?_⟩
    · exact wp_move rfl (zc.kn.ev rfl) ⟨_, rfl, Below.refl _ _, optDef zβ rfl⟩
    refine ⟨⟨true, .none rfl, fun h w => optUndef h, fun zβ za zw zc => ?_⟩, ?_⟩
    · exact eql_4 rfl ((show za.eval (.tmp 21) = za.tmps.getD 21 undef from rfl).trans (optVal (zc.dep 0 21 (by kernel_rfl)) rfl rfl)) ((show za.eval (.tmp 22) = za.tmps.getD 22 undef from rfl).trans (optVal (zc.dep 1 22 (by kernel_rfl)) rfl rfl)) ⟨_, rfl, Below.refl _ _, optDef zβ rfl⟩
    refine ⟨⟨true, .none rfl, fun h w => optUndef h, fun zβ za zw zc => ?_⟩, ?_⟩
    · exact wp_move rfl ((show za.eval (.tmp 23) = za.tmps.getD 23 undef from rfl).trans (optVal (zc.dep 2 23 (by kernel_rfl)) rfl rfl)) ⟨_, rfl, Below.refl _ _, optDef zβ rfl⟩
    refine ⟨⟨(true && (true == true)), .yes (c := (true == true)) (d := true) rfl (fun v w h => h), fun h w => optUndef h, fun zβ za zw zc => ?_⟩, ?_⟩
    · exact wp_move rfl (zc.kn.ev rfl) ⟨_, rfl, Below.refl _ _, optDef zβ rfl⟩
    refine ⟨⟨(true && (true == true)), .yes (c := (true == true)) (d := true) rfl (fun v w h => h), fun h w => optUndef h, fun zβ za zw zc => ?_⟩, ?_⟩
    · exact wp_move rfl (zc.kn.ev rfl) ⟨_, rfl, Below.refl _ _, optDef zβ rfl⟩
    refine ⟨⟨(true && (true == true)), .yes (c := (true == true)) (d := true) rfl (fun v w h => h), fun h w => optUndef h, fun zβ za zw zc => ?_⟩, ?_⟩
    · exact wp_call (by kernel_rfl) rfl (hv2 ((show za.eval (.tmp 25) = za.tmps.getD 25 undef from rfl).trans (optVal (zc.dep 4 25 (by kernel_rfl)) rfl zβ)) ((show za.eval (.tmp 26) = za.tmps.getD 26 undef from rfl).trans (optVal (zc.dep 5 26 (by kernel_rfl)) rfl zβ))) (rsubSame_yes R1 R2 _ p1 p2 c1 c2 (Nat.le_trans hN1.2.1 hN1.2.2) (hN1.isBs.below (bstep hb26 zc.below)) (hN2.isBs.below zc.below) (hR1.unique hR2)) (fun v w' h => ⟨v, rfl, h.2, optDef zβ h.1⟩)
    refine ⟨⟨true, .none rfl, fun h w => optUndef h, fun zβ za zw zc => ?_⟩, ?_⟩
    · exact wp_and rfl ((show za.eval (.tmp 24) = za.tmps.getD 24 undef from rfl).trans (optVal (zc.dep 3 24 (by kernel_rfl)) rfl rfl)) (fun hp => ((show za.eval (.tmp 27) = za.tmps.getD 27 undef from rfl).trans (optVal (zc.dep 6 27 (by kernel_rfl)) rfl (bMk zβ hp)))) ⟨_, rfl, Below.refl _ _, optDef zβ rfl⟩
    refine ⟨⟨true, .none rfl, fun h w => optUndef h, fun zβ za zw zc => ?_⟩, ?_⟩
    · exact wp_move rfl ((show za.eval (.tmp 28) = za.tmps.getD 28 undef from rfl).trans (optVal (zc.dep 7 28 (by kernel_rfl)) rfl rfl)) ⟨_, rfl, Below.refl _ _, optDef zβ rfl⟩
    refine ⟨⟨(true && ((true == true) && true)), .yes (c := ((true == true) && true)) (d := true) rfl (fun v w h => h), fun h w => optUndef h, fun zβ za zw zc => ?_⟩, ?_⟩
    · exact ld_24 rfl (zc.kn.ev rfl) (bkeeps zc.below _ _ ((hB30.cell 0).trans rfl)) (bkeeps zc.below _ _ ((hB30.cell 1).trans rfl)) ⟨_, rfl, Below.refl _ _, optDef zβ rfl⟩
    refine ⟨⟨(true && ((true == true) && true)), .yes (c := ((true == true) && true)) (d := true) rfl (fun v w h => h), fun h w => optUndef h, fun zβ za zw zc => ?_⟩, ?_⟩
    · exact ld_24 rfl (zc.kn.ev rfl) (bkeeps zc.below _ _ ((hB31.cell 0).trans rfl)) (bkeeps zc.below _ _ ((hB31.cell 1).trans rfl)) ⟨_, rfl, Below.refl _ _, optDef zβ rfl⟩
    refine ⟨⟨(true && ((true == true) && true)), .yes (c := ((true == true) && true)) (d := true) rfl (fun v w h => h), fun h w => optUndef h, fun zβ za zw zc => ?_⟩, ?_⟩
    · exact wp_call (by kernel_rfl) rfl (hv2 ((show za.eval (.tmp 30) = za.tmps.getD 30 undef from rfl).trans (optVal (zc.dep 9 30 (by kernel_rfl)) rfl zβ)) ((show za.eval (.tmp 31) = za.tmps.getD 31 undef from rfl).trans (optVal (zc.dep 10 31 (by kernel_rfl)) rfl zβ))) (variant_any p t _ _ _ (IsT.below (bstep hb32 zc.below) hp) (IsT.below (bstep hb32 zc.below) ht) hzp hzt) (fun v w' h => ⟨v, rfl, h.2, optDef zβ h.1⟩)
    refine ⟨⟨(true && ((true == true) && true)), .yes (c := ((true == true) && true)) (d := true) rfl (fun v w h => h), fun h w => optUndef h, fun zβ za zw zc => ?_⟩, ?_⟩
    · exact ld_24 rfl (zc.kn.ev rfl) (bkeeps zc.below _ _ ((hB30.cell 0).trans rfl)) (bkeeps zc.below _ _ ((hB30.cell 1).trans rfl)) ⟨_, rfl, Below.refl _ _, optDef zβ rfl⟩
    refine ⟨⟨(true && ((true == true) && true)), .yes (c := ((true == true) && true)) (d := true) rfl (fun v w h => h), fun h w => optUndef h, fun zβ za zw zc => ?_⟩, ?_⟩
    · exact ld_24 rfl (zc.kn.ev rfl) (bkeeps zc.below _ _ ((hB31.cell 0).trans rfl)) (bkeeps zc.below _ _ ((hB31.cell 1).trans rfl)) ⟨_, rfl, Below.refl _ _, optDef zβ rfl⟩
    refine ⟨⟨(true && ((true == true) && true)), .yes (c := ((true == true) && true)) (d := true) rfl (fun v w h => h), fun h w => optUndef h, fun zβ za zw zc => ?_⟩, ?_⟩
    · exact wp_call (by kernel_rfl) rfl (hv2 ((show za.eval (.tmp 33) = za.tmps.getD 33 undef from rfl).trans (optVal (zc.dep 12 33 (by kernel_rfl)) rfl zβ)) ((show za.eval (.tmp 34) = za.tmps.getD 34 undef from rfl).trans (optVal (zc.dep 13 34 (by kernel_rfl)) rfl zβ))) (rvariant_any p t _ _ _ (IsT.below (bstep hb32 zc.below) hp) (IsT.below (bstep hb32 zc.below) ht) hzp hzt) (fun v w' h => ⟨v, rfl, h.2, optDef zβ h.1⟩)
    refine ⟨⟨(true && ((true == true) && true)), .yes (c := ((true == true) && true)) (d := true) rfl (fun v w h => h), fun h w => optUndef h, fun zβ za zw zc => ?_⟩, ?_⟩
    · exact eql_4 rfl ((show za.eval (.tmp 32) = za.tmps.getD 32 undef from rfl).trans (optVal (zc.dep 11 32 (by kernel_rfl)) rfl zβ)) ((show za.eval (.tmp 35) = za.tmps.getD 35 undef from rfl).trans (optVal (zc.dep 14 35 (by kernel_rfl)) rfl zβ)) ⟨_, rfl, Below.refl _ _, optDef zβ rfl⟩
    refine ⟨⟨true, .none rfl, fun h w => optUndef h, fun zβ za zw zc => ?_⟩, ?_⟩
    · exact wp_and rfl ((show za.eval (.tmp 29) = za.tmps.getD 29 undef from rfl).trans (optVal (zc.dep 8 29 (by kernel_rfl)) rfl rfl)) (fun hp => ((show za.eval (.tmp 36) = za.tmps.getD 36 undef from rfl).trans (optVal (zc.dep 15 36 (by kernel_rfl)) rfl (bMk zβ hp)))) ⟨_, rfl, Below.refl _ _, optDef zβ rfl⟩
    refine ⟨⟨true, .none rfl, fun h w => optUndef h, fun zβ za zw zc => ?_⟩, ?_⟩
    · exact wp_move rfl ((show za.eval (.tmp 37) = za.tmps.getD 37 undef from rfl).trans (optVal (zc.dep 16 37 (by kernel_rfl)) rfl rfl)) ⟨_, rfl, Below.refl _ _, optDef zβ rfl⟩
    refine ⟨⟨(true && (((true == true) && true) && ((varB p t) == (varB p t)))), .yes (c := (((true == true) && true) && ((varB p t) == (varB p t)))) (d := true) rfl (fun v w h => h), fun h w => optUndef h, fun zβ za zw zc => ?_⟩, ?_⟩
    · exact wp_call (by kernel_rfl) rfl (hv0) (wakes_any _) (fun v w' h => ⟨v, rfl, h.2, optDef zβ h.1⟩)
    refine ⟨⟨true, .none rfl, fun h w => optUndef h, fun zβ za zw zc => ?_⟩, ?_⟩
    · exact wp_and rfl ((show za.eval (.tmp 38) = za.tmps.getD 38 undef from rfl).trans (optVal (zc.dep 17 38 (by kernel_rfl)) rfl rfl)) (fun hp => ((show za.eval (.tmp 39) = za.tmps.getD 39 undef from rfl).trans (optVal (zc.dep 18 39 (by kernel_rfl)) rfl (bMk zβ hp)))) ⟨_, rfl, Below.refl _ _, optDef zβ rfl⟩
    refine ⟨⟨true, .none rfl, fun h w => optUndef h, fun zβ za zw zc => ?_⟩, ?_⟩
    · exact wp_assign rfl ((show za.eval (.tmp 40) = za.tmps.getD 40 undef from rfl).trans (optVal (zc.dep 19 40 (by kernel_rfl)) rfl rfl)) ⟨_, rfl, Below.refl _ _, optDef zβ rfl⟩
    exact trivial
  · intro za w36 zh hb37 zu
    have zh := zh.cons (d := 4) (v := .bool (((((true == true) && true) && ((varB p t) == (varB p t))) && true))) (optVal (zu 20 4 (by kernel_rfl)) rfl rfl)
    clear zu
    refine (show WE _ [(0, .agg #[.int .i64 p.f, .slice pa0 p.args.length pc0]), (1, .agg #[.int .i64 t.f, .slice ta0 t.args.length tc0]), (2, .pointer (some ⟨g2, 0, none⟩)), (3, .pointer (some ⟨g9, 0, none⟩)), (4, .bool (((((true == true) && true) && ((varB p t) == (varB p t))) && true))), (5, .slice p1 R1.length c1), (6, .bool true), (7, .slice p2 R2.length c2), (8, .bool true)] w36 _ .normal from ?_) za (zh.sub ⟨rfl, rfl, rfl, rfl, rfl, rfl, rfl, rfl, rfl, trivial⟩)
    refine WE.next ?_
    refine WC.ret ?_
    refine WE.ret1 rfl rfl ?_
    have hb38 : Below w.heap.size w w36 := (bstep hb32 hb37)
    exact ⟨_, rfl, congrArg Value.bool (by simp), hb38⟩

set_option maxRecDepth 100000 in
theorem finds_no (p t : T) (w : World) (u v : Value) (hp : IsT w p u) (ht : IsT w t v) (hzp : p.size ≤ 4294967296) (hzt : t.size ≤ 4294967296) (hok : ¬ mOk p t [] = true) : Calls Try.prog 3 #[u, v] w (Ret fun v' w' => v' = .bool true ∧ Below w.heap.size w w') := by
  have hp0 := hp
  have ht0 := ht
  obtain ⟨hfp, pa0, pc0, rfl, _, _, _⟩ := hp.form
  obtain ⟨hft, ta0, tc0, rfl, _, _, _⟩ := ht.form
  refine Calls.walk (l := [.agg #[.int .i64 p.f, .slice pa0 p.args.length pc0], .agg #[.int .i64 t.f, .slice ta0 t.args.length tc0]]) Try.func3 rfl (by kernel_rfl) ?_
  refine WC.sub (K' := [(0, .agg #[.int .i64 p.f, .slice pa0 p.args.length pc0]), (1, .agg #[.int .i64 t.f, .slice ta0 t.args.length tc0])]) ⟨rfl, rfl, trivial⟩ ?_
  refine WC.seq ?_
  refine WC.region ?_
  refine WL.step (post := NewBlk w 24 #[.int .i64 p.f, .slice pa0 p.args.length pc0]) rfl rfl rfl (fun za zC zh zk => box_24 rfl (zh.ev rfl) (zk _ _ (newBlk _ _ _))) ?_
  rintro _ w1 ⟨g2, rfl, hg3, hB4, hb5, hz6⟩
  have hl7 : w.heap.size ≤ g2 := by omega
  refine WL.step (post := NewBlk w1 24 #[.int .i64 t.f, .slice ta0 t.args.length tc0]) rfl rfl rfl (fun za zC zh zk => box_24 rfl (zh.ev rfl) (zk _ _ (newBlk _ _ _))) ?_
  rintro _ w8 ⟨g9, rfl, hg10, hB11, hb12, hz13⟩
  have hl14 : g2 < g9 := by have z1 := hB4.lt; omega
  have hl15 : w.heap.size ≤ g9 := by have z2 := (hb5).size; omega
  refine WL.val (.bool false) rfl rfl rfl (fun za zC zh zk => wp_assign rfl (zh.ev rfl) zk) ?_
  refine WL.nil (WE.sub (K' := [(0, .agg #[.int .i64 p.f, .slice pa0 p.args.length pc0]), (1, .agg #[.int .i64 t.f, .slice ta0 t.args.length tc0]), (2, .pointer (some ⟨g2, 0, none⟩)), (3, .pointer (some ⟨g9, 0, none⟩)), (4, .bool false)]) ⟨rfl, rfl, rfl, rfl, rfl, trivial⟩ ?_)
  refine WE.next ?_
  refine WC.seq ?_
  refine WC.region ?_
  have hB16 := hB4.below hb12
  refine WL.val (.agg #[.int .i64 p.f, .slice pa0 p.args.length pc0]) rfl rfl rfl (fun za zC zh zk => ld_24 rfl (zh.ev rfl) ((hB16.cell 0).trans rfl) ((hB16.cell 1).trans rfl) zk) ?_
  refine WL.val (.agg #[.int .i64 t.f, .slice ta0 t.args.length tc0]) rfl rfl rfl (fun za zC zh zk => ld_24 rfl (zh.ev rfl) ((hB11.cell 0).trans rfl) ((hB11.cell 1).trans rfl) zk) ?_
  have hb20 : Below w.heap.size w w8 := (bstep hb5 hb12)
  refine WL.call rfl rfl rfl (fun za zh zC => wp_call (by kernel_rfl) rfl (hv2 (zh.ev rfl) (zh.ev rfl))) (match_any p t _ _ _ (IsT.below hb20 hp) (IsT.below hb20 ht) hzp hzt) ?_
  rintro v17 w21 ⟨hm18, hb19⟩
  unfold MatchIs at hm18
  rw [if_neg hok] at hm18
  subst hm18
  refine WL.val (.tuple #[.slice none 0 0, .bool false]) rfl rfl rfl (fun za zC zh zk => wp_move rfl (zh.ev rfl) zk) ?_
  refine WL.val (.slice none 0 0) rfl rfl rfl (fun za zC zh zk => ext2_0 rfl (zh.ev rfl) zk) ?_
  refine WL.val (.bool false) rfl rfl rfl (fun za zC zh zk => ext2_1 rfl (zh.ev rfl) zk) ?_
  refine WL.val (.slice none 0 0) rfl rfl rfl (fun za zC zh zk => wp_assign rfl (zh.ev rfl) zk) ?_
  refine WL.val (.bool false) rfl rfl rfl (fun za zC zh zk => wp_assign rfl (zh.ev rfl) zk) ?_
  refine WL.nil (WE.sub (K' := [(0, .agg #[.int .i64 p.f, .slice pa0 p.args.length pc0]), (1, .agg #[.int .i64 t.f, .slice ta0 t.args.length tc0]), (2, .pointer (some ⟨g2, 0, none⟩)), (3, .pointer (some ⟨g9, 0, none⟩)), (4, .bool false), (5, .slice none 0 0), (6, .bool false)]) ⟨rfl, rfl, rfl, rfl, rfl, rfl, rfl, trivial⟩ ?_)
  refine WE.next ?_
  refine WC.seq ?_
  refine WC.region ?_
  have hB22 := hB16.below hb19
  refine WL.val (.agg #[.int .i64 p.f, .slice pa0 p.args.length pc0]) rfl rfl rfl (fun za zC zh zk => ld_24 rfl (zh.ev rfl) ((hB22.cell 0).trans rfl) ((hB22.cell 1).trans rfl) zk) ?_
  have hB23 := hB11.below hb19
  refine WL.val (.agg #[.int .i64 t.f, .slice ta0 t.args.length tc0]) rfl rfl rfl (fun za zC zh zk => ld_24 rfl (zh.ev rfl) ((hB23.cell 0).trans rfl) ((hB23.cell 1).trans rfl) zk) ?_
  have hb27 : Below w.heap.size w w21 := (bstep hb20 hb19)
  refine WL.call rfl rfl rfl (fun za zh zC => wp_call (by kernel_rfl) rfl (hv2 (zh.ev rfl) (zh.ev rfl))) (rmatch_any p t _ _ _ (IsT.below hb27 hp) (IsT.below hb27 ht) hzp hzt) ?_
  rintro v24 w28 ⟨hm25, hb26⟩
  unfold MatchIs at hm25
  rw [if_neg hok] at hm25
  subst hm25
  refine WL.val (.tuple #[.slice none 0 0, .bool false]) rfl rfl rfl (fun za zC zh zk => wp_move rfl (zh.ev rfl) zk) ?_
  refine WL.val (.slice none 0 0) rfl rfl rfl (fun za zC zh zk => ext2_0 rfl (zh.ev rfl) zk) ?_
  refine WL.val (.bool false) rfl rfl rfl (fun za zC zh zk => ext2_1 rfl (zh.ev rfl) zk) ?_
  refine WL.val (.slice none 0 0) rfl rfl rfl (fun za zC zh zk => wp_assign rfl (zh.ev rfl) zk) ?_
  refine WL.val (.bool false) rfl rfl rfl (fun za zC zh zk => wp_assign rfl (zh.ev rfl) zk) ?_
  refine WL.nil (WE.sub (K' := [(0, .agg #[.int .i64 p.f, .slice pa0 p.args.length pc0]), (1, .agg #[.int .i64 t.f, .slice ta0 t.args.length tc0]), (2, .pointer (some ⟨g2, 0, none⟩)), (3, .pointer (some ⟨g9, 0, none⟩)), (4, .bool false), (5, .slice none 0 0), (6, .bool false), (7, .slice none 0 0), (8, .bool false)]) ⟨rfl, rfl, rfl, rfl, rfl, rfl, rfl, rfl, rfl, trivial⟩ ?_)
  refine WE.next ?_
  refine WC.seq ?_
  have hB30 := hB22.below hb26
  have hB31 := hB23.below hb26
  have hb32 : Below w.heap.size w w28 := (bstep hb27 hb26)
  refine WC.opt [(true, .val (.bool false)), (true, .val (.bool false)), (true, .val (.bool ((false == false)))), (true, .val (.bool ((false == false)))), ((true && (false == false)), .val (.slice none 0 0)), ((true && (false == false)), .val (.slice none 0 0)), ((true && (false == false)), .val (.bool true)), (true, .val (.bool (((false == false) && true)))), (true, .val (.bool (((false == false) && true)))), ((true && ((false == false) && true)), .val (.agg #[.int .i64 p.f, .slice pa0 p.args.length pc0])), ((true && ((false == false) && true)), .val (.agg #[.int .i64 t.f, .slice ta0 t.args.length tc0])), ((true && ((false == false) && true)), .val (.bool ((varB p t)))), ((true && ((false == false) && true)), .val (.agg #[.int .i64 p.f, .slice pa0 p.args.length pc0])), ((true && ((false == false) && true)), .val (.agg #[.int .i64 t.f, .slice ta0 t.args.length tc0])), ((true && ((false == false) && true)), .val (.bool ((varB p t)))), ((true && ((false == false) && true)), .val (.bool (((varB p t) == (varB p t))))), (true, .val (.bool ((((false == false) && true) && ((varB p t) == (varB p t)))))), (true, .val (.bool ((((false == false) && true) && ((varB p t) == (varB p t)))))), ((true && (((false == false) && true) && ((varB p t) == (varB p t)))), .val (.bool true)), (true, .val (.bool (((((false == false) && true) && ((varB p t) == (varB p t))) && true)))), (true, .val (.bool (((((false == false) && true) && ((varB p t) == (varB p t))) && true))))] [(0, .agg #[.int .i64 p.f, .slice pa0 p.args.length pc0]), (1, .agg #[.int .i64 t.f, .slice ta0 t.args.length tc0]), (2, .pointer (some ⟨g2, 0, none⟩)), (3, .pointer (some ⟨g9, 0, none⟩)), (5, .slice none 0 0), (6, .bool false), (7, .slice none 0 0), (8, .bool false)] ⟨rfl, rfl, rfl, rfl, rfl, rfl, rfl, rfl, trivial⟩ (by kernel_rfl) (by kernel_rfl) (by kernel_rfl) ?_ ?_
  · refine ⟨⟨true, .none rfl, fun h w => optUndef h, fun zβ za zw zc => ?_⟩, ?_⟩
    · exact wp_move rfl (zc.kn.ev rfl) ⟨_, rfl, Below.refl _ _, optDef zβ rfl⟩
    refine ⟨⟨true, .none rfl, fun h w => optUndef h, fun zβ za zw zc => ?_⟩, ?_⟩
    · exact wp_move rfl (zc.kn.ev rfl) ⟨_, rfl, Below.refl _ _, optDef zβ rfl⟩
    refine ⟨⟨true, .none rfl, fun h w => optUndef h, fun zβ za zw zc => ?_⟩, ?_⟩
    · exact eql_4 rfl ((show za.eval (.tmp 21) = za.tmps.getD 21 undef from rfl).trans (optVal (zc.dep 0 21 (by kernel_rfl)) rfl rfl)) ((show za.eval (.tmp 22) = za.tmps.getD 22 undef from rfl).trans (optVal (zc.dep 1 22 (by kernel_rfl)) rfl rfl)) ⟨_, rfl, Below.refl _ _, optDef zβ rfl⟩
    refine ⟨⟨true, .none rfl, fun h w => optUndef h, fun zβ za zw zc => ?_⟩, ?_⟩
    · exact wp_move rfl ((show za.eval (.tmp 23) = za.tmps.getD 23 undef from rfl).trans (optVal (zc.dep 2 23 (by kernel_rfl)) rfl rfl)) ⟨_, rfl, Below.refl _ _, optDef zβ rfl⟩
    refine ⟨⟨(true && (false == false)), .yes (c := (false == false)) (d := true) rfl (fun v w h => h), fun h w => optUndef h, fun zβ za zw zc => ?_⟩, ?_⟩
    · exact wp_move rfl (zc.kn.ev rfl) ⟨_, rfl, Below.refl _ _, optDef zβ rfl⟩
    refine ⟨⟨(true && (false == false)), .yes (c := (false == false)) (d := true) rfl (fun v w h => h), fun h w => optUndef h, fun zβ za zw zc => ?_⟩, ?_⟩
    · exact wp_move rfl (zc.kn.ev rfl) ⟨_, rfl, Below.refl _ _, optDef zβ rfl⟩
    refine ⟨⟨(true && (false == false)), .yes (c := (false == false)) (d := true) rfl (fun v w h => h), fun h w => optUndef h, fun zβ za zw zc => ?_⟩, ?_⟩
    · exact wp_call (by kernel_rfl) rfl (hv2 ((show za.eval (.tmp 25) = za.tmps.getD 25 undef from rfl).trans (optVal (zc.dep 4 25 (by kernel_rfl)) rfl zβ)) ((show za.eval (.tmp 26) = za.tmps.getD 26 undef from rfl).trans (optVal (zc.dep 5 26 (by kernel_rfl)) rfl zβ))) (rsubSame_yes [] [] _ none none 0 0 (Nat.zero_le _) InRow.nil InRow.nil rfl) (fun v w' h => ⟨v, rfl, h.2, optDef zβ h.1⟩)
    refine ⟨⟨true, .none rfl, fun h w => optUndef h, fun zβ za zw zc => ?_⟩, ?_⟩
    · exact wp_and rfl ((show za.eval (.tmp 24) = za.tmps.getD 24 undef from rfl).trans (optVal (zc.dep 3 24 (by kernel_rfl)) rfl rfl)) (fun hp => ((show za.eval (.tmp 27) = za.tmps.getD 27 undef from rfl).trans (optVal (zc.dep 6 27 (by kernel_rfl)) rfl (bMk zβ hp)))) ⟨_, rfl, Below.refl _ _, optDef zβ rfl⟩
    refine ⟨⟨true, .none rfl, fun h w => optUndef h, fun zβ za zw zc => ?_⟩, ?_⟩
    · exact wp_move rfl ((show za.eval (.tmp 28) = za.tmps.getD 28 undef from rfl).trans (optVal (zc.dep 7 28 (by kernel_rfl)) rfl rfl)) ⟨_, rfl, Below.refl _ _, optDef zβ rfl⟩
    refine ⟨⟨(true && ((false == false) && true)), .yes (c := ((false == false) && true)) (d := true) rfl (fun v w h => h), fun h w => optUndef h, fun zβ za zw zc => ?_⟩, ?_⟩
    · exact ld_24 rfl (zc.kn.ev rfl) (bkeeps zc.below _ _ ((hB30.cell 0).trans rfl)) (bkeeps zc.below _ _ ((hB30.cell 1).trans rfl)) ⟨_, rfl, Below.refl _ _, optDef zβ rfl⟩
    refine ⟨⟨(true && ((false == false) && true)), .yes (c := ((false == false) && true)) (d := true) rfl (fun v w h => h), fun h w => optUndef h, fun zβ za zw zc => ?_⟩, ?_⟩
    · exact ld_24 rfl (zc.kn.ev rfl) (bkeeps zc.below _ _ ((hB31.cell 0).trans rfl)) (bkeeps zc.below _ _ ((hB31.cell 1).trans rfl)) ⟨_, rfl, Below.refl _ _, optDef zβ rfl⟩
    refine ⟨⟨(true && ((false == false) && true)), .yes (c := ((false == false) && true)) (d := true) rfl (fun v w h => h), fun h w => optUndef h, fun zβ za zw zc => ?_⟩, ?_⟩
    · exact wp_call (by kernel_rfl) rfl (hv2 ((show za.eval (.tmp 30) = za.tmps.getD 30 undef from rfl).trans (optVal (zc.dep 9 30 (by kernel_rfl)) rfl zβ)) ((show za.eval (.tmp 31) = za.tmps.getD 31 undef from rfl).trans (optVal (zc.dep 10 31 (by kernel_rfl)) rfl zβ))) (variant_any p t _ _ _ (IsT.below (bstep hb32 zc.below) hp) (IsT.below (bstep hb32 zc.below) ht) hzp hzt) (fun v w' h => ⟨v, rfl, h.2, optDef zβ h.1⟩)
    refine ⟨⟨(true && ((false == false) && true)), .yes (c := ((false == false) && true)) (d := true) rfl (fun v w h => h), fun h w => optUndef h, fun zβ za zw zc => ?_⟩, ?_⟩
    · exact ld_24 rfl (zc.kn.ev rfl) (bkeeps zc.below _ _ ((hB30.cell 0).trans rfl)) (bkeeps zc.below _ _ ((hB30.cell 1).trans rfl)) ⟨_, rfl, Below.refl _ _, optDef zβ rfl⟩
    refine ⟨⟨(true && ((false == false) && true)), .yes (c := ((false == false) && true)) (d := true) rfl (fun v w h => h), fun h w => optUndef h, fun zβ za zw zc => ?_⟩, ?_⟩
    · exact ld_24 rfl (zc.kn.ev rfl) (bkeeps zc.below _ _ ((hB31.cell 0).trans rfl)) (bkeeps zc.below _ _ ((hB31.cell 1).trans rfl)) ⟨_, rfl, Below.refl _ _, optDef zβ rfl⟩
    refine ⟨⟨(true && ((false == false) && true)), .yes (c := ((false == false) && true)) (d := true) rfl (fun v w h => h), fun h w => optUndef h, fun zβ za zw zc => ?_⟩, ?_⟩
    · exact wp_call (by kernel_rfl) rfl (hv2 ((show za.eval (.tmp 33) = za.tmps.getD 33 undef from rfl).trans (optVal (zc.dep 12 33 (by kernel_rfl)) rfl zβ)) ((show za.eval (.tmp 34) = za.tmps.getD 34 undef from rfl).trans (optVal (zc.dep 13 34 (by kernel_rfl)) rfl zβ))) (rvariant_any p t _ _ _ (IsT.below (bstep hb32 zc.below) hp) (IsT.below (bstep hb32 zc.below) ht) hzp hzt) (fun v w' h => ⟨v, rfl, h.2, optDef zβ h.1⟩)
    refine ⟨⟨(true && ((false == false) && true)), .yes (c := ((false == false) && true)) (d := true) rfl (fun v w h => h), fun h w => optUndef h, fun zβ za zw zc => ?_⟩, ?_⟩
    · exact eql_4 rfl ((show za.eval (.tmp 32) = za.tmps.getD 32 undef from rfl).trans (optVal (zc.dep 11 32 (by kernel_rfl)) rfl zβ)) ((show za.eval (.tmp 35) = za.tmps.getD 35 undef from rfl).trans (optVal (zc.dep 14 35 (by kernel_rfl)) rfl zβ)) ⟨_, rfl, Below.refl _ _, optDef zβ rfl⟩
    refine ⟨⟨true, .none rfl, fun h w => optUndef h, fun zβ za zw zc => ?_⟩, ?_⟩
    · exact wp_and rfl ((show za.eval (.tmp 29) = za.tmps.getD 29 undef from rfl).trans (optVal (zc.dep 8 29 (by kernel_rfl)) rfl rfl)) (fun hp => ((show za.eval (.tmp 36) = za.tmps.getD 36 undef from rfl).trans (optVal (zc.dep 15 36 (by kernel_rfl)) rfl (bMk zβ hp)))) ⟨_, rfl, Below.refl _ _, optDef zβ rfl⟩
    refine ⟨⟨true, .none rfl, fun h w => optUndef h, fun zβ za zw zc => ?_⟩, ?_⟩
    · exact wp_move rfl ((show za.eval (.tmp 37) = za.tmps.getD 37 undef from rfl).trans (optVal (zc.dep 16 37 (by kernel_rfl)) rfl rfl)) ⟨_, rfl, Below.refl _ _, optDef zβ rfl⟩
    refine ⟨⟨(true && (((false == false) && true) && ((varB p t) == (varB p t)))), .yes (c := (((false == false) && true) && ((varB p t) == (varB p t)))) (d := true) rfl (fun v w h => h), fun h w => optUndef h, fun zβ za zw zc => ?_⟩, ?_⟩
    · exact wp_call (by kernel_rfl) rfl (hv0) (wakes_any _) (fun v w' h => ⟨v, rfl, h.2, optDef zβ h.1⟩)
    refine ⟨⟨true, .none rfl, fun h w => optUndef h, fun zβ za zw zc => ?_⟩, ?_⟩
    · exact wp_and rfl ((show za.eval (.tmp 38) = za.tmps.getD 38 undef from rfl).trans (optVal (zc.dep 17 38 (by kernel_rfl)) rfl rfl)) (fun hp => ((show za.eval (.tmp 39) = za.tmps.getD 39 undef from rfl).trans (optVal (zc.dep 18 39 (by kernel_rfl)) rfl (bMk zβ hp)))) ⟨_, rfl, Below.refl _ _, optDef zβ rfl⟩
    refine ⟨⟨true, .none rfl, fun h w => optUndef h, fun zβ za zw zc => ?_⟩, ?_⟩
    · exact wp_assign rfl ((show za.eval (.tmp 40) = za.tmps.getD 40 undef from rfl).trans (optVal (zc.dep 19 40 (by kernel_rfl)) rfl rfl)) ⟨_, rfl, Below.refl _ _, optDef zβ rfl⟩
    exact trivial
  · intro za w36 zh hb37 zu
    have zh := zh.cons (d := 4) (v := .bool (((((false == false) && true) && ((varB p t) == (varB p t))) && true))) (optVal (zu 20 4 (by kernel_rfl)) rfl rfl)
    clear zu
    refine (show WE _ [(0, .agg #[.int .i64 p.f, .slice pa0 p.args.length pc0]), (1, .agg #[.int .i64 t.f, .slice ta0 t.args.length tc0]), (2, .pointer (some ⟨g2, 0, none⟩)), (3, .pointer (some ⟨g9, 0, none⟩)), (4, .bool (((((false == false) && true) && ((varB p t) == (varB p t))) && true))), (5, .slice none 0 0), (6, .bool false), (7, .slice none 0 0), (8, .bool false)] w36 _ .normal from ?_) za (zh.sub ⟨rfl, rfl, rfl, rfl, rfl, rfl, rfl, rfl, rfl, trivial⟩)
    refine WE.next ?_
    refine WC.ret ?_
    refine WE.ret1 rfl rfl ?_
    have hb38 : Below w.heap.size w w36 := (bstep hb32 hb37)
    exact ⟨_, rfl, congrArg Value.bool (by simp), hb38⟩

theorem finds_any (p t : T) (w : World) (u v : Value) (hp : IsT w p u) (ht : IsT w t v) (hzp : p.size ≤ 4294967296) (hzt : t.size ≤ 4294967296) : Calls Try.prog 3 #[u, v] w (Ret fun v' w' => v' = .bool true ∧ Below w.heap.size w w') := by
  by_cases hok : mOk p t [] = true
  · exact finds_yes p t w u v hp ht hzp hzt hok
  · exact finds_no p t w u v hp ht hzp hzt hok

end Go.Proofs.Ytcmfjnadjddboaa
