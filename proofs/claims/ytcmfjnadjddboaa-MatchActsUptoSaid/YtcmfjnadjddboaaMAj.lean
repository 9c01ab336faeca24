/- Regions that draw their order: one in which a state is kept and some blocks may be written; one with two new blocks and the stores into them. -/
import Derived.Test.YtcmfjnadjddboaaMAf
import Derived.Test.YtcmfjnadjddboaaMAi
import Derived.Test.YtcmfjnadjddboaaMAa
import Derived.WalkKit
import Derived.ProofKit
import Derived.JoinedCond
import Derived.OpenShut
import Derived.Test.YtcmfjnadjddboaaMAc

/- The walks through the laws MatchNil and MatchFinds. -/
namespace Go.Proofs.Ytcmfjnadjddboaa
open Go.RowKit Go
set_option linter.unusedVariables false
set_option linter.unusedSimpArgs false

set_option maxRecDepth 100000 in
theorem termNil (p t : T) (w : World) (u v : Value) (hp : IsT w p u) (ht : IsT w t v) (hzp : p.size ≤ 4294967296) (hzt : t.size ≤ 4294967296) : Calls Try.prog 15 #[.pointer none, u, v] w (Ret fun v' w' => v' = .bool false ∧ Below w.heap.size w w') := by
  have hp0 := hp
  have ht0 := ht
  obtain ⟨hfp, pa0, pc0, rfl, _, _, _⟩ := hp.form
  obtain ⟨hft, ta0, tc0, rfl, _, _, _⟩ := ht.form
  refine Calls.walk (l := [.pointer none, .agg #[.int .i64 p.f, .slice pa0 p.args.length pc0], .agg #[.int .i64 t.f, .slice ta0 t.args.length tc0]]) Try.func15 rfl (by kernel_rfl) ?_
  refine WC.sub (K' := [(0, .pointer none), (1, .agg #[.int .i64 p.f, .slice pa0 p.args.length pc0]), (2, .agg #[.int .i64 t.f, .slice ta0 t.args.length tc0])]) ⟨rfl, rfl, rfl, trivial⟩ ?_
  refine WC.seq ?_
  refine WC.region ?_
  refine WL.step (post := NewBlk w 24 #[.int .i64 p.f, .slice pa0 p.args.length pc0]) rfl rfl rfl (fun za zC zh zk => box_24 rfl (zh.ev rfl) (zk _ _ (newBlk _ _ _))) ?_
  rintro _ w1 ⟨g2, rfl, hg3, hB4, hb5, hz6⟩
  have hl7 : w.heap.size ≤ g2 := by omega
  refine WL.step (post := NewBlk w1 24 #[.int .i64 t.f, .slice ta0 t.args.length tc0]) rfl rfl rfl (fun za zC zh zk => box_24 rfl (zh.ev rfl) (zk _ _ (newBlk _ _ _))) ?_
  rintro _ w8 ⟨g9, rfl, hg10, hB11, hb12, hz13⟩
  have hl14 : g2 < g9 := by have z1 := hB4.lt; omega
  have hl15 : w.heap.size ≤ g9 := by have z2 := (hb5).size; omega
  refine WL.val (.bool false) rfl rfl rfl (fun za zC zh zk => wp_assign rfl (zh.ev rfl) zk) ?_
  refine WL.nil (WE.sub (K' := [(0, .pointer none), (1, .agg #[.int .i64 p.f, .slice pa0 p.args.length pc0]), (2, .agg #[.int .i64 t.f, .slice ta0 t.args.length tc0]), (4, .pointer (some ⟨g2, 0, none⟩)), (5, .pointer (some ⟨g9, 0, none⟩)), (6, .bool false)]) ⟨rfl, rfl, rfl, rfl, rfl, rfl, trivial⟩ ?_)
  refine WE.next ?_
  refine WC.scope rfl ?_
  refine WC.seq ?_
  refine WC.seq ?_
  refine WC.opt [(true, .val (.pointer none)), (true, .val (.bool true)), (true, .val (.bool true)), ((true && !true), .val undef), ((true && !true), .val undef), (true, .val (.bool true)), (true, .val (.bool true)), ((true && !true), .val undef), ((true && !true), .val undef), (true, .val (.bool true))] [(0, .pointer none), (1, .agg #[.int .i64 p.f, .slice pa0 p.args.length pc0]), (2, .agg #[.int .i64 t.f, .slice ta0 t.args.length tc0]), (4, .pointer (some ⟨g2, 0, none⟩)), (5, .pointer (some ⟨g9, 0, none⟩)), (6, .bool false)] ⟨rfl, rfl, rfl, rfl, rfl, rfl, trivial⟩ (by kernel_rfl) (by kernel_rfl) (by kernel_rfl) ?_ ?_
  · refine ⟨⟨true, .none rfl, fun h w => optUndef h, fun zβ za zw zc => ?_⟩, ?_⟩
    · exact wp_move rfl (zc.kn.ev rfl) ⟨_, rfl, Below.refl _ _, optDef zβ rfl⟩
    refine ⟨⟨true, .none rfl, fun h w => optUndef h, fun zβ za zw zc => ?_⟩, ?_⟩
    · exact eqln_33 rfl ((show za.eval (.tmp 14) = za.tmps.getD 14 undef from rfl).trans (optVal (zc.dep 0 14 (by kernel_rfl)) rfl rfl)) (zc.kn.ev rfl) ⟨_, rfl, Below.refl _ _, optDef zβ rfl⟩
    refine ⟨⟨true, .none rfl, fun h w => optUndef h, fun zβ za zw zc => ?_⟩, ?_⟩
    · exact wp_move rfl ((show za.eval (.tmp 15) = za.tmps.getD 15 undef from rfl).trans (optVal (zc.dep 1 15 (by kernel_rfl)) rfl rfl)) ⟨_, rfl, Below.refl _ _, optDef zβ rfl⟩
    refine ⟨⟨(true && !true), .no (c := true) (d := true) rfl (fun v w h => h), fun h w => optUndef h, fun zβ za zw zc => ?_⟩, ?_⟩
    · simp at zβ
    refine ⟨⟨(true && !true), .no (c := true) (d := true) rfl (fun v w h => h), fun h w => optUndef h, fun zβ za zw zc => ?_⟩, ?_⟩
    · simp at zβ
    refine ⟨⟨true, .none rfl, fun h w => optUndef h, fun zβ za zw zc => ?_⟩, ?_⟩
    · exact wp_pickT rfl ((show za.eval (.tmp 16) = za.tmps.getD 16 undef from rfl).trans (optVal (zc.dep 2 16 (by kernel_rfl)) rfl rfl)) (zc.kn.ev rfl) ⟨_, rfl, Below.refl _ _, optDef zβ rfl⟩
    refine ⟨⟨true, .none rfl, fun h w => optUndef h, fun zβ za zw zc => ?_⟩, ?_⟩
    · exact wp_move rfl ((show za.eval (.tmp 19) = za.tmps.getD 19 undef from rfl).trans (optVal (zc.dep 5 19 (by kernel_rfl)) rfl rfl)) ⟨_, rfl, Below.refl _ _, optDef zβ rfl⟩
    refine ⟨⟨(true && !true), .no (c := true) (d := true) rfl (fun v w h => h), fun h w => optUndef h, fun zβ za zw zc => ?_⟩, ?_⟩
    · simp at zβ
    refine ⟨⟨(true && !true), .no (c := true) (d := true) rfl (fun v w h => h), fun h w => optUndef h, fun zβ za zw zc => ?_⟩, ?_⟩
    · simp at zβ
    refine ⟨⟨true, .none rfl, fun h w => optUndef h, fun zβ za zw zc => ?_⟩, ?_⟩
    · exact wp_pickT rfl ((show za.eval (.tmp 20) = za.tmps.getD 20 undef from rfl).trans (optVal (zc.dep 6 20 (by kernel_rfl)) rfl rfl)) (zc.kn.ev rfl) ⟨_, rfl, Below.refl _ _, optDef zβ rfl⟩
    exact trivial
  · intro za w16 zh hb17 zu
    have zh := zh.cons (d := 23) (v := .bool true) (optVal (zu 9 23 (by kernel_rfl)) rfl rfl)
    clear zu
    refine (show WE _ [(0, .pointer none), (1, .agg #[.int .i64 p.f, .slice pa0 p.args.length pc0]), (2, .agg #[.int .i64 t.f, .slice ta0 t.args.length tc0]), (4, .pointer (some ⟨g2, 0, none⟩)), (5, .pointer (some ⟨g9, 0, none⟩)), (6, .bool false), (23, .bool true)] w16 _ .normal from ?_) za (zh.sub ⟨rfl, rfl, rfl, rfl, rfl, rfl, rfl, trivial⟩)
    refine WE.next ?_
    refine WC.condT rfl rfl ?_
    refine WC.seq ?_
    refine WC.region ?_
    refine WL.val (.bool false) rfl rfl rfl (fun za zC zh zk => wp_assign rfl (zh.ev rfl) zk) ?_
    refine WL.nil (WE.sub (K' := [(0, .pointer none), (1, .agg #[.int .i64 p.f, .slice pa0 p.args.length pc0]), (2, .agg #[.int .i64 t.f, .slice ta0 t.args.length tc0]), (4, .pointer (some ⟨g2, 0, none⟩)), (5, .pointer (some ⟨g9, 0, none⟩)), (6, .bool false), (23, .bool true)]) ⟨rfl, rfl, rfl, rfl, rfl, rfl, rfl, trivial⟩ ?_)
    refine WE.next ?_
    refine WC.ret ?_
    refine WE.thenRet ?_
    refine WE.scopeRet ?_
    refine WE.ret1 rfl rfl ?_
    have hb18 : Below w.heap.size w w16 := (bstep (bstep hb5 hb12) hb17)
    exact ⟨_, rfl, rfl, hb18⟩

theorem wp_ifc {P : Program} {w : World} {a : Act} {K : Act → World → Prop} {Q : Exit → Act → World → Prop} {o : Oper} {x : Operand} {v : Value} {t e : TypeId} (ht : P.underlying t = some (.pointer e)) (ho : o.op = .makeInterface t x) (hx : a.eval x = v) (hK : K (a.put o.dst (.iface t v)) w) : o.wp P a w K Q := by
  have h1 : (Instr.makeInterface t v).run P w = .ok (.iface t v) w := by simp [Instr.makeInterface, run_underlying ht, go_sem]
  unfold Oper.wp execOp
  simp only [ho, hx, Sem.run_bind, h1, Result.andThen_ok]
  exact hK
set_option maxRecDepth 100000 in
theorem litNil (p l : Li) (tu : Bool) (w : World) (u v : Value) (hp : IsLi w p u) (hl : IsLi w l v) : Calls Try.prog 17 #[.pointer none, u, v, .bool tu] w (Ret fun v' w' => v' = .bool false ∧ Below w.heap.size w w') := by
  obtain ⟨a1, a2, c1, c2, rfl, _, _⟩ := hp.form
  obtain ⟨a3, a4, c3, c4, rfl, _, _⟩ := hl.form
  refine Calls.walk (l := [.pointer none, .agg #[.bool p.neg, .int .i64 p.l.f, .slice a1 p.l.args.length c1, .int .i64 p.r.f, .slice a2 p.r.args.length c2], .agg #[.bool l.neg, .int .i64 l.l.f, .slice a3 l.l.args.length c3, .int .i64 l.r.f, .slice a4 l.r.args.length c4], .bool tu]) Try.func17 rfl (by kernel_rfl) ?_
  refine WC.sub (K' := [(0, .pointer none), (1, .agg #[.bool p.neg, .int .i64 p.l.f, .slice a1 p.l.args.length c1, .int .i64 p.r.f, .slice a2 p.r.args.length c2]), (2, .agg #[.bool l.neg, .int .i64 l.l.f, .slice a3 l.l.args.length c3, .int .i64 l.r.f, .slice a4 l.r.args.length c4]), (3, .bool tu)]) ⟨rfl, rfl, rfl, rfl, trivial⟩ ?_
  refine WC.seq ?_
  refine WC.region ?_
  refine WL.step (post := NewBlk w 41 #[.bool p.neg, .int .i64 p.l.f, .slice a1 p.l.args.length c1, .int .i64 p.r.f, .slice a2 p.r.args.length c2]) rfl rfl rfl (fun za zC zh zk => box_41 rfl (zh.ev rfl) (zk _ _ (newBlk _ _ _))) ?_
  rintro _ w1 ⟨g2, rfl, hg3, hB4, hb5, hz6⟩
  have hl7 : w.heap.size ≤ g2 := by omega
  refine WL.step (post := NewBlk w1 41 #[.bool l.neg, .int .i64 l.l.f, .slice a3 l.l.args.length c3, .int .i64 l.r.f, .slice a4 l.r.args.length c4]) rfl rfl rfl (fun za zC zh zk => box_41 rfl (zh.ev rfl) (zk _ _ (newBlk _ _ _))) ?_
  rintro _ w8 ⟨g9, rfl, hg10, hB11, hb12, hz13⟩
  have hl14 : g2 < g9 := by have z1 := hB4.lt; omega
  have hl15 : w.heap.size ≤ g9 := by have z2 := (hb5).size; omega
  refine WL.val (.bool false) rfl rfl rfl (fun za zC zh zk => wp_assign rfl (zh.ev rfl) zk) ?_
  refine WL.nil (WE.sub (K' := [(0, .pointer none), (1, .agg #[.bool p.neg, .int .i64 p.l.f, .slice a1 p.l.args.length c1, .int .i64 p.r.f, .slice a2 p.r.args.length c2]), (2, .agg #[.bool l.neg, .int .i64 l.l.f, .slice a3 l.l.args.length c3, .int .i64 l.r.f, .slice a4 l.r.args.length c4]), (3, .bool tu), (5, .pointer (some ⟨g2, 0, none⟩)), (6, .pointer (some ⟨g9, 0, none⟩)), (8, .bool false)]) ⟨rfl, rfl, rfl, rfl, rfl, rfl, rfl, trivial⟩ ?_)
  refine WE.next ?_
  refine WC.seq ?_
  refine WC.region ?_
  refine WL.val (.pointer none) rfl rfl rfl (fun za zC zh zk => wp_move rfl (zh.ev rfl) zk) ?_
  refine WL.val (.bool false) rfl rfl rfl (fun za zC zh zk => neqn_33 rfl (zh.ev rfl) (zh.ev rfl) zk) ?_
  refine WL.val (.bool false) rfl rfl rfl (fun za zC zh zk => wp_move rfl (zh.ev rfl) zk) ?_
  refine WL.skip (d := 11) rfl rfl rfl rfl rfl ?_
  refine WL.skip (d := 11) rfl rfl rfl rfl rfl ?_
  refine WL.skip (d := 11) rfl rfl rfl rfl rfl ?_
  refine WL.skip (d := 11) rfl rfl rfl rfl rfl ?_
  refine WL.skip (d := 11) rfl rfl rfl rfl rfl ?_
  refine WL.skip (d := 11) rfl rfl rfl rfl rfl ?_
  refine WL.val (.bool false) rfl rfl rfl (fun za zC zh zk => wp_pickF rfl (zh.ev rfl) (zh.ev rfl) zk) ?_
  refine WL.val (.bool false) rfl rfl rfl (fun za zC zh zk => wp_assign rfl (zh.ev rfl) zk) ?_
  refine WL.nil (WE.sub (K' := [(0, .pointer none), (1, .agg #[.bool p.neg, .int .i64 p.l.f, .slice a1 p.l.args.length c1, .int .i64 p.r.f, .slice a2 p.r.args.length c2]), (2, .agg #[.bool l.neg, .int .i64 l.l.f, .slice a3 l.l.args.length c3, .int .i64 l.r.f, .slice a4 l.r.args.length c4]), (3, .bool tu), (5, .pointer (some ⟨g2, 0, none⟩)), (6, .pointer (some ⟨g9, 0, none⟩)), (8, .bool false)]) ⟨rfl, rfl, rfl, rfl, rfl, rfl, rfl, trivial⟩ ?_)
  refine WE.next ?_
  refine WC.ret ?_
  refine WE.ret1 rfl rfl ?_
  have hb16 : Below w.heap.size w w8 := (bstep hb5 hb12)
  exact ⟨_, rfl, rfl, hb16⟩

set_option maxRecDepth 100000 in
theorem mlit_any {g : Nat} {st : List Bd} {C A : Nat → Prop} (p l : Li) (tu : Bool) (w : World) (u v : Value) (h : MatAt w g st C) (hp : LiIn A w p u) (hl : LiIn A w l v) (hA : ∀ b, A b → ¬ C b) (hp1 : p.l.size ≤ 4294967296) (hp2 : p.r.size ≤ 4294967296) (hl1 : l.l.size ≤ 4294967296) (hl2 : l.r.size ≤ 4294967296) (hn : st.length + p.l.size + p.r.size ≤ 1099511627776) :
    Calls Try.prog 17 #[.pointer (some ⟨g, 0, none⟩), u, v, .bool tu] w (Ret fun v' w' => (∃ C', v' = .bool (lOk p l tu st) ∧ MatAt w' g (lTo p l tu st) C' ∧ ∀ b, C' b → C b ∨ w.heap.size ≤ b) ∧ Chg C w w') := by
  have hClt := h.clt
  obtain ⟨a1, a2, c1, c2, rfl⟩ := hp.parts
  obtain ⟨a3, a4, c3, c4, rfl⟩ := hl.parts
  refine Calls.walk (l := [.pointer (some ⟨g, 0, none⟩), .agg #[.bool p.neg, .int .i64 p.l.f, .slice a1 p.l.args.length c1, .int .i64 p.r.f, .slice a2 p.r.args.length c2], .agg #[.bool l.neg, .int .i64 l.l.f, .slice a3 l.l.args.length c3, .int .i64 l.r.f, .slice a4 l.r.args.length c4], .bool tu]) Try.func17 rfl (by kernel_rfl) ?_
  refine WC.sub (K' := [(0, .pointer (some ⟨g, 0, none⟩)), (1, .agg #[.bool p.neg, .int .i64 p.l.f, .slice a1 p.l.args.length c1, .int .i64 p.r.f, .slice a2 p.r.args.length c2]), (2, .agg #[.bool l.neg, .int .i64 l.l.f, .slice a3 l.l.args.length c3, .int .i64 l.r.f, .slice a4 l.r.args.length c4]), (3, .bool tu)]) ⟨rfl, rfl, rfl, rfl, trivial⟩ ?_
  refine WC.seq ?_
  refine WC.region ?_
  refine WL.step (post := NewBlk w 41 #[.bool p.neg, .int .i64 p.l.f, .slice a1 p.l.args.length c1, .int .i64 p.r.f, .slice a2 p.r.args.length c2]) rfl rfl rfl (fun za zC zh zk => box_41 rfl (zh.ev rfl) (zk _ _ (newBlk _ _ _))) ?_
  rintro _ w1 ⟨g2, rfl, hg3, hB4, hb5, hz6⟩
  have hl7 : w.heap.size ≤ g2 := by omega
  refine WL.step (post := NewBlk w1 41 #[.bool l.neg, .int .i64 l.l.f, .slice a3 l.l.args.length c3, .int .i64 l.r.f, .slice a4 l.r.args.length c4]) rfl rfl rfl (fun za zC zh zk => box_41 rfl (zh.ev rfl) (zk _ _ (newBlk _ _ _))) ?_
  rintro _ w8 ⟨g9, rfl, hg10, hB11, hb12, hz13⟩
  have hl14 : g2 < g9 := by have z1 := hB4.lt; omega
  have hl15 : w.heap.size ≤ g9 := by have z2 := (hb5).size; omega
  refine WL.val (.bool false) rfl rfl rfl (fun za zC zh zk => wp_assign rfl (zh.ev rfl) zk) ?_
  refine WL.nil (WE.sub (K' := [(0, .pointer (some ⟨g, 0, none⟩)), (1, .agg #[.bool p.neg, .int .i64 p.l.f, .slice a1 p.l.args.length c1, .int .i64 p.r.f, .slice a2 p.r.args.length c2]), (2, .agg #[.bool l.neg, .int .i64 l.l.f, .slice a3 l.l.args.length c3, .int .i64 l.r.f, .slice a4 l.r.args.length c4]), (3, .bool tu), (5, .pointer (some ⟨g2, 0, none⟩)), (6, .pointer (some ⟨g9, 0, none⟩)), (8, .bool false)]) ⟨rfl, rfl, rfl, rfl, rfl, rfl, rfl, trivial⟩ ?_)
  refine WE.next ?_
  refine WC.seq ?_
  refine WC.region ?_
  refine WL.val (.pointer (some ⟨g, 0, none⟩)) rfl rfl rfl (fun za zC zh zk => wp_move rfl (zh.ev rfl) zk) ?_
  refine WL.val (.bool true) rfl rfl rfl (fun za zC zh zk => neqp_33 rfl (zh.ev rfl) (zh.ev rfl) zk) ?_
  refine WL.val (.bool true) rfl rfl rfl (fun za zC zh zk => wp_move rfl (zh.ev rfl) zk) ?_
  refine WL.want (d := 11) rfl rfl rfl ?_
  refine WL.val (.pointer (some ⟨g, 0, none⟩)) rfl rfl rfl (fun za zC zh zk => wp_move rfl (zh.ev rfl) zk) ?_
  refine WL.want (d := 11) rfl rfl rfl ?_
  refine WL.val (.iface 33 (.pointer (some ⟨g, 0, none⟩))) rfl rfl rfl (fun za zC zh zk => wp_ifc Try.underlying33 rfl (zh.ev rfl) zk) ?_
  refine WL.want (d := 11) rfl rfl rfl ?_
  have hB16 := hB4.below hb12
  refine WL.val (.agg #[.bool p.neg, .int .i64 p.l.f, .slice a1 p.l.args.length c1, .int .i64 p.r.f, .slice a2 p.r.args.length c2]) rfl rfl rfl (fun za zC zh zk => ld_41 rfl (zh.ev rfl) ((hB16.cell 0).trans rfl) ((hB16.cell 1).trans rfl) ((hB16.cell 2).trans rfl) ((hB16.cell 3).trans rfl) ((hB16.cell 4).trans rfl) zk) ?_
  refine WL.want (d := 11) rfl rfl rfl ?_
  refine WL.val (.agg #[.bool l.neg, .int .i64 l.l.f, .slice a3 l.l.args.length c3, .int .i64 l.r.f, .slice a4 l.r.args.length c4]) rfl rfl rfl (fun za zC zh zk => ld_41 rfl (zh.ev rfl) ((hB11.cell 0).trans rfl) ((hB11.cell 1).trans rfl) ((hB11.cell 2).trans rfl) ((hB11.cell 3).trans rfl) ((hB11.cell 4).trans rfl) zk) ?_
  refine WL.want (d := 11) rfl rfl rfl ?_
  refine WL.val (.bool tu) rfl rfl rfl (fun za zC zh zk => wp_move rfl (zh.ev rfl) zk) ?_
  refine WL.want (d := 11) rfl rfl rfl ?_
  have hb17 : Below w.heap.size w w8 := (bstep hb5 hb12)
  refine WL.call rfl rfl rfl (fun za zh zC => wp_call (by kernel_rfl) rfl (hv4 (zh.ev rfl) (zh.ev rfl) (zh.ev rfl) (zh.ev rfl))) (lit_any p l tu _ _ _ (h.below hb17) (hp.keep (fun p x _ hx => bkeeps hb17 p x hx)) (hl.keep (fun p x _ hx => bkeeps hb17 p x hx)) hA hp1 hp2 hl1 hl2 hn) ?_
  rintro _ w18 ⟨⟨C2, rfl, hM2, hC2⟩, hcL⟩
  refine WL.val (.bool ((lOk p l tu st))) rfl rfl rfl (fun za zC zh zk => wp_pickT rfl (zh.ev rfl) (zh.ev rfl) zk) ?_
  refine WL.val (.bool ((lOk p l tu st))) rfl rfl rfl (fun za zC zh zk => wp_assign rfl (zh.ev rfl) zk) ?_
  refine WL.nil (WE.sub (K' := [(0, .pointer (some ⟨g, 0, none⟩)), (1, .agg #[.bool p.neg, .int .i64 p.l.f, .slice a1 p.l.args.length c1, .int .i64 p.r.f, .slice a2 p.r.args.length c2]), (2, .agg #[.bool l.neg, .int .i64 l.l.f, .slice a3 l.l.args.length c3, .int .i64 l.r.f, .slice a4 l.r.args.length c4]), (3, .bool tu), (5, .pointer (some ⟨g2, 0, none⟩)), (6, .pointer (some ⟨g9, 0, none⟩)), (8, .bool ((lOk p l tu st)))]) ⟨rfl, rfl, rfl, rfl, rfl, rfl, rfl, trivial⟩ ?_)
  refine WE.next ?_
  refine WC.ret ?_
  refine WE.ret1 rfl rfl ?_
  exact ⟨_, rfl, ⟨C2, rfl, hM2, fun b q => (hC2 b q).imp id (fun q => by have z := (hb17).size; omega)⟩, (Chg.refl C w).trans2 (.ofBelow (S := fun _ => False) hb17) (fun _ _ q => q.elim) |>.trans2 hcL (fun _ _ q => q)⟩

theorem rsubSame_yes (s1 s2 : List Bd) (w : World) (pa pb : Option Addr) (ca cb : Nat) (h1 : s1.length ≤ maxLen) (ha : IsBs w s1 pa) (hb : IsBs w s2 pb) (he : s1 = s2) : Calls Try.prog 10 #[.slice pa s1.length ca, .slice pb s2.length cb] w (Ret fun v' w' => v' = .bool true ∧ Below w.heap.size w w') := by
  have z := rsubSame_any s1 s2 w pa pb ca cb h1 ha hb
  rwa [show subSame s1 s2 = true by simp [subSame, he]] at z
set_option maxRecDepth 100000 in
theorem nil_any (n : Int) (p t : T) (w : World) (u v : Value) (hp : IsT w p u) (ht : IsT w t v) (hzp : p.size ≤ 4294967296) (hzt : t.size ≤ 4294967296) : Calls Try.prog 5 #[u, v, .int .i64 n] w (Ret fun v' w' => v' = .bool true ∧ Below w.heap.size w w') := by
  have hp0 := hp
  have ht0 := ht
  obtain ⟨hfp, pa0, pc0, rfl, _, _, _⟩ := hp.form
  obtain ⟨hft, ta0, tc0, rfl, _, _, _⟩ := ht.form
  have hzT : IsT w (.mk 0 []) (.agg #[.int .i64 0, .slice none 0 0]) := InT.isT (S := fun _ => True) (inT_leaf (i64_lit (by omega)))
  refine Calls.walk (l := [.agg #[.int .i64 p.f, .slice pa0 p.args.length pc0], .agg #[.int .i64 t.f, .slice ta0 t.args.length tc0], .int .i64 n]) Try.func5 rfl (by kernel_rfl) ?_
  refine WC.sub (K' := [(0, .agg #[.int .i64 p.f, .slice pa0 p.args.length pc0]), (1, .agg #[.int .i64 t.f, .slice ta0 t.args.length tc0]), (2, .int .i64 n)]) ⟨rfl, rfl, rfl, trivial⟩ ?_
  refine WC.seq ?_
  refine WC.region ?_
  refine WL.step (post := NewBlk w 24 #[.int .i64 p.f, .slice pa0 p.args.length pc0]) rfl rfl rfl (fun za zC zh zk => box_24 rfl (zh.ev rfl) (zk _ _ (newBlk _ _ _))) ?_
  rintro _ w1 ⟨g2, rfl, hg3, hB4, hb5, hz6⟩
  have hl7 : w.heap.size ≤ g2 := by omega
  refine WL.step (post := NewBlk w1 24 #[.int .i64 t.f, .slice ta0 t.args.length tc0]) rfl rfl rfl (fun za zC zh zk => box_24 rfl (zh.ev rfl) (zk _ _ (newBlk _ _ _))) ?_
  rintro _ w8 ⟨g9, rfl, hg10, hB11, hb12, hz13⟩
  have hl14 : g2 < g9 := by have z1 := hB4.lt; omega
  have hl15 : w.heap.size ≤ g9 := by have z2 := (hb5).size; omega
  refine WL.val (.bool false) rfl rfl rfl (fun za zC zh zk => wp_assign rfl (zh.ev rfl) zk) ?_
  refine WL.nil (WE.sub (K' := [(0, .agg #[.int .i64 p.f, .slice pa0 p.args.length pc0]), (1, .agg #[.int .i64 t.f, .slice ta0 t.args.length tc0]), (2, .int .i64 n), (3, .pointer (some ⟨g2, 0, none⟩)), (4, .pointer (some ⟨g9, 0, none⟩)), (6, .bool false)]) ⟨rfl, rfl, rfl, rfl, rfl, rfl, trivial⟩ ?_)
  refine WE.next ?_
  refine WC.seq ?_
  refine WC.region ?_
  refine WL.val (.pointer none) rfl rfl rfl (fun za zC zh zk => wp_assign rfl (zh.ev rfl) zk) ?_
  refine WL.nil (WE.sub (K' := [(0, .agg #[.int .i64 p.f, .slice pa0 p.args.length pc0]), (1, .agg #[.int .i64 t.f, .slice ta0 t.args.length tc0]), (2, .int .i64 n), (3, .pointer (some ⟨g2, 0, none⟩)), (4, .pointer (some ⟨g9, 0, none⟩)), (6, .bool false), (7, .pointer none)]) ⟨rfl, rfl, rfl, rfl, rfl, rfl, rfl, trivial⟩ ?_)
  refine WE.next ?_
  refine WC.seq ?_
  refine WC.region ?_
  refine WL.val (.pointer none) rfl rfl rfl (fun za zC zh zk => wp_move rfl (zh.ev rfl) zk) ?_
  refine WL.val (.int .i64 n) rfl rfl rfl (fun za zC zh zk => wp_move rfl (zh.ev rfl) zk) ?_
  refine WL.call rfl rfl rfl (fun za zh zC => wp_call (by kernel_rfl) rfl (hv2 (zh.ev rfl) (zh.ev rfl))) (backNil n _) ?_
  rintro _ w17 hq16
  refine WL.nil (WE.sub (K' := [(0, .agg #[.int .i64 p.f, .slice pa0 p.args.length pc0]), (1, .agg #[.int .i64 t.f, .slice ta0 t.args.length tc0]), (2, .int .i64 n), (3, .pointer (some ⟨g2, 0, none⟩)), (4, .pointer (some ⟨g9, 0, none⟩)), (6, .bool false), (7, .pointer none)]) ⟨rfl, rfl, rfl, rfl, rfl, rfl, rfl, trivial⟩ ?_)
  refine WE.next ?_
  refine WC.seq ?_
  refine WC.region ?_
  refine WL.val (.pointer none) rfl rfl rfl (fun za zC zh zk => wp_move rfl (zh.ev rfl) zk) ?_
  have hb19 : Below w1.heap.size w1 w17 := (bstep hb12 hq16)
  have hB18 := hB4.below hb19
  refine WL.val (.agg #[.int .i64 p.f, .slice pa0 p.args.length pc0]) rfl rfl rfl (fun za zC zh zk => ld_24 rfl (zh.ev rfl) ((hB18.cell 0).trans rfl) ((hB18.cell 1).trans rfl) zk) ?_
  have hB20 := hB11.below hq16
  refine WL.val (.agg #[.int .i64 t.f, .slice ta0 t.args.length tc0]) rfl rfl rfl (fun za zC zh zk => ld_24 rfl (zh.ev rfl) ((hB20.cell 0).trans rfl) ((hB20.cell 1).trans rfl) zk) ?_
  have hb21 : Below w.heap.size w w17 := (bstep hb5 hb19)
  refine WL.call rfl rfl rfl (fun za zh zC => wp_call (by kernel_rfl) rfl (hv3 (zh.ev rfl) (zh.ev rfl) (zh.ev rfl))) (termNil p t _ _ _ (IsT.below hb21 hp) (IsT.below hb21 ht) hzp hzt) ?_
  rintro _ w23 ⟨rfl, hq22⟩
  refine WL.val (.bool true) rfl rfl rfl (fun za zC zh zk => wp_not rfl (zh.ev rfl) zk) ?_
  refine WL.val (.bool true) rfl rfl rfl (fun za zC zh zk => wp_move rfl (zh.ev rfl) zk) ?_
  refine WL.want (d := 16) rfl rfl rfl ?_
  refine WL.val (.pointer none) rfl rfl rfl (fun za zC zh zk => wp_move rfl (zh.ev rfl) zk) ?_
  refine WL.want (d := 16) rfl rfl rfl ?_
  have hB24 := hB18.below hq22
  refine WL.val (.agg #[.int .i64 p.f, .slice pa0 p.args.length pc0]) rfl rfl rfl (fun za zC zh zk => ld_24 rfl (zh.ev rfl) ((hB24.cell 0).trans rfl) ((hB24.cell 1).trans rfl) zk) ?_
  refine WL.want (d := 16) rfl rfl rfl ?_
  refine WL.val (.agg #[.bool false, .int .i64 p.f, .slice pa0 p.args.length pc0, .int .i64 0, .slice none 0 0]) rfl rfl rfl (fun za zC zh zk => build_41_1 rfl (zh.ev rfl) zk) ?_
  refine WL.want (d := 16) rfl rfl rfl ?_
  have hB25 := hB20.below hq22
  refine WL.val (.agg #[.int .i64 t.f, .slice ta0 t.args.length tc0]) rfl rfl rfl (fun za zC zh zk => ld_24 rfl (zh.ev rfl) ((hB25.cell 0).trans rfl) ((hB25.cell 1).trans rfl) zk) ?_
  refine WL.want (d := 16) rfl rfl rfl ?_
  refine WL.val (.agg #[.bool false, .int .i64 t.f, .slice ta0 t.args.length tc0, .int .i64 0, .slice none 0 0]) rfl rfl rfl (fun za zC zh zk => build_41_1 rfl (zh.ev rfl) zk) ?_
  refine WL.want (d := 16) rfl rfl rfl ?_
  have hb26 : Below w.heap.size w w23 := (bstep hb21 hq22)
  refine WL.call rfl rfl rfl (fun za zh zC => wp_call (by kernel_rfl) rfl (hv4 (zh.ev rfl) (zh.ev rfl) (zh.ev rfl) (zh.ev rfl))) (litNil ⟨false, p, .mk 0 []⟩ ⟨false, t, .mk 0 []⟩ false _ _ _ (isLi_mk (x := ⟨false, p, .mk 0 []⟩) (IsT.below hb26 hp) (IsT.below hb26 hzT)) (isLi_mk (x := ⟨false, t, .mk 0 []⟩) (IsT.below hb26 ht) (IsT.below hb26 hzT))) ?_
  rintro _ w28 ⟨rfl, hq27⟩
  refine WL.want (d := 16) rfl rfl rfl ?_
  refine WL.val (.bool true) rfl rfl rfl (fun za zC zh zk => wp_not rfl (zh.ev rfl) zk) ?_
  refine WL.val (.bool true) rfl rfl rfl (fun za zC zh zk => wp_pickT rfl (zh.ev rfl) (zh.ev rfl) zk) ?_
  refine WL.val (.bool true) rfl rfl rfl (fun za zC zh zk => wp_move rfl (zh.ev rfl) zk) ?_
  refine WL.want (d := 25) rfl rfl rfl ?_
  refine WL.val (.pointer none) rfl rfl rfl (fun za zC zh zk => wp_move rfl (zh.ev rfl) zk) ?_
  refine WL.want (d := 25) rfl rfl rfl ?_
  refine WL.call rfl rfl rfl (fun za zh zC => wp_call (by kernel_rfl) rfl (hv1 (zh.ev rfl))) (markNil _) ?_
  rintro _ w30 ⟨rfl, hq29⟩
  refine WL.want (d := 25) rfl rfl rfl ?_
  refine WL.val (.bool true) rfl rfl rfl (fun za zC zh zk => eql_3 rfl (zh.ev rfl) (zh.ev rfl) zk) ?_
  refine WL.val (.bool true) rfl rfl rfl (fun za zC zh zk => wp_pickT rfl (zh.ev rfl) (zh.ev rfl) zk) ?_
  refine WL.val (.bool true) rfl rfl rfl (fun za zC zh zk => wp_move rfl (zh.ev rfl) zk) ?_
  refine WL.want (d := 30) rfl rfl rfl ?_
  refine WL.val (.pointer none) rfl rfl rfl (fun za zC zh zk => wp_move rfl (zh.ev rfl) zk) ?_
  refine WL.want (d := 30) rfl rfl rfl ?_
  refine WL.call rfl rfl rfl (fun za zh zC => wp_call (by kernel_rfl) rfl (hv1 (zh.ev rfl))) (msubNil _) ?_
  rintro _ w32 ⟨rfl, hq31⟩
  refine WL.want (d := 30) rfl rfl rfl ?_
  refine WL.val (.int .i64 0) rfl rfl rfl (fun za zC zh zk => len_26 rfl (zh.ev rfl) zk) ?_
  refine WL.want (d := 30) rfl rfl rfl ?_
  refine WL.val (.bool true) rfl rfl rfl (fun za zC zh zk => eql_3 rfl (zh.ev rfl) (zh.ev rfl) zk) ?_
  refine WL.val (.bool true) rfl rfl rfl (fun za zC zh zk => wp_pickT rfl (zh.ev rfl) (zh.ev rfl) zk) ?_
  refine WL.val (.bool true) rfl rfl rfl (fun za zC zh zk => wp_move rfl (zh.ev rfl) zk) ?_
  refine WL.want (d := 36) rfl rfl rfl ?_
  refine WL.call rfl rfl rfl (fun za zh zC => wp_call (by kernel_rfl) rfl (hv0)) (wakes_any _) ?_
  rintro _ w34 ⟨rfl, hq33⟩
  refine WL.val (.bool true) rfl rfl rfl (fun za zC zh zk => wp_pickT rfl (zh.ev rfl) (zh.ev rfl) zk) ?_
  refine WL.val (.bool true) rfl rfl rfl (fun za zC zh zk => wp_assign rfl (zh.ev rfl) zk) ?_
  refine WL.nil (WE.sub (K' := [(0, .agg #[.int .i64 p.f, .slice pa0 p.args.length pc0]), (1, .agg #[.int .i64 t.f, .slice ta0 t.args.length tc0]), (2, .int .i64 n), (3, .pointer (some ⟨g2, 0, none⟩)), (4, .pointer (some ⟨g9, 0, none⟩)), (6, .bool true), (7, .pointer none)]) ⟨rfl, rfl, rfl, rfl, rfl, rfl, rfl, trivial⟩ ?_)
  refine WE.next ?_
  refine WC.ret ?_
  refine WE.ret1 rfl rfl ?_
  have hb35 : Below w.heap.size w w34 := (bstep (bstep (bstep (bstep hb26 hq27) hq29) hq31) hq33)
  exact ⟨_, rfl, rfl, hb35⟩

set_option maxRecDepth 100000 in
theorem finds_yes (p t : T) (w : World) (u v : Value) (hp : IsT w p u) (ht : IsT w t v) (hzp : p.size ≤ 4294967296) (hzt : t.size ≤ 4294967296) (hok :  mOk p t [] = true) : Calls Try.prog 3 #[u, v] w (Ret fun v' w' => v' = .bool true ∧ Below w.heap.size w w') := by
  have hp0 := hp
  have ht0 := ht
  obtain ⟨hfp, pa0, pc0, rfl, _, _, _⟩ := hp.form
  obtain ⟨hft, ta0, tc0, rfl, _, _, _⟩ := ht.form
  refine Calls.walk (l := [.agg #[.int .i64 p.f, .slice pa0 p.args.length pc0], .agg #[.int .i64 t.f, .slice ta0 t.args.length tc0]]) Try.func3 rfl (by kernel_rfl) ?_
  refine WC.sub (K' := [(0, .agg #[.int .i64 p.f, .slice pa0 p.args.length pc0]), (1, .agg #[.int .i64 t.f, .slice ta0 t.args.length tc0])]) ⟨rfl, rfl, trivial⟩ ?_
  refine WC.seq ?_
  refine WC.region ?_
  refine WL.step (post := NewBlk w 24 #[.int .i64 p.f, .slice pa0 p.args.length pc0]) rfl rfl rfl (fun za zC zh zk => box_24 rfl (zh.ev rfl) (zk _ _ (newBlk _ _ _))) ?_
  rintro _ w1 ⟨g2, rfl, hg3, hB4, hb5, hz6⟩
  have hl7 : w.heap.size ≤ g2 := by omega
  refine WL.step (post := NewBlk w1 24 #[.int .i64 t.f, .slice ta0 t.args.length tc0]) rfl rfl rfl (fun za zC zh zk => box_24 rfl (zh.ev rfl) (zk _ _ (newBlk _ _ _))) ?_
  rintro _ w8 ⟨g9, rfl, hg10, hB11, hb12, hz13⟩
  have hl14 : g2 < g9 := by have z1 := hB4.lt; omega
  have hl15 : w.heap.size ≤ g9 := by have z2 := (hb5).size; omega
  refine WL.val (.bool false) rfl rfl rfl (fun za zC zh zk => wp_assign rfl (zh.ev rfl) zk) ?_
  refine WL.nil (WE.sub (K' := [(0, .agg #[.int .i64 p.f, .slice pa0 p.args.length pc0]), (1, .agg #[.int .i64 t.f, .slice ta0 t.args.length tc0]), (2, .pointer (some ⟨g2, 0, none⟩)), (3, .pointer (some ⟨g9, 0, none⟩)), (4, .bool false)]) ⟨rfl, rfl, rfl, rfl, rfl, trivial⟩ ?_)
  refine WE.next ?_
  refine WC.seq ?_
  refine WC.region ?_
  have hB16 := hB4.below hb12
  refine WL.val (.agg #[.int .i64 p.f, .slice pa0 p.args.length pc0]) rfl rfl rfl (fun za zC zh zk => ld_24 rfl (zh.ev rfl) ((hB16.cell 0).trans rfl) ((hB16.cell 1).trans rfl) zk) ?_
  refine WL.val (.agg #[.int .i64 t.f, .slice ta0 t.args.length tc0]) rfl rfl rfl (fun za zC zh zk => ld_24 rfl (zh.ev rfl) ((hB11.cell 0).trans rfl) ((hB11.cell 1).trans rfl) zk) ?_
  have hb20 : Below w.heap.size w w8 := (bstep hb5 hb12)
  refine WL.call rfl rfl rfl (fun za zh zC => wp_call (by kernel_rfl) rfl (hv2 (zh.ev rfl) (zh.ev rfl))) (match_any p t _ _ _ (IsT.below hb20 hp) (IsT.below hb20 ht) hzp hzt) ?_
  rintro v17 w21 ⟨hm18, hb19⟩
  unfold MatchIs at hm18
  rw [if_pos hok] at hm18
  obtain ⟨R1, p1, c1, rfl, hR1, hN1⟩ := hm18
  refine WL.val (.tuple #[.slice p1 R1.length c1, .bool true]) rfl rfl rfl (fun za zC zh zk => wp_move rfl (zh.ev rfl) zk) ?_
  refine WL.val (.slice p1 R1.length c1) rfl rfl rfl (fun za zC zh zk => ext2_0 rfl (zh.ev rfl) zk) ?_
  refine WL.val (.bool true) rfl rfl rfl (fun za zC zh zk => ext2_1 rfl (zh.ev rfl) zk) ?_
  refine WL.val (.slice p1 R1.length c1) rfl rfl rfl (fun za zC zh zk => wp_assign rfl (zh.ev rfl) zk) ?_
  refine WL.val (.bool true) rfl rfl rfl (fun za zC zh zk => wp_assign rfl (zh.ev rfl) zk) ?_
  refine WL.nil (WE.sub (K' := [(0, .agg #[.int .i64 p.f, .slice pa0 p.args.length pc0]), (1, .agg #[.int .i64 t.f, .slice ta0 t.args.length tc0]), (2, .pointer (some ⟨g2, 0, none⟩)), (3, .pointer (some ⟨g9, 0, none⟩)), (4, .bool false), (5, .slice p1 R1.length c1), (6, .bool true)]) ⟨rfl, rfl, rfl, rfl, rfl, rfl, rfl, trivial⟩ ?_)
  refine WE.next ?_
  refine WC.seq ?_
  refine WC.region ?_
  have hB22 := hB16.below hb19
  refine WL.val (.agg #[.int .i64 p.f, .slice pa0 p.args.length pc0]) rfl rfl rfl (fun za zC zh zk => ld_24 rfl (zh.ev rfl) ((hB22.cell 0).trans rfl) ((hB22.cell 1).trans rfl) zk) ?_
  have hB23 := hB11.below hb19
  refine WL.val (.agg #[.int .i64 t.f, .slice ta0 t.args.length tc0]) rfl rfl rfl (fun za zC zh zk => ld_24 rfl (zh.ev rfl) ((hB23.cell 0).trans rfl) ((hB23.cell 1).trans rfl) zk) ?_
  have hb27 : Below w.heap.size w w21 := (bstep hb20 hb19)
  refine WL.call rfl rfl rfl (fun za zh zC => wp_call (by kernel_rfl) rfl (hv2 (zh.ev rfl) (zh.ev rfl))) (rmatch_any p t _ _ _ (IsT.below hb27 hp) (IsT.below hb27 ht) hzp hzt) ?_
  rintro v24 w28 ⟨hm25, hb26⟩
  unfold MatchIs at hm25
  rw [if_pos hok] at hm25
  obtain ⟨R2, p2, c2, rfl, hR2, hN2⟩ := hm25
  refine WL.val (.tuple #[.slice p2 R2.length c2, .bool true]) rfl rfl rfl (fun za zC zh zk => wp_move rfl (zh.ev rfl) zk) ?_
  refine WL.val (.slice p2 R2.length c2) rfl rfl rfl (fun za zC zh zk => ext2_0 rfl (zh.ev rfl) zk) ?_
  refine WL.val (.bool true) rfl rfl rfl (fun za zC zh zk => ext2_1 rfl (zh.ev rfl) zk) ?_
  refine WL.val (.slice p2 R2.length c2) rfl rfl rfl (fun za zC zh zk => wp_assign rfl (zh.ev rfl) zk) ?_
  refine WL.val (.bool true) rfl rfl rfl (fun za zC zh zk => wp_assign rfl (zh.ev rfl) zk) ?_
  refine WL.nil (WE.sub (K' := [(0, .agg #[.int .i64 p.f, .slice pa0 p.args.length pc0]), (1, .agg #[.int .i64 t.f, .slice ta0 t.args.length tc0]), (2, .pointer (some ⟨g2, 0, none⟩)), (3, .pointer (some ⟨g9, 0, none⟩)), (4, .bool false), (5, .slice p1 R1.length c1), (6, .bool true), (7, .slice p2 R2.length c2), (8, .bool true)]) ⟨rfl, rfl, rfl, rfl, rfl, rfl, rfl, rfl, rfl, trivial⟩ ?_)
  refine WE.next ?_
  refine WC.seq ?_
  have hB30 := hB22.below hb26
  have hB31 := hB23.below hb26
  have hb32 : Below w.heap.size w w28 := (bstep hb27 hb26)
  refine WC.opt [(true, .val (.bool true)), (true, .val (.bool true)), (true, .val (.bool ((true == true)))), (true, .val (.bool ((true == true)))), ((true && (true == true)), .val (.slice p1 R1.length c1)), ((true && (true == true)), .val (.slice p2 R2.length c2)), ((true && (true == true)), .val (.bool true)), (true, .val (.bool (((true == true) && true)))), (true, .val (.bool (((true == true) && true)))), ((true && ((true == true) && true)), .val (.agg #[.int .i64 p.f, .slice pa0 p.args.length pc0])), ((true && ((true == true) && true)), .val (.agg #[.int .i64 t.f, .slice ta0 t.args.length tc0])), ((true && ((true == true) && true)), .val (.bool ((varB p t)))), ((true && ((true == true) && true)), .val (.agg #[.int .i64 p.f, .slice pa0 p.args.length pc0])), ((true && ((true == true) && true)), .val (.agg #[.int .i64 t.f, .slice ta0 t.args.length tc0])), ((true && ((true == true) && true)), .val (.bool ((varB p t)))), ((true && ((true == true) && true)), .val (.bool (((varB p t) == (varB p t))))), (true, .val (.bool ((((true == true) && true) && ((varB p t) == (varB p t)))))), (true, .val (.bool ((((true == true) && true) && ((varB p t) == (varB p t)))))), ((true && (((true == true) && true) && ((varB p t) == (varB p t)))), .val (.bool true)), (true, .val (.bool (((((true == true) && true) && ((varB p t) == (varB p t))) && true)))), (true, .val (.bool (((((true == true) && true) && ((varB p t) == (varB p t))) && true))))] [(0, .agg #[.int .i64 p.f, .slice pa0 p.args.length pc0]), (1, .agg #[.int .i64 t.f, .slice ta0 t.args.length tc0]), (2, .pointer (some ⟨g2, 0, none⟩)), (3, .pointer (some ⟨g9, 0, none⟩)), (5, .slice p1 R1.length c1), (6, .bool true), (7, .slice p2 R2.length c2), (8, .bool true)] ⟨rfl, rfl, rfl, rfl, rfl, rfl, rfl, rfl, trivial⟩ (by kernel_rfl) (by kernel_rfl) (by kernel_rfl) ?_ ?_
  · refine ⟨⟨true, .none rfl, fun h w => optUndef h, fun zβ za zw zc => ?_⟩, ?_⟩
    · exact wp_move rfl (zc.kn.ev rfl) ⟨_, rfl, Below.refl _ _, optDef zβ rfl⟩
    refine ⟨⟨true, .none rfl, fun h w => optUndef h, fun zβ za zw zc => ?_⟩, ?_⟩
    · exact wp_move rfl (zc.kn.ev rfl) ⟨_, rfl, Below.refl _ _, optDef zβ rfl⟩
    refine ⟨⟨true, .none rfl, fun h w => optUndef h, fun zβ za zw zc => ?_⟩, ?_⟩
    · exact eql_4 rfl ((show za.eval (.tmp 21) = za.tmps.getD 21 undef from rfl).trans (optVal (zc.dep 0 21 (by kernel_rfl)) rfl rfl)) ((show za.eval (.tmp 22) = za.tmps.getD 22 undef from rfl).trans (optVal (zc.dep 1 22 (by kernel_rfl)) rfl rfl)) ⟨_, rfl, Below.refl _ _, optDef zβ rfl⟩
    refine ⟨⟨true, .none rfl, fun h w => optUndef h, fun zβ za zw zc => ?_⟩, ?_⟩
    · exact wp_move rfl ((show za.eval (.tmp 23) = za.tmps.getD 23 undef from rfl).trans (optVal (zc.dep 2 23 (by kernel_rfl)) rfl rfl)) ⟨_, rfl, Below.refl _ _, optDef zβ rfl⟩
    refine ⟨⟨(true && (true == true)), .yes (c := (true == true)) (d := true) rfl (fun v w h => h), fun h w => optUndef h, fun zβ za zw zc => ?_⟩, ?_⟩
    · exact wp_move rfl (zc.kn.ev rfl) ⟨_, rfl, Below.refl _ _, optDef zβ rfl⟩
    refine ⟨⟨(true && (true == true)), .yes (c := (true == true)) (d := true) rfl (fun v w h => h), fun h w => optUndef h, fun zβ za zw zc => ?_⟩, ?_⟩
    · exact wp_move rfl (zc.kn.ev rfl) ⟨_, rfl, Below.refl _ _, optDef zβ rfl⟩
    refine ⟨⟨(true && (true == true)), .yes (c := (true == true)) (d := true) rfl (fun v w h => h), fun h w => optUndef h, fun zβ za zw zc => ?_⟩, ?_⟩
    · exact wp_call (by kernel_rfl) rfl (hv2 ((show za.eval (.tmp 25) = za.tmps.getD 25 undef from rfl).trans (optVal (zc.dep 4 25 (by kernel_rfl)) rfl zβ)) ((show za.eval (.tmp 26) = za.tmps.getD 26 undef from rfl).trans (optVal (zc.dep 5 26 (by kernel_rfl)) rfl zβ))) (rsubSame_yes R1 R2 _ p1 p2 c1 c2 (Nat.le_trans hN1.2.1 hN1.2.2) (hN1.isBs.below (bstep hb26 zc.below)) (hN2.isBs.below zc.below) (hR1.unique hR2)) (fun v w' h => ⟨v, rfl, h.2, optDef zβ h.1⟩)
    refine ⟨⟨true, .none rfl, fun h w => optUndef h, fun zβ za zw zc => ?_⟩, ?_⟩
    · exact wp_and rfl ((show za.eval (.tmp 24) = za.tmps.getD 24 undef from rfl).trans (optVal (zc.dep 3 24 (by kernel_rfl)) rfl rfl)) (fun hp => ((show za.eval (.tmp 27) = za.tmps.getD 27 undef from rfl).trans (optVal (zc.dep 6 27 (by kernel_rfl)) rfl (bMk zβ hp)))) ⟨_, rfl, Below.refl _ _, optDef zβ rfl⟩
    refine ⟨⟨true, .none rfl, fun h w => optUndef h, fun zβ za zw zc => ?_⟩, ?_⟩
    · exact wp_move rfl ((show za.eval (.tmp 28) = za.tmps.getD 28 undef from rfl).trans (optVal (zc.dep 7 28 (by kernel_rfl)) rfl rfl)) ⟨_, rfl, Below.refl _ _, optDef zβ rfl⟩
    refine ⟨⟨(true && ((true == true) && true)), .yes (c := ((true == true) && true)) (d := true) rfl (fun v w h => h), fun h w => optUndef h, fun zβ za zw zc => ?_⟩, ?_⟩
    · exact ld_24 rfl (zc.kn.ev rfl) (bkeeps zc.below _ _ ((hB30.cell 0).trans rfl)) (bkeeps zc.below _ _ ((hB30.cell 1).trans rfl)) ⟨_, rfl, Below.refl _ _, optDef zβ rfl⟩
    refine ⟨⟨(true && ((true == true) && true)), .yes (c := ((true == true) && true)) (d := true) rfl (fun v w h => h), fun h w => optUndef h, fun zβ za zw zc => ?_⟩, ?_⟩
    · exact ld_24 rfl (zc.kn.ev rfl) (bkeeps zc.below _ _ ((hB31.cell 0).trans rfl)) (bkeeps zc.below _ _ ((hB31.cell 1).trans rfl)) ⟨_, rfl, Below.refl _ _, optDef zβ rfl⟩
    refine ⟨⟨(true && ((true == true) && true)), .yes (c := ((true == true) && true)) (d := true) rfl (fun v w h => h), fun h w => optUndef h, fun zβ za zw zc => ?_⟩, ?_⟩
    · exact wp_call (by kernel_rfl) rfl (hv2 ((show za.eval (.tmp 30) = za.tmps.getD 30 undef from rfl).trans (optVal (zc.dep 9 30 (by kernel_rfl)) rfl zβ)) ((show za.eval (.tmp 31) = za.tmps.getD 31 undef from rfl).trans (optVal (zc.dep 10 31 (by kernel_rfl)) rfl zβ))) (variant_any p t _ _ _ (IsT.below (bstep hb32 zc.below) hp) (IsT.below (bstep hb32 zc.below) ht) hzp hzt) (fun v w' h => ⟨v, rfl, h.2, optDef zβ h.1⟩)
    refine ⟨⟨(true && ((true == true) && true)), .yes (c := ((true == true) && true)) (d := true) rfl (fun v w h => h), fun h w => optUndef h, fun zβ za zw zc => ?_⟩, ?_⟩
    · exact ld_24 rfl (zc.kn.ev rfl) (bkeeps zc.below _ _ ((hB30.cell 0).trans rfl)) (bkeeps zc.below _ _ ((hB30.cell 1).trans rfl)) ⟨_, rfl, Below.refl _ _, optDef zβ rfl⟩
    refine ⟨⟨(true && ((true == true) && true)), .yes (c := ((true == true) && true)) (d := true) rfl (fun v w h => h), fun h w => optUndef h, fun zβ za zw zc => ?_⟩, ?_⟩
    · exact ld_24 rfl (zc.kn.ev rfl) (bkeeps zc.below _ _ ((hB31.cell 0).trans rfl)) (bkeeps zc.below _ _ ((hB31.cell 1).trans rfl)) ⟨_, rfl, Below.refl _ _, optDef zβ rfl⟩
    refine ⟨⟨(true && ((true == true) && true)), .yes (c := ((true == true) && true)) (d := true) rfl (fun v w h => h), fun h w => optUndef h, fun zβ za zw zc => ?_⟩, ?_⟩
    · exact wp_call (by kernel_rfl) rfl (hv2 ((show za.eval (.tmp 33) = za.tmps.getD 33 undef from rfl).trans (optVal (zc.dep 12 33 (by kernel_rfl)) rfl zβ)) ((show za.eval (.tmp 34) = za.tmps.getD 34 undef from rfl).trans (optVal (zc.dep 13 34 (by kernel_rfl)) rfl zβ))) (rvariant_any p t _ _ _ (IsT.below (bstep hb32 zc.below) hp) (IsT.below (bstep hb32 zc.below) ht) hzp hzt) (fun v w' h => ⟨v, rfl, h.2, optDef zβ h.1⟩)
    refine ⟨⟨(true && ((true == true) && true)), .yes (c := ((true == true) && true)) (d := true) rfl (fun v w h => h), fun h w => optUndef h, fun zβ za zw zc => ?_⟩, ?_⟩
    · exact eql_4 rfl ((show za.eval (.tmp 32) = za.tmps.getD 32 undef from rfl).trans (optVal (zc.dep 11 32 (by kernel_rfl)) rfl zβ)) ((show za.eval (.tmp 35) = za.tmps.getD 35 undef from rfl).trans (optVal (zc.dep 14 35 (by kernel_rfl)) rfl zβ)) ⟨_, rfl, Below.refl _ _, optDef zβ rfl⟩
    refine ⟨⟨true, .none rfl, fun h w => optUndef h, fun zβ za zw zc => ?_⟩, ?_⟩
    · exact wp_and rfl ((show za.eval (.tmp 29) = za.tmps.getD 29 undef from rfl).trans (optVal (zc.dep 8 29 (by kernel_rfl)) rfl rfl)) (fun hp => ((show za.eval (.tmp 36) = za.tmps.getD 36 undef from rfl).trans (optVal (zc.dep 15 36 (by kernel_rfl)) rfl (bMk zβ hp)))) ⟨_, rfl, Below.refl _ _, optDef zβ rfl⟩
    refine ⟨⟨true, .none rfl, fun h w => optUndef h, fun zβ za zw zc => ?_⟩, ?_⟩
    · exact wp_move rfl ((show za.eval (.tmp 37) = za.tmps.getD 37 undef from rfl).trans (optVal (zc.dep 16 37 (by kernel_rfl)) rfl rfl)) ⟨_, rfl, Below.refl _ _, optDef zβ rfl⟩
    refine ⟨⟨(true && (((true == true) && true) && ((varB p t) == (varB p t)))), .yes (c := (((true == true) && true) && ((varB p t) == (varB p t)))) (d := true) rfl (fun v w h => h), fun h w => optUndef h, fun zβ za zw zc => ?_⟩, ?_⟩
    · exact wp_call (by kernel_rfl) rfl (hv0) (wakes_any _) (fun v w' h => ⟨v, rfl, h.2, optDef zβ h.1⟩)
    refine ⟨⟨true, .none rfl, fun h w => optUndef h, fun zβ za zw zc => ?_⟩, ?_⟩
    · exact wp_and rfl ((show za.eval (.tmp 38) = za.tmps.getD 38 undef from rfl).trans (optVal (zc.dep 17 38 (by kernel_rfl)) rfl rfl)) (fun hp => ((show za.eval (.tmp 39) = za.tmps.getD 39 undef from rfl).trans (optVal (zc.dep 18 39 (by kernel_rfl)) rfl (bMk zβ hp)))) ⟨_, rfl, Below.refl _ _, optDef zβ rfl⟩
    refine ⟨⟨true, .none rfl, fun h w => optUndef h, fun zβ za zw zc => ?_⟩, ?_⟩
    · exact wp_assign rfl ((show za.eval (.tmp 40) = za.tmps.getD 40 undef from rfl).trans (optVal (zc.dep 19 40 (by kernel_rfl)) rfl rfl)) ⟨_, rfl, Below.refl _ _, optDef zβ rfl⟩
    exact trivial
  · intro za w36 zh hb37 zu
    have zh := zh.cons (d := 4) (v := .bool (((((true == true) && true) && ((varB p t) == (varB p t))) && true))) (optVal (zu 20 4 (by kernel_rfl)) rfl rfl)
    clear zu
    refine (show WE _ [(0, .agg #[.int .i64 p.f, .slice pa0 p.args.length pc0]), (1, .agg #[.int .i64 t.f, .slice ta0 t.args.length tc0]), (2, .pointer (some ⟨g2, 0, none⟩)), (3, .pointer (some ⟨g9, 0, none⟩)), (4, .bool (((((true == true) && true) && ((varB p t) == (varB p t))) && true))), (5, .slice p1 R1.length c1), (6, .bool true), (7, .slice p2 R2.length c2), (8, .bool true)] w36 _ .normal from ?_) za (zh.sub ⟨rfl, rfl, rfl, rfl, rfl, rfl, rfl, rfl, rfl, trivial⟩)
    refine WE.next ?_
    refine WC.ret ?_
    refine WE.ret1 rfl rfl ?_
    have hb38 : Below w.heap.size w w36 := (bstep hb32 hb37)
    exact ⟨_, rfl, congrArg Value.bool (by simp), hb38⟩

set_option maxRecDepth 100000 in
theorem finds_no (p t : T) (w : World) (u v : Value) (hp : IsT w p u) (ht : IsT w t v) (hzp : p.size ≤ 4294967296) (hzt : t.size ≤ 4294967296) (hok : ¬ mOk p t [] = true) : Calls Try.prog 3 #[u, v] w (Ret fun v' w' => v' = .bool true ∧ Below w.heap.size w w') := by
  have hp0 := hp
  have ht0 := ht
  obtain ⟨hfp, pa0, pc0, rfl, _, _, _⟩ := hp.form
  obtain ⟨hft, ta0, tc0, rfl, _, _, _⟩ := ht.form
  refine Calls.walk (l := [.agg #[.int .i64 p.f, .slice pa0 p.args.length pc0], .agg #[.int .i64 t.f, .slice ta0 t.args.length tc0]]) Try.func3 rfl (by kernel_rfl) ?_
  refine WC.sub (K' := [(0, .agg #[.int .i64 p.f, .slice pa0 p.args.length pc0]), (1, .agg #[.int .i64 t.f, .slice ta0 t.args.length tc0])]) ⟨rfl, rfl, trivial⟩ ?_
  refine WC.seq ?_
  refine WC.region ?_
  refine WL.step (post := NewBlk w 24 #[.int .i64 p.f, .slice pa0 p.args.length pc0]) rfl rfl rfl (fun za zC zh zk => box_24 rfl (zh.ev rfl) (zk _ _ (newBlk _ _ _))) ?_
  rintro _ w1 ⟨g2, rfl, hg3, hB4, hb5, hz6⟩
  have hl7 : w.heap.size ≤ g2 := by omega
  refine WL.step (post := NewBlk w1 24 #[.int .i64 t.f, .slice ta0 t.args.length tc0]) rfl rfl rfl (fun za zC zh zk => box_24 rfl (zh.ev rfl) (zk _ _ (newBlk _ _ _))) ?_
  rintro _ w8 ⟨g9, rfl, hg10, hB11, hb12, hz13⟩
  have hl14 : g2 < g9 := by have z1 := hB4.lt; omega
  have hl15 : w.heap.size ≤ g9 := by have z2 := (hb5).size; omega
  refine WL.val (.bool false) rfl rfl rfl (fun za zC zh zk => wp_assign rfl (zh.ev rfl) zk) ?_
  refine WL.nil (WE.sub (K' := [(0, .agg #[.int .i64 p.f, .slice pa0 p.args.length pc0]), (1, .agg #[.int .i64 t.f, .slice ta0 t.args.length tc0]), (2, .pointer (some ⟨g2, 0, none⟩)), (3, .pointer (some ⟨g9, 0, none⟩)), (4, .bool false)]) ⟨rfl, rfl, rfl, rfl, rfl, trivial⟩ ?_)
  refine WE.next ?_
  refine WC.seq ?_
  refine WC.region ?_
  have hB16 := hB4.below hb12
  refine WL.val (.agg #[.int .i64 p.f, .slice pa0 p.args.length pc0]) rfl rfl rfl (fun za zC zh zk => ld_24 rfl (zh.ev rfl) ((hB16.cell 0).trans rfl) ((hB16.cell 1).trans rfl) zk) ?_
  refine WL.val (.agg #[.int .i64 t.f, .slice ta0 t.args.length tc0]) rfl rfl rfl (fun za zC zh zk => ld_24 rfl (zh.ev rfl) ((hB11.cell 0).trans rfl) ((hB11.cell 1).trans rfl) zk) ?_
  have hb20 : Below w.heap.size w w8 := (bstep hb5 hb12)
  refine WL.call rfl rfl rfl (fun za zh zC => wp_call (by kernel_rfl) rfl (hv2 (zh.ev rfl) (zh.ev rfl))) (match_any p t _ _ _ (IsT.below hb20 hp) (IsT.below hb20 ht) hzp hzt) ?_
  rintro v17 w21 ⟨hm18, hb19⟩
  unfold MatchIs at hm18
  rw [if_neg hok] at hm18
  subst hm18
  refine WL.val (.tuple #[.slice none 0 0, .bool false]) rfl rfl rfl (fun za zC zh zk => wp_move rfl (zh.ev rfl) zk) ?_
  refine WL.val (.slice none 0 0) rfl rfl rfl (fun za zC zh zk => ext2_0 rfl (zh.ev rfl) zk) ?_
  refine WL.val (.bool false) rfl rfl rfl (fun za zC zh zk => ext2_1 rfl (zh.ev rfl) zk) ?_
  refine WL.val (.slice none 0 0) rfl rfl rfl (fun za zC zh zk => wp_assign rfl (zh.ev rfl) zk) ?_
  refine WL.val (.bool false) rfl rfl rfl (fun za zC zh zk => wp_assign rfl (zh.ev rfl) zk) ?_
  refine WL.nil (WE.sub (K' := [(0, .agg #[.int .i64 p.f, .slice pa0 p.args.length pc0]), (1, .agg #[.int .i64 t.f, .slice ta0 t.args.length tc0]), (2, .pointer (some ⟨g2, 0, none⟩)), (3, .pointer (some ⟨g9, 0, none⟩)), (4, .bool false), (5, .slice none 0 0), (6, .bool false)]) ⟨rfl, rfl, rfl, rfl, rfl, rfl, rfl, trivial⟩ ?_)
  refine WE.next ?_
  refine WC.seq ?_
  refine WC.region ?_
  have hB22 := hB16.below hb19
  refine WL.val (.agg #[.int .i64 p.f, .slice pa0 p.args.length pc0]) rfl rfl rfl (fun za zC zh zk => ld_24 rfl (zh.ev rfl) ((hB22.cell 0).trans rfl) ((hB22.cell 1).trans rfl) zk) ?_
  have hB23 := hB11.below hb19
  refine WL.val (.agg #[.int .i64 t.f, .slice ta0 t.args.length tc0]) rfl rfl rfl (fun za zC zh zk => ld_24 rfl (zh.ev rfl) ((hB23.cell 0).trans rfl) ((hB23.cell 1).trans rfl) zk) ?_
  have hb27 : Below w.heap.size w w21 := (bstep hb20 hb19)
  refine WL.call rfl rfl rfl (fun za zh zC => wp_call (by kernel_rfl) rfl (hv2 (zh.ev rfl) (zh.ev rfl))) (rmatch_any p t _ _ _ (IsT.below hb27 hp) (IsT.below hb27 ht) hzp hzt) ?_
  rintro v24 w28 ⟨hm25, hb26⟩
  unfold MatchIs at hm25
  rw [if_neg hok] at hm25
  subst hm25
  refine WL.val (.tuple #[.slice none 0 0, .bool false]) rfl rfl rfl (fun za zC zh zk => wp_move rfl (zh.ev rfl) zk) ?_
  refine WL.val (.slice none 0 0) rfl rfl rfl (fun za zC zh zk => ext2_0 rfl (zh.ev rfl) zk) ?_
  refine WL.val (.bool false) rfl rfl rfl (fun za zC zh zk => ext2_1 rfl (zh.ev rfl) zk) ?_
  refine WL.val (.slice none 0 0) rfl rfl rfl (fun za zC zh zk => wp_assign rfl (zh.ev rfl) zk) ?_
  refine WL.val (.bool false) rfl rfl rfl (fun za zC zh zk => wp_assign rfl (zh.ev rfl) zk) ?_
  refine WL.nil (WE.sub (K' := [(0, .agg #[.int .i64 p.f, .slice pa0 p.args.length pc0]), (1, .agg #[.int .i64 t.f, .slice ta0 t.args.length tc0]), (2, .pointer (some ⟨g2, 0, none⟩)), (3, .pointer (some ⟨g9, 0, none⟩)), (4, .bool false), (5, .slice none 0 0), (6, .bool false), (7, .slice none 0 0), (8, .bool false)]) ⟨rfl, rfl, rfl, rfl, rfl, rfl, rfl, rfl, rfl, trivial⟩ ?_)
  refine WE.next ?_
  refine WC.seq ?_
  have hB30 := hB22.below hb26
  have hB31 := hB23.below hb26
  have hb32 : Below w.heap.size w w28 := (bstep hb27 hb26)
  refine WC.opt [(true, .val (.bool false)), (true, .val (.bool false)), (true, .val (.bool ((false == false)))), (true, .val (.bool ((false == false)))), ((true && (false == false)), .val (.slice none 0 0)), ((true && (false == false)), .val (.slice none 0 0)), ((true && (false == false)), .val (.bool true)), (true, .val (.bool (((false == false) && true)))), (true, .val (.bool (((false == false) && true)))), ((true && ((false == false) && true)), .val (.agg #[.int .i64 p.f, .slice pa0 p.args.length pc0])), ((true && ((false == false) && true)), .val (.agg #[.int .i64 t.f, .slice ta0 t.args.length tc0])), ((true && ((false == false) && true)), .val (.bool ((varB p t)))), ((true && ((false == false) && true)), .val (.agg #[.int .i64 p.f, .slice pa0 p.args.length pc0])), ((true && ((false == false) && true)), .val (.agg #[.int .i64 t.f, .slice ta0 t.args.length tc0])), ((true && ((false == false) && true)), .val (.bool ((varB p t)))), ((true && ((false == false) && true)), .val (.bool (((varB p t) == (varB p t))))), (true, .val (.bool ((((false == false) && true) && ((varB p t) == (varB p t)))))), (true, .val (.bool ((((false == false) && true) && ((varB p t) == (varB p t)))))), ((true && (((false == false) && true) && ((varB p t) == (varB p t)))), .val (.bool true)), (true, .val (.bool (((((false == false) && true) && ((varB p t) == (varB p t))) && true)))), (true, .val (.bool (((((false == false) && true) && ((varB p t) == (varB p t))) && true))))] [(0, .agg #[.int .i64 p.f, .slice pa0 p.args.length pc0]), (1, .agg #[.int .i64 t.f, .slice ta0 t.args.length tc0]), (2, .pointer (some ⟨g2, 0, none⟩)), (3, .pointer (some ⟨g9, 0, none⟩)), (5, .slice none 0 0), (6, .bool false), (7, .slice none 0 0), (8, .bool false)] ⟨rfl, rfl, rfl, rfl, rfl, rfl, rfl, rfl, trivial⟩ (by kernel_rfl) (by kernel_rfl) (by kernel_rfl) ?_ ?_
  · refine ⟨⟨true, .none rfl, fun h w => optUndef h, fun zβ za zw zc => ?_⟩, ?_⟩
    · exact wp_move rfl (zc.kn.ev rfl) ⟨_, rfl, Below.refl _ _, optDef zβ rfl⟩
    refine ⟨⟨true, .none rfl, fun h w => optUndef h, fun zβ za zw zc => ?_⟩, ?_⟩
    · exact wp_move rfl (zc.kn.ev rfl) ⟨_, rfl, Below.refl _ _, optDef zβ rfl⟩
    refine ⟨⟨true, .none rfl, fun h w => optUndef h, fun zβ za zw zc => ?_⟩, ?_⟩
    · exact eql_4 rfl ((show za.eval (.tmp 21) = za.tmps.getD 21 undef from rfl).trans (optVal (zc.dep 0 21 (by kernel_rfl)) rfl rfl)) ((show za.eval (.tmp 22) = za.tmps.getD 22 undef from rfl).trans (optVal (zc.dep 1 22 (by kernel_rfl)) rfl rfl)) ⟨_, rfl, Below.refl _ _, optDef zβ rfl⟩
    refine ⟨⟨true, .none rfl, fun h w => optUndef h, fun zβ za zw zc => ?_⟩, ?_⟩
    · exact wp_move rfl ((show za.eval (.tmp 23) = za.tmps.getD 23 undef from rfl).trans (optVal (zc.dep 2 23 (by kernel_rfl)) rfl rfl)) ⟨_, rfl, Below.refl _ _, optDef zβ rfl⟩
    refine ⟨⟨(true && (false == false)), .yes (c := (false == false)) (d := true) rfl (fun v w h => h), fun h w => optUndef h, fun zβ za zw zc => ?_⟩, ?_⟩
    · exact wp_move rfl (zc.kn.ev rfl) ⟨_, rfl, Below.refl _ _, optDef zβ rfl⟩
    refine ⟨⟨(true && (false == false)), .yes (c := (false == false)) (d := true) rfl (fun v w h => h), fun h w => optUndef h, fun zβ za zw zc => ?_⟩, ?_⟩
    · exact wp_move rfl (zc.kn.ev rfl) ⟨_, rfl, Below.refl _ _, optDef zβ rfl⟩
    refine ⟨⟨(true && (false == false)), .yes (c := (false == false)) (d := true) rfl (fun v w h => h), fun h w => optUndef h, fun zβ za zw zc => ?_⟩, ?_⟩
    · exact wp_call (by kernel_rfl) rfl (hv2 ((show za.eval (.tmp 25) = za.tmps.getD 25 undef from rfl).trans (optVal (zc.dep 4 25 (by kernel_rfl)) rfl zβ)) ((show za.eval (.tmp 26) = za.tmps.getD 26 undef from rfl).trans (optVal (zc.dep 5 26 (by kernel_rfl)) rfl zβ))) (rsubSame_yes [] [] _ none none 0 0 (Nat.zero_le _) InRow.nil InRow.nil rfl) (fun v w' h => ⟨v, rfl, h.2, optDef zβ h.1⟩)
    refine ⟨⟨true, .none rfl, fun h w => optUndef h, fun zβ za zw zc => ?_⟩, ?_⟩
    · exact wp_and rfl ((show za.eval (.tmp 24) = za.tmps.getD 24 undef from rfl).trans (optVal (zc.dep 3 24 (by kernel_rfl)) rfl rfl)) (fun hp => ((show za.eval (.tmp 27) = za.tmps.getD 27 undef from rfl).trans (optVal (zc.dep 6 27 (by kernel_rfl)) rfl (bMk zβ hp)))) ⟨_, rfl, Below.refl _ _, optDef zβ rfl⟩
    refine ⟨⟨true, .none rfl, fun h w => optUndef h, fun zβ za zw zc => ?_⟩, ?_⟩
    · exact wp_move rfl ((show za.eval (.tmp 28) = za.tmps.getD 28 undef from rfl).trans (optVal (zc.dep 7 28 (by kernel_rfl)) rfl rfl)) ⟨_, rfl, Below.refl _ _, optDef zβ rfl⟩
    refine ⟨⟨(true && ((false == false) && true)), .yes (c := ((false == false) && true)) (d := true) rfl (fun v w h => h), fun h w => optUndef h, fun zβ za zw zc => ?_⟩, ?_⟩
    · exact ld_24 rfl (zc.kn.ev rfl) (bkeeps zc.below _ _ ((hB30.cell 0).trans rfl)) (bkeeps zc.below _ _ ((hB30.cell 1).trans rfl)) ⟨_, rfl, Below.refl _ _, optDef zβ rfl⟩
    refine ⟨⟨(true && ((false == false) && true)), .yes (c := ((false == false) && true)) (d := true) rfl (fun v w h => h), fun h w => optUndef h, fun zβ za zw zc => ?_⟩, ?_⟩
    · exact ld_24 rfl (zc.kn.ev rfl) (bkeeps zc.below _ _ ((hB31.cell 0).trans rfl)) (bkeeps zc.below _ _ ((hB31.cell 1).trans rfl)) ⟨_, rfl, Below.refl _ _, optDef zβ rfl⟩
    refine ⟨⟨(true && ((false == false) && true)), .yes (c := ((false == false) && true)) (d := true) rfl (fun v w h => h), fun h w => optUndef h, fun zβ za zw zc => ?_⟩, ?_⟩
    · exact wp_call (by kernel_rfl) rfl (hv2 ((show za.eval (.tmp 30) = za.tmps.getD 30 undef from rfl).trans (optVal (zc.dep 9 30 (by kernel_rfl)) rfl zβ)) ((show za.eval (.tmp 31) = za.tmps.getD 31 undef from rfl).trans (optVal (zc.dep 10 31 (by kernel_rfl)) rfl zβ))) (variant_any p t _ _ _ (IsT.below (bstep hb32 zc.below) hp) (IsT.below (bstep hb32 zc.below) ht) hzp hzt) (fun v w' h => ⟨v, rfl, h.2, optDef zβ h.1⟩)
    refine ⟨⟨(true && ((false == false) && true)), .yes (c := ((false == false) && true)) (d := true) rfl (fun v w h => h), fun h w => optUndef h, fun zβ za zw zc => ?_⟩, ?_⟩
    · exact ld_24 rfl (zc.kn.ev rfl) (bkeeps zc.below _ _ ((hB30.cell 0).trans rfl)) (bkeeps zc.below _ _ ((hB30.cell 1).trans rfl)) ⟨_, rfl, Below.refl _ _, optDef zβ rfl⟩
    refine ⟨⟨(true && ((false == false) && true)), .yes (c := ((false == false) && true)) (d := true) rfl (fun v w h => h), fun h w => optUndef h, fun zβ za zw zc => ?_⟩, ?_⟩
    · exact ld_24 rfl (zc.kn.ev rfl) (bkeeps zc.below _ _ ((hB31.cell 0).trans rfl)) (bkeeps zc.below _ _ ((hB31.cell 1).trans rfl)) ⟨_, rfl, Below.refl _ _, optDef zβ rfl⟩
    refine ⟨⟨(true && ((false == false) && true)), .yes (c := ((false == false) && true)) (d := true) rfl (fun v w h => h), fun h w => optUndef h, fun zβ za zw zc => ?_⟩, ?_⟩
    · exact wp_call (by kernel_rfl) rfl (hv2 ((show za.eval (.tmp 33) = za.tmps.getD 33 undef from rfl).trans (optVal (zc.dep 12 33 (by kernel_rfl)) rfl zβ)) ((show za.eval (.tmp 34) = za.tmps.getD 34 undef from rfl).trans (optVal (zc.dep 13 34 (by kernel_rfl)) rfl zβ))) (rvariant_any p t _ _ _ (IsT.below (bstep hb32 zc.below) hp) (IsT.below (bstep hb32 zc.below) ht) hzp hzt) (fun v w' h => ⟨v, rfl, h.2, optDef zβ h.1⟩)
    refine ⟨⟨(true && ((false == false) && true)), .yes (c := ((false == false) && true)) (d := true) rfl (fun v w h => h), fun h w => optUndef h, fun zβ za zw zc => ?_⟩, ?_⟩
    · exact eql_4 rfl ((show za.eval (.tmp 32) = za.tmps.getD 32 undef from rfl).trans (optVal (zc.dep 11 32 (by kernel_rfl)) rfl zβ)) ((show za.eval (.tmp 35) = za.tmps.getD 35 undef from rfl).trans (optVal (zc.dep 14 35 (by kernel_rfl)) rfl zβ)) ⟨_, rfl, Below.refl _ _, optDef zβ rfl⟩
    refine ⟨⟨true, .none rfl, fun h w => optUndef h, fun zβ za zw zc => ?_⟩, ?_⟩
    · exact wp_and rfl ((show za.eval (.tmp 29) = za.tmps.getD 29 undef from rfl).trans (optVal (zc.dep 8 29 (by kernel_rfl)) rfl rfl)) (fun hp => ((show za.eval (.tmp 36) = za.tmps.getD 36 undef from rfl).trans (optVal (zc.dep 15 36 (by kernel_rfl)) rfl (bMk zβ hp)))) ⟨_, rfl, Below.refl _ _, optDef zβ rfl⟩
    refine ⟨⟨true, .none rfl, fun h w => optUndef h, fun zβ za zw zc => ?_⟩, ?_⟩
    · exact wp_move rfl ((show za.eval (.tmp 37) = za.tmps.getD 37 undef from rfl).trans (optVal (zc.dep 16 37 (by kernel_rfl)) rfl rfl)) ⟨_, rfl, Below.refl _ _, optDef zβ rfl⟩
    refine ⟨⟨(true && (((false == false) && true) && ((varB p t) == (varB p t)))), .yes (c := (((false == false) && true) && ((varB p t) == (varB p t)))) (d := true) rfl (fun v w h => h), fun h w => optUndef h, fun zβ za zw zc => ?_⟩, ?_⟩
    · exact wp_call (by kernel_rfl) rfl (hv0) (wakes_any _) (fun v w' h => ⟨v, rfl, h.2, optDef zβ h.1⟩)
    refine ⟨⟨true, .none rfl, fun h w => optUndef h, fun zβ za zw zc => ?_⟩, ?_⟩
    · exact wp_and rfl ((show za.eval (.tmp 38) = za.tmps.getD 38 undef from rfl).trans (optVal (zc.dep 17 38 (by kernel_rfl)) rfl rfl)) (fun hp => ((show za.eval (.tmp 39) = za.tmps.getD 39 undef from rfl).trans (optVal (zc.dep 18 39 (by kernel_rfl)) rfl (bMk zβ hp)))) ⟨_, rfl, Below.refl _ _, optDef zβ rfl⟩
    refine ⟨⟨true, .none rfl, fun h w => optUndef h, fun zβ za zw zc => ?_⟩, ?_⟩
    · exact wp_assign rfl ((show za.eval (.tmp 40) = za.tmps.getD 40 undef from rfl).trans (optVal (zc.dep 19 40 (by kernel_rfl)) rfl rfl)) ⟨_, rfl, Below.refl _ _, optDef zβ rfl⟩
    exact trivial
  · intro za w36 zh hb37 zu
    have zh := zh.cons (d := 4) (v := .bool (((((false == false) && true) && ((varB p t) == (varB p t))) && true))) (optVal (zu 20 4 (by kernel_rfl)) rfl rfl)
    clear zu
    refine (show WE _ [(0, .agg #[.int .i64 p.f, .slice pa0 p.args.length pc0]), (1, .agg #[.int .i64 t.f, .slice ta0 t.args.length tc0]), (2, .pointer (some ⟨g2, 0, none⟩)), (3, .pointer (some ⟨g9, 0, none⟩)), (4, .bool (((((false == false) && true) && ((varB p t) == (varB p t))) && true))), (5, .slice none 0 0), (6, .bool false), (7, .slice none 0 0), (8, .bool false)] w36 _ .normal from ?_) za (zh.sub ⟨rfl, rfl, rfl, rfl, rfl, rfl, rfl, rfl, rfl, trivial⟩)
    refine WE.next ?_
    refine WC.ret ?_
    refine WE.ret1 rfl rfl ?_
    have hb38 : Below w.heap.size w w36 := (bstep hb32 hb37)
    exact ⟨_, rfl, congrArg Value.bool (by simp), hb38⟩

theorem finds_any (p t : T) (w : World) (u v : Value) (hp : IsT w p u) (ht : IsT w t v) (hzp : p.size ≤ 4294967296) (hzt : t.size ≤ 4294967296) : Calls Try.prog 3 #[u, v] w (Ret fun v' w' => v' = .bool true ∧ Below w.heap.size w w') := by
  by_cases hok : mOk p t [] = true
  · exact finds_yes p t w u v hp ht hzp hzt hok
  · exact finds_no p t w u v hp ht hzp hzt hok

end Go.Proofs.Ytcmfjnadjddboaa

/- Two matchers side by side, whose own blocks are others'. -/
namespace Go.Proofs.Ytcmfjnadjddboaa
open Go.RowKit Go
set_option linter.unusedVariables false
set_option linter.unusedSimpArgs false

/-- The matcher at 'gm' and the document's at 'gz': what they own lies in 'Z', and is not shared. -/
def Both (Z : Nat → Prop) (gm gz : Nat) (s1 s2 : List Bd) (w : World) : Prop := ∃ C D, MatAt w gm s1 C ∧ RefAt w gz s2 D ∧ (∀ b, C b → Z b) ∧ (∀ b, D b → Z b) ∧ ∀ b, C b → ¬ D b
section
variable {Z Z' A : Nat → Prop} {gm gz : Nat} {s1 s2 : List Bd} {w w' : World}
theorem Both.below (h : Both Z gm gz s1 s2 w) (hb : Below w.heap.size w w') : Both Z gm gz s1 s2 w' := by
  obtain ⟨C, D, h1, h2, h3, h4, h5⟩ := h
  exact ⟨C, D, h1.below hb, h2.below hb, h3, h4, h5⟩
theorem Both.mono (h : Both Z gm gz s1 s2 w) (hZ : ∀ b, Z b → b < w.heap.size → Z' b) : Both Z' gm gz s1 s2 w := by
  obtain ⟨C, D, h1, h2, h3, h4, h5⟩ := h
  exact ⟨C, D, h1, h2, fun b q => hZ b (h3 b q) (h1.clt b q), fun b q => hZ b (h4 b q) (h2.dlt b q), h5⟩
theorem Both.nd (h : Both Z gm gz s1 s2 w) : (s1.map (·.var)).Nodup := by
  obtain ⟨C, D, h1, _⟩ := h
  exact h1.nd
theorem both_m {F : FuncId} {xs : Array Value} {r : Value} {s1' : List Bd} (h : Both Z gm gz s1 s2 w) (hZ : ∀ b, w.heap.size ≤ b → Z b) (hany : ∀ C, MatAt w gm s1 C → (∀ b, C b → Z b) → Calls Try.prog F xs w (Ret fun v' w' => (∃ C', v' = r ∧ MatAt w' gm s1' C' ∧ ∀ b, C' b → C b ∨ w.heap.size ≤ b) ∧ Chg C w w')) :
    Calls Try.prog F xs w (Ret fun v' w' => (v' = r ∧ Both Z gm gz s1' s2 w') ∧ Chg Z w w') := by
  obtain ⟨C, D, h1, h2, h3, h4, h5⟩ := h
  refine (hany C h1 h3).mono ?_
  rintro e w' ⟨v, rfl, ⟨C', rfl, k1, k2⟩, k3⟩
  refine ⟨_, rfl, ⟨rfl, C', D, k1, h2.chg k3 (fun b q q2 => h5 b q2 q), fun b q => (k2 b q).elim (h3 b) (hZ b), h4, fun b q q2 => ?_⟩, k3.mono h3⟩
  rcases k2 b q with q3 | q3
  · exact h5 b q3 q2
  · have := h2.dlt b q2; omega
theorem both_z {F : FuncId} {xs : Array Value} {r : Value} {s2' : List Bd} (h : Both Z gm gz s1 s2 w) (hZ : ∀ b, w.heap.size ≤ b → Z b) (hany : ∀ D, RefAt w gz s2 D → (∀ b, D b → Z b) → Calls Try.prog F xs w (Ret fun v' w' => (∃ D', v' = r ∧ RefAt w' gz s2' D' ∧ ∀ b, D' b → D b ∨ w.heap.size ≤ b) ∧ Chg D w w')) :
    Calls Try.prog F xs w (Ret fun v' w' => (v' = r ∧ Both Z gm gz s1 s2' w') ∧ Chg Z w w') := by
  obtain ⟨C, D, h1, h2, h3, h4, h5⟩ := h
  refine (hany D h2 h4).mono ?_
  rintro e w' ⟨v, rfl, ⟨D', rfl, k1, k2⟩, k3⟩
  refine ⟨_, rfl, ⟨rfl, C, D', h1.chg k3 (fun b q q2 => h5 b q q2), k1, h3, fun b q => (k2 b q).elim (h4 b) (hZ b), fun b q q2 => ?_⟩, k3.mono h4⟩
  rcases k2 b q2 with q3 | q3
  · exact h5 b q q3
  · have := h1.clt b q; omega
theorem bterm_m (p t : T) {u v : Value} (h : Both Z gm gz s1 s2 w) (hZ : ∀ b, w.heap.size ≤ b → Z b) (hp : InT A w p u) (ht : IsT w t v) (hA : ∀ b, A b → ¬ Z b) (hzp : p.size ≤ 4294967296) (hzt : t.size ≤ 4294967296) (hn : s1.length + p.size ≤ 1099511627776) :
    Calls Try.prog 15 #[.pointer (some ⟨gm, 0, none⟩), u, v] w (Ret fun v' w' => (v' = .bool (mOk p t s1) ∧ Both Z gm gz (mTo p t s1) s2 w') ∧ Chg Z w w') :=
  both_m h hZ fun C h1 h3 => term_any p t w u v h1 hp ht (fun b q q2 => hA b q (h3 b q2)) hzp hzt hn
theorem bterm_z (p t : T) {u v : Value} (h : Both Z gm gz s1 s2 w) (hZ : ∀ b, w.heap.size ≤ b → Z b) (hp : InT A w p u) (ht : InT A w t v) (hA : ∀ b, A b → ¬ Z b) (hzp : p.size ≤ 4294967296) (hzt : t.size ≤ 4294967296) (hn : s2.length + p.size ≤ 1099511627776) :
    Calls Try.prog 16 #[.pointer (some ⟨gz, 0, none⟩), u, v] w (Ret fun v' w' => (v' = .bool (mOk p t s2) ∧ Both Z gm gz s1 (mTo p t s2) w') ∧ Chg Z w w') :=
  both_z h hZ fun D h1 h3 => rTerm_any p t h1 hp ht (fun b q q2 => hA b q (h3 b q2)) hzp hzt hn
theorem blit_m (p l : Li) (tu : Bool) {u v : Value} (h : Both Z gm gz s1 s2 w) (hZ : ∀ b, w.heap.size ≤ b → Z b) (hp : LiIn A w p u) (hl : LiIn A w l v) (hA : ∀ b, A b → ¬ Z b) (hp1 : p.l.size ≤ 4294967296) (hp2 : p.r.size ≤ 4294967296) (hl1 : l.l.size ≤ 4294967296) (hl2 : l.r.size ≤ 4294967296) (hn : s1.length + p.l.size + p.r.size ≤ 1099511627776) :
    Calls Try.prog 17 #[.pointer (some ⟨gm, 0, none⟩), u, v, .bool tu] w (Ret fun v' w' => (v' = .bool (lOk p l tu s1) ∧ Both Z gm gz (lTo p l tu s1) s2 w') ∧ Chg Z w w') :=
  both_m h hZ fun C h1 h3 => mlit_any p l tu w u v h1 hp hl (fun b q q2 => hA b q (h3 b q2)) hp1 hp2 hl1 hl2 hn
theorem blit_z (p l : Li) (tu : Bool) {u v : Value} (h : Both Z gm gz s1 s2 w) (hZ : ∀ b, w.heap.size ≤ b → Z b) (hp : LiIn A w p u) (hl : LiIn A w l v) (hA : ∀ b, A b → ¬ Z b) (hp1 : p.l.size ≤ 4294967296) (hp2 : p.r.size ≤ 4294967296) (hl1 : l.l.size ≤ 4294967296) (hl2 : l.r.size ≤ 4294967296) (hn : s2.length + p.l.size + p.r.size ≤ 1099511627776) :
    Calls Try.prog 18 #[.pointer (some ⟨gz, 0, none⟩), u, v, .bool tu] w (Ret fun v' w' => (v' = .bool (lOk p l tu s2) ∧ Both Z gm gz s1 (lTo p l tu s2) w') ∧ Chg Z w w') :=
  both_z h hZ fun D h1 h3 => rlit_any p l tu w u v h1 hp hl (fun b q q2 => hA b q (h3 b q2)) hp1 hp2 hl1 hl2 hn
theorem bback_m (m : Int) (h : Both Z gm gz s1 s2 w) (hZ : ∀ b, w.heap.size ≤ b → Z b) : Calls Try.prog 19 #[.pointer (some ⟨gm, 0, none⟩), .int .i64 m] w (Ret fun _ w' => Both Z gm gz (backTo s1 m) s2 w' ∧ Chg Z w w') := by
  obtain ⟨C, D, h1, h2, h3, h4, h5⟩ := h
  refine (back_any m w h1).mono ?_
  rintro e w' ⟨v, rfl, k1, k3⟩
  exact ⟨_, rfl, ⟨C, D, k1, h2.chg k3 (fun b q q2 => h5 b q2 q), h3, h4, h5⟩, k3.mono h3⟩
theorem bback_z (m : Int) (h : Both Z gm gz s1 s2 w) (hZ : ∀ b, w.heap.size ≤ b → Z b) : Calls Try.prog 20 #[.pointer (some ⟨gz, 0, none⟩), .int .i64 m] w (Ret fun _ w' => Both Z gm gz s1 (backTo s2 m) w' ∧ Chg Z w w') := by
  obtain ⟨C, D, h1, h2, h3, h4, h5⟩ := h
  refine (rback_any m w h2).mono ?_
  rintro e w' ⟨v, rfl, k1, k3⟩
  exact ⟨_, rfl, ⟨C, D, h1.chg k3 (fun b q q2 => h5 b q q2), k1, h3, h4, h5⟩, k3.mono h4⟩
theorem bmark_m (h : Both Z gm gz s1 s2 w) : Calls Try.prog 21 #[.pointer (some ⟨gm, 0, none⟩)] w (Ret fun v' w' => v' = .int .i64 (s1.length : Nat) ∧ Below w.heap.size w w') := by
  obtain ⟨C, D, h1, _⟩ := h
  exact mark_any w h1
theorem bmark_z (h : Both Z gm gz s1 s2 w) : Calls Try.prog 22 #[.pointer (some ⟨gz, 0, none⟩)] w (Ret fun v' w' => v' = .int .i64 (s2.length : Nat) ∧ Below w.heap.size w w') := by
  obtain ⟨C, D, _, h2, _⟩ := h
  exact rmark_any w h2
theorem bsub_m (h : Both Z gm gz s1 s2 w) (hz : s1.length ≤ 4294967296) : Calls Try.prog 23 #[.pointer (some ⟨gm, 0, none⟩)] w (Ret fun v' w' => (∃ R p c, v' = .slice p R.length c ∧ SubOf s1 R ∧ NewBs w w' R p c) ∧ Below w.heap.size w w') := by
  obtain ⟨C, D, h1, _⟩ := h
  exact msub_any w h1 hz
theorem bsub_z (h : Both Z gm gz s1 s2 w) (hnd : (s2.map (·.var)).Nodup) (hz : s2.length ≤ 4294967296) : Calls Try.prog 24 #[.pointer (some ⟨gz, 0, none⟩)] w (Ret fun v' w' => (∃ R p c, v' = .slice p R.length c ∧ SubOf s2 R ∧ NewBs w w' R p c) ∧ Below w.heap.size w w') := by
  obtain ⟨C, D, _, h2, _⟩ := h
  exact rsub_any w h2 hnd hz
end
theorem lTo_len (p l : Li) (b : Bool) (st : List Bd) : (lTo p l b st).length ≤ st.length + p.l.size + p.r.size := by
  unfold lTo
  split
  · have h1 := (mTo_take p.l (l.turn b).l st).2.1
    have h2 := (mTo_take p.r (l.turn b).r (mTo p.l (l.turn b).l st)).2.1
    omega
  · omega
theorem backTo_len (m : Int) (st : List Bd) : (backTo st m).length ≤ st.length := by
  unfold backTo
  split
  · rw [List.length_take]; omega
  · exact Nat.le_refl _
theorem LiIn.below {S : Nat → Prop} {w w' : World} {x : Li} {v : Value} (h : LiIn S w x v) (hb : Below w.heap.size w w') : LiIn S w' x v := h.keep (fun p x _ hx => bkeeps hb p x hx)

end Go.Proofs.Ytcmfjnadjddboaa

/- Rows of things of several cells, how they lie in memory. -/
namespace Go.Proofs.Ytcmfjnadjddboaa
open Go.RowKit

/-- The row at 'a' holds the things 'l', 'k' cells each. -/
def IsRow {α : Type} (w : World) (k : Nat) (R : World → α → List Value → Prop) (l : List α) (a : Option Addr) : Prop :=
  ∀ i (hi : i < l.length), ∃ (b o : Nat) (cs : List Value), a = some ⟨b, o, none⟩ ∧ cs.length = k ∧ (∀ j, j < k → w.cell? ⟨b, o + i * k + j, none⟩ = cs[j]?) ∧ R w l[i] cs

theorem IsRow.keep {α : Type} {w w' : World} {k : Nat} {R : World → α → List Value → Prop} {l : List α} {a : Option Addr} (h : IsRow w k R l a) (hb : Below w.heap.size w w') (hR : ∀ x cs, R w x cs → R w' x cs) : IsRow w' k R l a := by
  intro i hi
  obtain ⟨b, o, cs, h1, h2, h3, h4⟩ := h i hi
  refine ⟨b, o, cs, h1, h2, fun j hj => ?_, hR _ _ h4⟩
  have := h3 j hj
  rw [List.getElem?_eq_getElem (by omega)] at this ⊢
  exact bkeeps hb _ _ this

section
variable {H : Type} {enc : TypeId × Value → H} {P : Program} {w : World} {base : Nat} {spare : Nat → Bool} {held : Bool}

/-- A slice opened: its things, one by one. -/
theorem open_row {α : Type} [Inhabited α] {t e : TypeId} {k : Nat} {fuel : Nat} {cs : List Value} {x : DataW H × List MemPlace} (ht : P.underlying t = some (.slice e)) (hC : P.cellsOf e = k) (hk : 0 < k)
    (h : DataW.trod enc P w base spare held fuel t cs = some x) {R : World → α → List Value → Prop} {S : α → DataW H → Prop}
    (hel : ∀ n cs x, DataW.trod enc P w base spare held n e cs = some x → ∃ a : α, R w a cs ∧ S a x.1) :
    ∃ (l : List α) (a : Option Addr) (cap : Nat) (ds sp : List (DataW H)), cs = [.slice a l.length cap] ∧ l.length ≤ cap ∧ cap ≤ maxLen ∧ IsRow w k R l a ∧ ds.length = l.length ∧ (x.1 = .nil ∧ l = [] ∧ ds = [] ∨ x.1 = .slice ds sp) ∧
      ∀ i (hi : i < l.length) (hd : i < ds.length), S l[i] ds[i] := by
  rcases DataW.trod_slice ht h with ⟨rfl, rfl⟩ | ⟨a, len, cap, elems, rest, m, rfl, rfl, rfl, hb, hlc, hcm, hlen, hat, _, _⟩
  · exact ⟨[], none, 0, [], [], rfl, Nat.le_refl _, Nat.zero_le _, fun i hi => absurd hi (by simp), rfl, .inl ⟨rfl, rfl, rfl⟩, fun i hi => absurd hi (by simp)⟩
  · have hspot : 0 < len → ∃ b o, a = ⟨b, o, none⟩ := by
      intro h0
      have hk := hat 0 h0
      rw [hC, List.getElem?_eq_getElem (by omega)] at hk
      obtain ⟨cs', h1, _⟩ := Option.bind_eq_some_iff.1 hk
      obtain ⟨_, hl', hcell⟩ := World.cells?_some h1
      have c0 := hcell 0 (by omega)
      rw [List.getElem?_eq_getElem (by omega)] at c0
      have := World.cell?_spot c0
      obtain ⟨b, o, spot⟩ := a
      exact ⟨b, o, by simpa [Addr.add] using this⟩
    have key : ∀ i, i < len → ∃ t : α, (∃ (b o : Nat) (cs : List Value), some a = some ⟨b, o, none⟩ ∧ cs.length = k ∧ (∀ j, j < k → w.cell? ⟨b, o + i * k + j, none⟩ = cs[j]?) ∧ R w t cs) ∧
        ∀ (hd : i < elems.length), S t elems[i].1 := by
      intro i hi
      have hk := hat i hi
      rw [hC, List.getElem?_eq_getElem (by omega)] at hk
      obtain ⟨cs', h1, h2⟩ := Option.bind_eq_some_iff.1 hk
      obtain ⟨t, hR, hS⟩ := hel _ _ _ h2
      obtain ⟨_, hl', hcell⟩ := World.cells?_some h1
      obtain ⟨b, o, rfl⟩ := hspot (by omega)
      refine ⟨t, ⟨b, o, cs', rfl, hl', fun j hj => ?_, hR⟩, fun _ => hS⟩
      have := hcell j hj
      rwa [add_plain2, add_plain2] at this
    obtain ⟨F, hF⟩ := Go.Deep.choose_lt key
    have hLL : ((List.range len).map F).length = len := by simp
    refine ⟨(List.range len).map F, some a, cap, elems.map (·.1), rest.map (·.1), by rw [hLL], by rw [hLL]; exact hlc, hcm, fun i hi => ?_, by rw [hLL]; simpa using hlen, .inr rfl, fun i hi hd => ?_⟩
    · have := (hF i (by simpa using hi)).1
      simpa using this
    · have := (hF i (by simpa using hi)).2 (by simpa using hd)
      simpa using this
end


end Go.Proofs.Ytcmfjnadjddboaa

/- What a law's statement asks behind its call, where the call answers true and leaves all that was there as it was. -/
namespace Go.Proofs.Ytcmfjnadjddboaa
open Go.ChangeShapes Go.WideShapes Go.ChangeAt Go.RowKit

section
variable {H : Type} {enc : TypeId × Value → H} {P : Program}

theorem trodAll_below (hl : laidOutB P = true) {W W' : World} (hb : Below W.heap.size W W') : ∀ {ts : List TypeId} {vs : List Value} {ds : List (DataW H)} {ps : List MemPlace},
    (∀ t ∈ ts, P.readableRec t = true ∧ t < P.types.size) → (∀ x ∈ ps, x.block < W.heap.size) → DataW.TrodAll enc P W 0 (fun _ => true) true ts vs ds ps →
    DataW.TrodAll enc P W' 0 (fun b => decide (b < W.heap.size)) true ts vs ds ps
  | [], [], [], _, _, _, h => h
  | t :: ts, v :: vs, d :: ds, ps, hr, hlt, ⟨p, q, h1, h2, e⟩ => by
    subst e
    exact ⟨p, q, Below.trod hl (hr t (by simp)).1 (hr t (by simp)).2 h1 hb (fun x hx => hlt x (by simp [hx])), trodAll_below hl hb (fun t ht => hr t (by simp [ht])) (fun x hx => hlt x (by simp [hx])) h2, rfl⟩
  | [], _ :: _, _, _, _, _, h => h.elim
  | [], [], _ :: _, _, _, _, h => h.elim
  | _ :: _, [], _, _, _, _, h => h.elim
  | _ :: _, _ :: _, [], _, _, _, h => h.elim

theorem law_post {f : Func} {s : ChangeSpec} {W W' : World} {args : Array Value} {ds gs : List (DataW H)} {before : List MemPlace} {tb : TypeId} (hl : laidOutB P = true) (hr : ∀ t ∈ f.params.toList, P.readableRec t = true ∧ t < P.types.size)
    (htb : P.underlying tb = some .bool) (hrt : f.resultTypes = #[tb]) (hv : s.vars = []) (hs : s.fn H ds = { results := [.lit (.bool true)], args := ds })
    (hW : DataW.Whole enc P f.params.toList s.vars false W args.toList ds gs before) (hb : Below W.heap.size W W') : s.post enc P f false true false false W args (.bool true) W' := by
  have hlt : ∀ p ∈ before, p.block < W.heap.size := fun p hp => hW.lt p hp
  have hW0 := hW
  obtain ⟨p, q, hA, hV, hpq, _, _⟩ := hW
  rw [hv] at hV
  obtain ⟨rfl, rfl⟩ := trodVars_none hV
  refine ⟨ds, [], before, [], p, [], hW0, ?_, ?_, ?_, hb.frame _, fun h => by cases h⟩
  · rw [List.append_nil, hs, hrt]
    exact trodAll_cons_mk (shut_bool htb _) trodAll_mk0
  · rw [List.append_nil, hs]
    refine trodAll_below hl hb hr (fun x hx => hlt x ?_) hA
    rw [hpq]; simp [hx]
  · rw [List.append_nil, hv]
    have : (s.fn H ds).vars = [] := by rw [hs]
    rw [this]
    rfl
end

end Go.Proofs.Ytcmfjnadjddboaa

/- Arguments of a law, opened: terms, integers, truth values; rows in general. -/
namespace Go.Proofs.Ytcmfjnadjddboaa
open Go.ChangeShapes Go.WideShapes Go.ChangeAt Go.RowKit

theorem own : ownKnob Try.prog.godebug = none := by kernel_rfl

theorem one_le_bulk {H : Type} (d : DataW H) : 1 ≤ Rows.uptoBulk d := by
  cases d with
  | lit l => cases l <;> simp [Rows.uptoBulk]
  | _ => simp [Rows.uptoBulk]
theorem len_le_bulk {H : Type} (ds : List (DataW H)) : ds.length ≤ Rows.uptoBulkAll ds := by
  induction ds with
  | nil => simp
  | cons d r ih => have := one_le_bulk d; simp only [List.length_cons, Rows.uptoBulkAll]; omega
theorem readable_all {P : Program} {ts : List TypeId} (h : (ts.all fun t => P.readableRec t && Nat.blt t P.types.size) = true) : ∀ t ∈ ts, P.readableRec t = true ∧ t < P.types.size := by
  intro t ht
  have := List.all_eq_true.1 h t ht
  simp only [Bool.and_eq_true, Nat.blt_eq] at this
  exact this
theorem bulk_mem {H : Type} {l : List (DataW H)} (hk : Rows.uptoSmall H l = true) {d : DataW H} (h : d ∈ l) : Rows.uptoBulk d ≤ 1048576 :=
  Nat.le_trans (bulkAll_le h) (of_decide_eq_true hk)

section
variable {H : Type} {enc : TypeId × Value → H} {w : World} {base : Nat} {spare : Nat → Bool} {held : Bool}
set_option maxRecDepth 100000 in
theorem arg_T {r : Reach} {b : Nat} {v : Value} {d : DataW H} {p : List MemPlace} (h : Value.okWide Try.prog w r b 24 v) (ht : DataW.Trod enc Try.prog w base spare held 24 v d p) :
    ∃ t : T, IsT w t v ∧ t.size ≤ Rows.uptoBulk d := by
  obtain ⟨cs, rfl, _⟩ := okWide_struct Try.underlying24 h
  obtain ⟨fuel, hf⟩ := ht
  obtain ⟨t, u, v, e, h1, h2⟩ := open_T _ _ _ hf
  have e' : cs = #[u, v] := by
    apply Array.toList_inj.1
    exact e
  subst e'
  exact ⟨t, h1, h2⟩
set_option maxRecDepth 100000 in
theorem arg_int {r : Reach} {b : Nat} {v : Value} {d : DataW H} {p : List MemPlace} (h : Value.okWide Try.prog w r b 3 v) (ht : DataW.Trod enc Try.prog w base spare held 3 v d p) :
    ∃ n : Int, v = .int .i64 n ∧ I64 n := by
  obtain ⟨n, rfl⟩ := okWide_int Try.underlying3 h
  obtain ⟨fuel, hf⟩ := ht
  obtain ⟨m, e, _, wf⟩ := DataW.trod_int Try.underlying3 hf
  have e' : (.int .i64 n : Value) = .int .i64 m := by simpa [Value.cells] using e
  simp only [Value.int.injEq, true_and] at e'
  exact ⟨n, rfl, by rw [e']; exact i64_wf wf⟩

theorem bulk_at {H : Type} : ∀ {ds : List (DataW H)} {d : DataW H}, d ∈ ds → Rows.uptoBulk d ≤ Rows.uptoBulkAll ds
  | [], _, h => nomatch h
  | x :: r, d, h => by
    rw [Rows.uptoBulkAll]
    rcases List.mem_cons.1 h with rfl | h
    · omega
    · have := bulk_at h; omega
/-- A row that was opened, as the rows of elements have it. -/
theorem inRow_of {α : Type} {E : Elt α} {R : World → α → List Value → Prop} {l : List α} {a : Option Addr} (hR : ∀ x cs, R w x cs → E.In (fun _ => True) w x cs) (h : IsRow w E.k R l a) : InRow E (fun _ => True) w l a := fun i hi => by
  obtain ⟨b, o, cs, h1, _, h3, h4⟩ := h i hi
  exact ⟨b, o, cs, h1, trivial, hR _ _ h4, h3⟩
theorem IsT.inTrue {t : T} {v : Value} (h : IsT w t v) : InT (fun _ => True) w t v := InT.mono (fun _ _ _ => trivial) (IsT.inT h)
end

end Go.Proofs.Ytcmfjnadjddboaa

/- Acts (what a matcher is asked): how they lie in memory, as a law's argument. -/
namespace Go.Proofs.Ytcmfjnadjddboaa
open Go.ChangeShapes Go.WideShapes Go.ChangeAt Go.RowKit Go
set_option linter.unusedVariables false
set_option linter.unusedSimpArgs false

structure Ac where
  kind : Int
  p : T
  t : T
  q : T
  u : T
  a : Bool
  b : Bool
  n : Int
instance : Inhabited Ac := ⟨⟨0, .mk 0 [], .mk 0 [], .mk 0 [], .mk 0 [], false, false, 0⟩⟩
def Ac.size (x : Ac) : Nat := x.p.size + x.t.size + x.q.size + x.u.size
def acsz : List Ac → Nat
  | [] => 0
  | x :: l => x.size + acsz l
def xget (l : List Ac) (k : Nat) : Ac := l.getD k default
theorem xget_lt {l : List Ac} {k : Nat} (h : k < l.length) : xget l k = l[k] := by simp [xget, h]
theorem acsz_take : ∀ {l : List Ac} {k : Nat}, k < l.length → acsz (l.take (k + 1)) = acsz (l.take k) + (xget l k).size
  | x :: l, 0, _ => by simp [acsz, xget]
  | x :: l, k + 1, h => by
    have := acsz_take (l := l) (k := k) (by simpa using h)
    simp only [List.take_succ_cons, acsz]
    rw [this]
    simp [xget, Nat.add_assoc]
theorem acsz_le : ∀ {l : List Ac} {k : Nat}, acsz (l.take k) ≤ acsz l
  | [], k => by simp
  | x :: l, 0 => by simp [acsz]
  | x :: l, k + 1 => by
    have := acsz_le (l := l) (k := k)
    simp only [List.take_succ_cons, acsz]; omega
theorem xsz_le {l : List Ac} {k : Nat} (h : k < l.length) : (xget l k).size ≤ acsz l := by
  have h1 := acsz_take h
  have h2 := acsz_le (l := l) (k := k + 1)
  omega
def eltA : Elt Ac where
  k := 12
  In := fun S w x cs => I64 x.kind ∧ I64 x.n ∧ ∃ u1 u2 u3 u4 u5 u6 u7 u8, cs = [.int .i64 x.kind, u1, u2, u3, u4, u5, u6, u7, u8, .bool x.a, .bool x.b, .int .i64 x.n] ∧ InT S w x.p (.agg #[u1, u2]) ∧ InT S w x.t (.agg #[u3, u4]) ∧ InT S w x.q (.agg #[u5, u6]) ∧ InT S w x.u (.agg #[u7, u8])
  keep := fun hb ⟨k, n, u1, u2, u3, u4, u5, u6, u7, u8, e, h0, h1, h2, h3⟩ => ⟨k, n, u1, u2, u3, u4, u5, u6, u7, u8, e, h0.keep hb, h1.keep hb, h2.keep hb, h3.keep hb⟩
  mono := fun hb ⟨k, n, u1, u2, u3, u4, u5, u6, u7, u8, e, h0, h1, h2, h3⟩ => ⟨k, n, u1, u2, u3, u4, u5, u6, u7, u8, e, h0.mono hb, h1.mono hb, h2.mono hb, h3.mono hb⟩
  len := fun ⟨_, _, _, _, _, _, _, _, _, _, e, _⟩ => by rw [e]; rfl
  one := fun ⟨_, _, u1, u2, u3, u4, u5, u6, u7, u8, e, h0, h1, h2, h3⟩ x hx => by
    obtain ⟨a1, c1, rfl, rfl⟩ := h0.parts
    obtain ⟨a2, c2, rfl, rfl⟩ := h1.parts
    obtain ⟨a3, c3, rfl, rfl⟩ := h2.parts
    obtain ⟨a4, c4, rfl, rfl⟩ := h3.parts
    rw [e] at hx
    simp only [List.mem_cons, List.not_mem_nil, or_false] at hx
    rcases hx with rfl | rfl | rfl | rfl | rfl | rfl | rfl | rfl | rfl | rfl | rfl | rfl <;> rfl
theorem InRow.openA {S : Nat → Prop} {w : World} {l : List Ac} {a : Option Addr} (h : InRow eltA S w l a) {k : Nat} (hk : k < l.length) : ∃ (b o : Nat) (a1 a2 a3 a4 : Option Addr) (c1 c2 c3 c4 : Nat), a = some ⟨b, o, none⟩ ∧
    w.cell? ⟨b, o + k * 12, none⟩ = some (.int .i64 (xget l k).kind) ∧ w.cell? ⟨b, o + k * 12 + 1, none⟩ = some (.int .i64 (xget l k).p.f) ∧ w.cell? ⟨b, o + k * 12 + 2, none⟩ = some (.slice a1 (xget l k).p.args.length c1) ∧
    w.cell? ⟨b, o + k * 12 + 3, none⟩ = some (.int .i64 (xget l k).t.f) ∧ w.cell? ⟨b, o + k * 12 + 4, none⟩ = some (.slice a2 (xget l k).t.args.length c2) ∧ w.cell? ⟨b, o + k * 12 + 5, none⟩ = some (.int .i64 (xget l k).q.f) ∧ w.cell? ⟨b, o + k * 12 + 6, none⟩ = some (.slice a3 (xget l k).q.args.length c3) ∧
    w.cell? ⟨b, o + k * 12 + 7, none⟩ = some (.int .i64 (xget l k).u.f) ∧ w.cell? ⟨b, o + k * 12 + 8, none⟩ = some (.slice a4 (xget l k).u.args.length c4) ∧ w.cell? ⟨b, o + k * 12 + 9, none⟩ = some (.bool (xget l k).a) ∧ w.cell? ⟨b, o + k * 12 + 10, none⟩ = some (.bool (xget l k).b) ∧ w.cell? ⟨b, o + k * 12 + 11, none⟩ = some (.int .i64 (xget l k).n) ∧
    InT S w (xget l k).p (.agg #[.int .i64 (xget l k).p.f, .slice a1 (xget l k).p.args.length c1]) ∧ InT S w (xget l k).t (.agg #[.int .i64 (xget l k).t.f, .slice a2 (xget l k).t.args.length c2]) ∧
    InT S w (xget l k).q (.agg #[.int .i64 (xget l k).q.f, .slice a3 (xget l k).q.args.length c3]) ∧ InT S w (xget l k).u (.agg #[.int .i64 (xget l k).u.f, .slice a4 (xget l k).u.args.length c4]) ∧ I64 (xget l k).kind ∧ I64 (xget l k).n := by
  obtain ⟨b, o, cs, ha, _, ⟨hk1, hk2, u1, u2, u3, u4, u5, u6, u7, u8, rfl, h0, h1, h2, h3⟩, hc⟩ := h k hk
  obtain ⟨a1, c1, rfl, rfl⟩ := h0.parts
  obtain ⟨a2, c2, rfl, rfl⟩ := h1.parts
  obtain ⟨a3, c3, rfl, rfl⟩ := h2.parts
  obtain ⟨a4, c4, rfl, rfl⟩ := h3.parts
  rw [xget_lt hk]
  exact ⟨b, o, a1, a2, a3, a4, c1, c2, c3, c4, ha, hc 0 (by decide), hc 1 (by decide), hc 2 (by decide), hc 3 (by decide), hc 4 (by decide), hc 5 (by decide), hc 6 (by decide), hc 7 (by decide), hc 8 (by decide), hc 9 (by decide), hc 10 (by decide), hc 11 (by decide), h0, h1, h2, h3, hk1, hk2⟩

section
variable {H : Type} {enc : TypeId × Value → H} {w : World} {base : Nat} {spare : Nat → Bool} {held : Bool}
def IsAcC (w : World) (x : Ac) (cs : List Value) : Prop := eltA.In (fun _ => True) w x cs
set_option maxRecDepth 100000 in
theorem open_Ac (fuel : Nat) (cs : List Value) (x : DataW H × List MemPlace) (h : DataW.trod enc Try.prog w base spare held fuel 39 cs = some x) :
    ∃ y : Ac, IsAcC w y cs ∧ 1 + y.size ≤ Rows.uptoBulk x.1 := by
  have hC : Try.prog.cellsOf 39 = 12 := by kernel_rfl
  have hCi : Try.prog.cellsOf 3 = 1 := by kernel_rfl
  have hCb : Try.prog.cellsOf 4 = 1 := by kernel_rfl
  have hCt : Try.prog.cellsOf 24 = 2 := by kernel_rfl
  obtain ⟨xs, n, rfl, rfl, hl, hlen, hf⟩ := DataW.trod_struct Try.underlying39 h
  rw [hC] at hl
  match xs, hlen, cs, hl with
  | [y0, y1, y2, y3, y4, y5, y6, y7], _, [c0, c1, c2, c3, c4, c5, c6, c7, c8, c9, c10, c11], _ =>
    have g0 : DataW.trod enc Try.prog w base spare held n 3 [c0] = some y0 := by simpa [hCi] using hf 0 _ rfl
    have g1 : DataW.trod enc Try.prog w base spare held n 24 [c1, c2] = some y1 := by simpa [hCt] using hf 1 _ rfl
    have g2 : DataW.trod enc Try.prog w base spare held n 24 [c3, c4] = some y2 := by simpa [hCt] using hf 2 _ rfl
    have g3 : DataW.trod enc Try.prog w base spare held n 24 [c5, c6] = some y3 := by simpa [hCt] using hf 3 _ rfl
    have g4 : DataW.trod enc Try.prog w base spare held n 24 [c7, c8] = some y4 := by simpa [hCt] using hf 4 _ rfl
    have g5 : DataW.trod enc Try.prog w base spare held n 4 [c9] = some y5 := by simpa [hCb] using hf 5 _ rfl
    have g6 : DataW.trod enc Try.prog w base spare held n 4 [c10] = some y6 := by simpa [hCb] using hf 6 _ rfl
    have g7 : DataW.trod enc Try.prog w base spare held n 3 [c11] = some y7 := by simpa [hCi] using hf 7 _ rfl
    obtain ⟨m0, e0, _, wf0⟩ := DataW.trod_int Try.underlying3 g0
    obtain ⟨m7, e7, _, wf7⟩ := DataW.trod_int Try.underlying3 g7
    obtain ⟨b5, e5, rfl⟩ := DataW.trod_bool Try.underlying4 g5
    obtain ⟨b6, e6, rfl⟩ := DataW.trod_bool Try.underlying4 g6
    simp only [List.cons.injEq, and_true] at e0 e5 e6 e7
    subst e0 e5 e6 e7
    obtain ⟨t1, u1, u2, e1, h1, s1⟩ := open_T _ _ _ g1
    obtain ⟨t2, u3, u4, e2, h2, s2⟩ := open_T _ _ _ g2
    obtain ⟨t3, u5, u6, e3, h3, s3⟩ := open_T _ _ _ g3
    obtain ⟨t4, u7, u8, e4, h4, s4⟩ := open_T _ _ _ g4
    simp only [List.cons.injEq, and_true] at e1 e2 e3 e4
    obtain ⟨rfl, rfl⟩ := e1
    obtain ⟨rfl, rfl⟩ := e2
    obtain ⟨rfl, rfl⟩ := e3
    obtain ⟨rfl, rfl⟩ := e4
    exact ⟨⟨m0, t1, t2, t3, t4, b5, b6, m7⟩, ⟨i64_wf wf0, i64_wf wf7, _, _, _, _, _, _, _, _, rfl, h1.inTrue, h2.inTrue, h3.inTrue, h4.inTrue⟩, by simp only [List.map_cons, List.map_nil, Rows.uptoBulk, Rows.uptoBulkAll, Ac.size]; omega⟩
theorem acsz_bulk : ∀ {l : List Ac} {ds : List (DataW H)}, ds.length = l.length → (∀ i (hi : i < l.length) (hd : i < ds.length), 1 + (l[i]).size ≤ Rows.uptoBulk ds[i]) → acsz l ≤ Rows.uptoBulkAll ds
  | [], _, _, _ => Nat.zero_le _
  | x :: l, [], h, _ => by simp at h
  | x :: l, d :: ds, h, hs => by
    have h0 := hs 0 (by simp) (by simp)
    have := acsz_bulk (l := l) (ds := ds) (by simpa using h) (fun i hi hd => by have z := hs (i + 1) (by simpa using hi) (by simpa using hd); exact z)
    simp only [acsz, Rows.uptoBulkAll]
    simp only [List.getElem_cons_zero] at h0
    omega
set_option maxRecDepth 100000 in
theorem arg_Acs {r : Reach} {b : Nat} {v : Value} {d : DataW H} {p : List MemPlace} (h : Value.okWide Try.prog w r b 32 v) (ht : DataW.Trod enc Try.prog w base spare held 32 v d p) (hk : Rows.uptoBulk d ≤ 1048576) :
    ∃ (l : List Ac) (a : Option Addr) (c : Nat), v = .slice a l.length c ∧ InRow eltA (fun _ => True) w l a ∧ l.length ≤ c ∧ c ≤ maxLen ∧ acsz l ≤ 1048576 := by
  obtain ⟨a, n, c, rfl⟩ := okWide_slice Try.underlying32 h
  obtain ⟨fuel, hf⟩ := ht
  obtain ⟨l, a', c', ds, sp, e, h1, h2, h3, h4, h5, h6⟩ := open_row Try.underlying32 (k := 12) (by kernel_rfl) (by omega) hf (R := IsAcC) (S := fun y d => 1 + y.size ≤ Rows.uptoBulk d) (fun n cs x hx => open_Ac n cs x hx)
  have e' : Value.slice a n c = .slice a' l.length c' := by simpa [Value.cells] using e
  refine ⟨l, a', c', e', inRow_of (E := eltA) (fun _ _ h => h) h3, h1, h2, ?_⟩
  rcases h5 with ⟨_, rfl, _⟩ | e
  · exact Nat.zero_le _
  · have h7 := acsz_bulk h4 h6
    have e2 : d = .slice ds sp := e
    rw [e2] at hk; simp only [Rows.uptoBulk] at hk; omega
end

end Go.Proofs.Ytcmfjnadjddboaa

namespace Go.Proofs.Ytcmfjnadjddboaa
open Go.RowKit Go

section
variable {P : Program} {ops : Array Oper}
/-- What an operation finds. -/
structure CtxK (ops : Array Oper) (l : List (Bool × Value)) (n : Fr) (K : Known) (w0 : World) (S : Nat → Prop) (I : World → Prop) (o : Oper) (a : Act) (w : World) : Prop where
  chg : Chg S w0 w
  inv : I w
  kn : Kn n K a
  dep : ∀ j d, depB ops o j d = true → valR l j (a.tmps.getD d undef)
def SoundK (P : Program) (ops : Array Oper) (Q : Exit → Act → World → Prop) (l : List (Bool × Value)) (n : Fr) (K : Known) (w0 : World) (S : Nat → Prop) (I : World → Prop) : Nat → List Oper → Prop
  | _, [] => True
  | i, o :: r => (∃ β, GuardIs (fun i v _ => valR l i v) o β ∧ (β = false → valR l i undef) ∧
      (β = true → ∀ a w, CtxK ops l n K w0 S I o a w → o.wp P a w (fun a' w' => ∃ v, a' = Act.put a o.dst v ∧ Chg S w0 w' ∧ I w' ∧ valR l i v) Q)) ∧ SoundK P ops Q l n K w0 S I (i + 1) r
theorem SoundK.gen {Q : Exit → Act → World → Prop} {l : List (Bool × Value)} {n : Fr} {K : Known} {w0 : World} {S : Nat → Prop} {I : World → Prop} : ∀ {lo : List Oper} {i : Nat}, SoundK P ops Q l n K w0 S I i lo →
    SoundFromG P ops Q [] (fun i v _ => valR l i v) (fun _ _ => True) (fun _ w => Chg S w0 w ∧ I w) n K i lo
  | [], _, _ => trivial
  | o :: r, i, ⟨⟨β, h1, h2, h3⟩, h4⟩ => by
    refine ⟨.inl ⟨rfl, β, h1, fun _ _ _ => rfl, fun e _ => h2 e, fun hβ a w vs C => ?_⟩, h4.gen⟩
    refine Oper.wpIn_mono ?_ (wpIn_of (h3 hβ a w ⟨C.now.1, C.now.2, C.kn, fun j d hj => C.dep j d hj rfl⟩) (by rintro a' w' h; first | (obtain ⟨v, rfl, _⟩ := h; exact put_defers _ _ _) | (obtain ⟨_, _, rfl, _⟩ := h; exact put_defers _ _ _) | (obtain ⟨rfl, _⟩ := h; exact put_defers _ _ _)))
    rintro a' w' ⟨v, rfl, hc, hi, hv⟩
    exact ⟨v, rfl, trivial, ⟨hc, hi⟩, hv⟩
theorem WC.optc {id : Nat} {dr : Bool} {Q : Exit → Act → World → Prop} {n : Fr} {K : Known} {w : World} (l : List (Bool × Value)) (K0 : Known) {S : Nat → Prop} {I : World → Prop} (hI : ∀ w w', Below w.heap.size w w' → I w → I w') (hi : I w)
    (hs : subK K0 K) (hclear : clearB ops K0 = true) (hm : P.follows .mixedOrders = true) (hB : opsB ops n.n = true)
    (h : SoundK P ops Q l n K0 w S I 0 ops.toList)
    (hQ : ∀ (a : Act) (w' : World), Kn n K0 a → Chg S w w' → I w' → (∀ i d, (ops[i]?).bind (·.dst) = some d → valR l i (a.tmps.getD d undef)) → Q .normal a w') :
    WC P n K w (.region id ops dr) Q := by
  refine WC.gen [] (fun i v _ => valR l i v) (fun _ _ => True) (fun _ w' => Chg S w w' ∧ I w') K0 hs hclear hm hB List.nodup_nil rfl (fun _ _ _ _ h _ => h) ?_ h.gen (fun a w' vs hk _ _ hG hu _ => hQ a w' hk hG.1 hG.2 (fun i d hd => hu i d hd rfl))
  cases dr with
  | true => exact ⟨.ofBelow (Below.refl _ _).drew, hI _ _ (Below.refl _ _).drew hi⟩
  | false => exact ⟨.refl _ _, hi⟩
end

/-! ### Two new blocks, two stores -/

section
variable {w0 w w' : World} {t1 t2 g : Nat} {z1 c1 z2 c2 : Array Value} {va vb vp vq : Option Value}
structure TwoS (w0 : World) (t1 : Nat) (z1 c1 : Array Value) (t2 : Nat) (z2 c2 : Array Value) (va vb vp vq : Option Value) (w : World) : Prop where
  below : Below w0.heap.size w0 w
  a : ∀ v, va = some v → ∃ g, v = .pointer (some ⟨g, 0, none⟩) ∧ w0.heap.size ≤ g ∧ Blk w g t1 (if vp.isSome then c1 else z1)
  b : ∀ v, vb = some v → ∃ g, v = .pointer (some ⟨g, 0, none⟩) ∧ w0.heap.size ≤ g ∧ Blk w g t2 (if vq.isSome then c2 else z2)
  ne : ∀ v u, va = some v → vb = some u → v ≠ u
  pa : va = none → vp = none
  qb : vb = none → vq = none
def TwoG (w0 : World) (t1 : Nat) (z1 c1 : Array Value) (t2 : Nat) (z2 c2 : Array Value) : List (Option Value) → World → Prop
  | [va, vb, vp, vq], w => TwoS w0 t1 z1 c1 t2 z2 c2 va vb vp vq w
  | _, _ => False
theorem TwoS.allocA (h : TwoS w0 t1 z1 c1 t2 z2 c2 none vb vp vq w) : TwoS w0 t1 z1 c1 t2 z2 c2 (some (.pointer (some ⟨w.heap.size, 0, none⟩))) vb vp vq (w.alloc (.cells z1 t1)) := by
  have hp := h.pa rfl
  subst hp
  refine ⟨bstep h.below (balloc _ _), fun v hv => ⟨_, (Option.some.inj hv).symm, h.below.size, Blk.new' rfl⟩, fun v hv => ?_, fun v u hv hu => ?_, fun e => (by cases e), h.qb⟩
  · obtain ⟨g, h1, h2, h3⟩ := h.b v hv
    exact ⟨g, h1, h2, h3.below (balloc _ _)⟩
  · obtain ⟨g, rfl, _, h3⟩ := h.b u hu
    obtain rfl := Option.some.inj hv
    have := h3.lt
    simp only [ne_eq, Value.pointer.injEq, Option.some.injEq, Addr.mk.injEq, and_true]
    omega
theorem TwoS.allocB (h : TwoS w0 t1 z1 c1 t2 z2 c2 va none vp vq w) : TwoS w0 t1 z1 c1 t2 z2 c2 va (some (.pointer (some ⟨w.heap.size, 0, none⟩))) vp vq (w.alloc (.cells z2 t2)) := by
  have hp := h.qb rfl
  subst hp
  refine ⟨bstep h.below (balloc _ _), fun v hv => ?_, fun v hv => ⟨_, (Option.some.inj hv).symm, h.below.size, Blk.new' rfl⟩, fun v u hv hu => ?_, h.pa, fun e => (by cases e)⟩
  · obtain ⟨g, h1, h2, h3⟩ := h.a v hv
    exact ⟨g, h1, h2, h3.below (balloc _ _)⟩
  · obtain ⟨g, rfl, _, h3⟩ := h.a v hv
    obtain rfl := Option.some.inj hu
    have := h3.lt
    simp only [ne_eq, Value.pointer.injEq, Option.some.injEq, Addr.mk.injEq, and_true]
    omega
theorem TwoS.storeA {q : Value} (h : TwoS w0 t1 z1 c1 t2 z2 c2 (some (.pointer (some ⟨g, 0, none⟩))) vb none vq w) (hu : Upd g w w') (hB : Blk w' g t1 c1) : TwoS w0 t1 z1 c1 t2 z2 c2 (some (.pointer (some ⟨g, 0, none⟩))) vb (some q) vq w' := by
  obtain ⟨g', e, h1, _⟩ := h.a _ rfl
  simp only [Value.pointer.injEq, Option.some.injEq, Addr.mk.injEq, and_true] at e
  subst e
  refine ⟨upd_below h.below hu h1, fun v hv => ⟨g, (Option.some.inj hv).symm, h1, by simpa using hB⟩, fun v hv => ?_, h.ne, fun e => (by cases e), h.qb⟩
  obtain ⟨g2, rfl, h2, h3⟩ := h.b v hv
  have := h.ne _ _ rfl hv
  simp only [ne_eq, Value.pointer.injEq, Option.some.injEq, Addr.mk.injEq, and_true] at this
  exact ⟨g2, rfl, h2, upd_blk h3 hu (fun e => this e.symm)⟩
theorem TwoS.storeB {q : Value} (h : TwoS w0 t1 z1 c1 t2 z2 c2 va (some (.pointer (some ⟨g, 0, none⟩))) vp none w) (hu : Upd g w w') (hB : Blk w' g t2 c2) : TwoS w0 t1 z1 c1 t2 z2 c2 va (some (.pointer (some ⟨g, 0, none⟩))) vp (some q) w' := by
  obtain ⟨g', e, h1, _⟩ := h.b _ rfl
  simp only [Value.pointer.injEq, Option.some.injEq, Addr.mk.injEq, and_true] at e
  subst e
  refine ⟨upd_below h.below hu h1, fun v hv => ?_, fun v hv => ⟨g, (Option.some.inj hv).symm, h1, by simpa using hB⟩, h.ne, h.pa, fun e => (by cases e)⟩
  obtain ⟨g2, rfl, h2, h3⟩ := h.a v hv
  have := h.ne _ _ hv rfl
  simp only [ne_eq, Value.pointer.injEq, Option.some.injEq, Addr.mk.injEq, and_true] at this
  exact ⟨g2, rfl, h2, upd_blk h3 hu this⟩
end

section
variable {P : Program} {ops : Array Oper}
structure CtxT (ops : Array Oper) (l : List (Bool × Value)) (chain : List Nat) (n : Fr) (K : Known) (w0 : World) (o : Oper) (a : Act) (w : World) : Prop where
  below : Below w0.heap.size w0 w
  kn : Kn n K a
  dep : ∀ j d, depB ops o j d = true → chain.contains j = false → valR l j (a.tmps.getD d undef)
def SoundT (P : Program) (ops : Array Oper) (Q : Exit → Act → World → Prop) (l : List (Bool × Value)) (n : Fr) (K : Known) (w0 : World) (t1 : Nat) (z1 c1 : Array Value) (t2 : Nat) (z2 c2 : Array Value) (ia ib ip iq : Nat) : Nat → List Oper → Prop
  | _, [] => True
  | i, o :: r => (([ia, ib, ip, iq].contains i = false ∧ o.guard = none ∧
        (∀ a w, CtxT ops l [ia, ib, ip, iq] n K w0 o a w → o.wp P a w (fun a' w' => ∃ v, a' = Act.put a o.dst v ∧ w' = w ∧ valR l i v) Q)) ∨
      (i = ia ∧ o.guard = none ∧ ∀ a w, CtxT ops l [ia, ib, ip, iq] n K w0 o a w → o.wp P a w (fun a' w' => a' = Act.put a o.dst (.pointer (some ⟨w.heap.size, 0, none⟩)) ∧ w' = w.alloc (.cells z1 t1)) Q) ∨
      (i = ib ∧ o.guard = none ∧ ∀ a w, CtxT ops l [ia, ib, ip, iq] n K w0 o a w → o.wp P a w (fun a' w' => a' = Act.put a o.dst (.pointer (some ⟨w.heap.size, 0, none⟩)) ∧ w' = w.alloc (.cells z2 t2)) Q) ∨
      (i = ip ∧ o.guard = none ∧ ∃ dp, depB ops o ia dp = true ∧ ∀ a w g, CtxT ops l [ia, ib, ip, iq] n K w0 o a w → a.tmps.getD dp undef = .pointer (some ⟨g, 0, none⟩) → Blk w g t1 z1 → o.wp P a w (fun a' w' => ∃ v, a' = Act.put a o.dst v ∧ Upd g w w' ∧ Blk w' g t1 c1) Q) ∨
      (i = iq ∧ o.guard = none ∧ ∃ dp, depB ops o ib dp = true ∧ ∀ a w g, CtxT ops l [ia, ib, ip, iq] n K w0 o a w → a.tmps.getD dp undef = .pointer (some ⟨g, 0, none⟩) → Blk w g t2 z2 → o.wp P a w (fun a' w' => ∃ v, a' = Act.put a o.dst v ∧ Upd g w w' ∧ Blk w' g t2 c2) Q)) ∧ SoundT P ops Q l n K w0 t1 z1 c1 t2 z2 c2 ia ib ip iq (i + 1) r
theorem SoundT.gen {Q : Exit → Act → World → Prop} {l : List (Bool × Value)} {n : Fr} {K : Known} {w0 : World} {t1 : Nat} {z1 c1 : Array Value} {t2 : Nat} {z2 c2 : Array Value} {ia ib ip iq : Nat} : ∀ {lo : List Oper} {i : Nat}, SoundT P ops Q l n K w0 t1 z1 c1 t2 z2 c2 ia ib ip iq i lo →
    SoundFromG P ops Q [ia, ib, ip, iq] (fun i v _ => valR l i v) (fun _ _ => True) (TwoG w0 t1 z1 c1 t2 z2 c2) n K i lo
  | [], _, _ => trivial
  | o :: r, i, ⟨h, hr⟩ => by
    refine ⟨?_, hr.gen⟩
    have mk : ∀ {a : Act} {w : World} {vs : List (Option Value)} (_ : CtxG ops [ia, ib, ip, iq] (fun i v _ => valR l i v) (TwoG w0 t1 z1 c1 t2 z2 c2) n K i o a w vs), CtxT ops l [ia, ib, ip, iq] n K w0 o a w := by
      intro a w vs C
      match vs, C.len, C.now with
      | [va, vb, vp, vq], _, hG => exact ⟨TwoS.below hG, C.kn, C.dep⟩
    rcases h with ⟨h1, h2, h3⟩ | ⟨rfl, h1, h2⟩ | ⟨rfl, h1, h2⟩ | ⟨rfl, h1, dp, h2, h3⟩ | ⟨rfl, h1, dp, h2, h3⟩
    · refine .inl ⟨h1, true, .none h2, fun g b hb => by (rw [h2] at hb; cases hb), fun e => (by cases e), fun _ a w vs C => ?_⟩
      refine Oper.wpIn_mono ?_ (wpIn_of (h3 a w (mk C)) (by rintro a' w' h; first | (obtain ⟨v, rfl, _⟩ := h; exact put_defers _ _ _) | (obtain ⟨_, _, rfl, _⟩ := h; exact put_defers _ _ _) | (obtain ⟨rfl, _⟩ := h; exact put_defers _ _ _)))
      rintro a' w' ⟨v, rfl, rfl, hv⟩
      exact ⟨v, rfl, trivial, C.now, hv⟩
    · refine .inr ⟨0, rfl, h1, fun a w vs C hn => ?_⟩
      refine Oper.wpIn_mono ?_ (wpIn_of (h2 a w (mk C)) (by rintro a' w' h; first | (obtain ⟨v, rfl, _⟩ := h; exact put_defers _ _ _) | (obtain ⟨_, _, rfl, _⟩ := h; exact put_defers _ _ _) | (obtain ⟨rfl, _⟩ := h; exact put_defers _ _ _)))
      rintro a' w' ⟨rfl, rfl⟩
      match vs, C.len, hn, C.now with
      | [va, vb, vp, vq], _, hn, hG =>
        simp only [List.getElem?_cons_zero, Option.some.injEq] at hn
        subst hn
        exact ⟨_, rfl, trivial, TwoS.allocA hG⟩
    · refine .inr ⟨1, rfl, h1, fun a w vs C hn => ?_⟩
      refine Oper.wpIn_mono ?_ (wpIn_of (h2 a w (mk C)) (by rintro a' w' h; first | (obtain ⟨v, rfl, _⟩ := h; exact put_defers _ _ _) | (obtain ⟨_, _, rfl, _⟩ := h; exact put_defers _ _ _) | (obtain ⟨rfl, _⟩ := h; exact put_defers _ _ _)))
      rintro a' w' ⟨rfl, rfl⟩
      match vs, C.len, hn, C.now with
      | [va, vb, vp, vq], _, hn, hG =>
        simp only [List.getElem?_cons_zero, List.getElem?_cons_succ, Option.some.injEq] at hn
        subst hn
        exact ⟨_, rfl, trivial, TwoS.allocB hG⟩
    · refine .inr ⟨2, rfl, h1, fun a w vs C hn => ?_⟩
      have e0 := C.link 0 ia dp rfl h2
      match vs, C.len, hn, e0, C.now, C with
      | [va, vb, vp, vq], _, hn, e0, hG, C =>
        simp only [List.getElem?_cons_zero, List.getElem?_cons_succ, Option.some.injEq] at hn e0
        subst hn e0
        obtain ⟨g, h5, _, h6⟩ := TwoS.a hG _ rfl
        refine Oper.wpIn_mono ?_ (wpIn_of (h3 a w g (mk C) h5 (by simpa using h6)) (by rintro a' w' h; first | (obtain ⟨v, rfl, _⟩ := h; exact put_defers _ _ _) | (obtain ⟨_, _, rfl, _⟩ := h; exact put_defers _ _ _) | (obtain ⟨rfl, _⟩ := h; exact put_defers _ _ _)))
        rintro a' w' ⟨v, rfl, h7, h8⟩
        have hG' : TwoS w0 t1 z1 c1 t2 z2 c2 (some (a.tmps.getD dp undef)) vb none vq w := hG
        rw [h5] at hG'
        refine ⟨v, rfl, trivial, ?_⟩
        show TwoS w0 t1 z1 c1 t2 z2 c2 (some (a.tmps.getD dp undef)) vb (some v) vq w'
        rw [h5]
        exact TwoS.storeA hG' h7 h8
    · refine .inr ⟨3, rfl, h1, fun a w vs C hn => ?_⟩
      have e0 := C.link 1 ib dp rfl h2
      match vs, C.len, hn, e0, C.now, C with
      | [va, vb, vp, vq], _, hn, e0, hG, C =>
        simp only [List.getElem?_cons_zero, List.getElem?_cons_succ, Option.some.injEq] at hn e0
        subst hn e0
        obtain ⟨g, h5, _, h6⟩ := TwoS.b hG _ rfl
        refine Oper.wpIn_mono ?_ (wpIn_of (h3 a w g (mk C) h5 (by simpa using h6)) (by rintro a' w' h; first | (obtain ⟨v, rfl, _⟩ := h; exact put_defers _ _ _) | (obtain ⟨_, _, rfl, _⟩ := h; exact put_defers _ _ _) | (obtain ⟨rfl, _⟩ := h; exact put_defers _ _ _)))
        rintro a' w' ⟨v, rfl, h7, h8⟩
        have hG' : TwoS w0 t1 z1 c1 t2 z2 c2 va (some (a.tmps.getD dp undef)) vp none w := hG
        rw [h5] at hG'
        refine ⟨v, rfl, trivial, ?_⟩
        show TwoS w0 t1 z1 c1 t2 z2 c2 va (some (a.tmps.getD dp undef)) vp (some v) w'
        rw [h5]
        exact TwoS.storeB hG' h7 h8
theorem WC.two {id : Nat} {dr : Bool} {Q : Exit → Act → World → Prop} {n : Fr} {K : Known} {w : World} (l : List (Bool × Value)) (K0 : Known) {t1 : Nat} {z1 c1 : Array Value} {t2 : Nat} {z2 c2 : Array Value} (ia ib ip iq da db : Nat)
    (hd : ([ia, ib, ip, iq]).Nodup) (hin : (([ia, ib, ip, iq]).all fun c => Nat.blt c ops.size) = true) (hda : (ops[ia]?).bind (·.dst) = some da) (hdb : (ops[ib]?).bind (·.dst) = some db)
    (hs : subK K0 K) (hclear : clearB ops K0 = true) (hm : P.follows .mixedOrders = true) (hB : opsB ops n.n = true)
    (h : SoundT P ops Q l n K0 w t1 z1 c1 t2 z2 c2 ia ib ip iq 0 ops.toList)
    (hQ : ∀ (a : Act) (w' : World) (g1 g2 : Nat), Kn n K0 a → Below w.heap.size w w' → w.heap.size ≤ g1 → w.heap.size ≤ g2 → g1 ≠ g2 → Blk w' g1 t1 c1 → Blk w' g2 t2 c2 → a.tmps.getD da undef = .pointer (some ⟨g1, 0, none⟩) → a.tmps.getD db undef = .pointer (some ⟨g2, 0, none⟩) → (∀ i d, (ops[i]?).bind (·.dst) = some d → ([ia, ib, ip, iq]).contains i = false → valR l i (a.tmps.getD d undef)) → Q .normal a w') :
    WC P n K w (.region id ops dr) Q := by
  refine WC.gen [ia, ib, ip, iq] (fun i v _ => valR l i v) (fun _ _ => True) (TwoG w t1 z1 c1 t2 z2 c2) K0 hs hclear hm hB hd hin (fun _ _ _ _ h _ => h) ?_ h.gen (fun a w' vs hk hlen hall hG hu hl => ?_)
  · have st : ∀ w' : World, Below w.heap.size w w' → TwoS w t1 z1 c1 t2 z2 c2 none none none none w' := fun w' hb => ⟨hb, fun v hv => (by cases hv), fun v hv => (by cases hv), fun v u hv => (by cases hv), fun _ => rfl, fun _ => rfl⟩
    cases dr with
    | true => exact st _ (Below.refl _ _).drew
    | false => exact st _ (Below.refl _ _)
  · obtain ⟨v0, hv0⟩ := hall 0 (by simp)
    obtain ⟨v1, hv1⟩ := hall 1 (by simp)
    obtain ⟨v2, hv2⟩ := hall 2 (by simp)
    obtain ⟨v3, hv3⟩ := hall 3 (by simp)
    have ha := hl 0 ia da rfl hda
    have hb := hl 1 ib db rfl hdb
    match vs, hlen, hv0, hv1, hv2, hv3, hG, ha, hb with
    | [va, vb, vp, vq], _, hv0, hv1, hv2, hv3, hG, ha, hb =>
      simp only [List.getElem?_cons_zero, List.getElem?_cons_succ, Option.some.injEq] at hv0 hv1 hv2 hv3 ha hb
      subst hv2 hv3 ha hb
      obtain ⟨g1, e1, h1, h2⟩ := TwoS.a hG _ rfl
      obtain ⟨g2, e2, h3, h4⟩ := TwoS.b hG _ rfl
      have hne := TwoS.ne hG _ _ rfl rfl
      rw [e1, e2] at hne
      simp only [ne_eq, Value.pointer.injEq, Option.some.injEq, Addr.mk.injEq, and_true] at hne
      exact hQ a w' g1 g2 hk (TwoS.below hG) h1 h3 hne (by simpa using h2) (by simpa using h4) e1 e2 hu
end

end Go.Proofs.Ytcmfjnadjddboaa
