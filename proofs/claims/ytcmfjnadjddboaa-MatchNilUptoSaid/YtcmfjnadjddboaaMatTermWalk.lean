/- The matcher matches terms. -/
import Derived.Test.YtcmfjnadjddboaaMatTerm
import Derived.Test.YtcmfjnadjddboaaScope
import Derived.Test.YtcmfjnadjddboaaTail3
namespace Go.Proofs.Ytcmfjnadjddboaa
open Go.RowKit Go

theorem zeroPt (w : World) : (zeroValue 66).run Try.prog w = .ok (.pointer none) w := by kernel_rfl
set_option maxRecDepth 100000 in
theorem term_any {g : Nat} {st : List Bd} {C A : Nat → Prop} (p t : T) (w : World) (u v : Value) (h : MatAt w g st C) (hp : InT A w p u) (ht : IsT w t v) (hA : ∀ b, A b → ¬ C b) (hzp : p.size ≤ 4294967296) (hzt : t.size ≤ 4294967296) (hn : st.length + p.size ≤ 1099511627776) :
    Calls Try.prog 15 #[.pointer (some ⟨g, 0, none⟩), u, v] w (Ret fun v' w' => (∃ C', v' = .bool (mOk p t st) ∧ MatAt w' g (mTo p t st) C' ∧ ∀ b, C' b → C b ∨ w.heap.size ≤ b) ∧ Chg C w w') := by
  have h0 := h
  obtain ⟨mb, es, cl, a, c, ps, hM⟩ := h
  have hgm := hM.gmb
  have hgl := hM.blk.lt
  have hml := hM.map.lt
  obtain ⟨hcap1, hcap2⟩ := hM.cap
  obtain ⟨hfp, pa0, pc0, rfl, _, _, _⟩ := hp.form
  obtain ⟨hft, ta0, tc0, rfl, _, _, _⟩ := ht.form
  refine Calls.walk (l := [.pointer (some ⟨g, 0, none⟩), .agg #[.int .i64 p.f, .slice pa0 p.args.length pc0], .agg #[.int .i64 t.f, .slice ta0 t.args.length tc0]]) Try.func15 rfl (by kernel_rfl) ?_
  refine WC.sub (K' := [(0, .pointer (some ⟨g, 0, none⟩)), (1, .agg #[.int .i64 p.f, .slice pa0 p.args.length pc0]), (2, .agg #[.int .i64 t.f, .slice ta0 t.args.length tc0])]) ⟨rfl, rfl, rfl, trivial⟩ ?_
  refine WC.seq ?_
  refine WC.region ?_
  refine WL.step (post := NewBlk w 24 #[.int .i64 p.f, .slice pa0 p.args.length pc0]) rfl rfl rfl (fun za zC zh zk => box_24 rfl (zh.ev rfl) (zk _ _ (newBlk _ _ _))) ?_
  rintro _ w1 ⟨g2, rfl, hg3, hB4, hb5, hz6⟩
  have hl7 : g < g2 := by have z1 := hM.blk.lt; omega
  have hl8 : mb < g2 := by have z1 := hM.map.lt; omega
  have hl9 : w.heap.size ≤ g2 := by omega
  refine WL.step (post := NewBlk w1 24 #[.int .i64 t.f, .slice ta0 t.args.length tc0]) rfl rfl rfl (fun za zC zh zk => box_24 rfl (zh.ev rfl) (zk _ _ (newBlk _ _ _))) ?_
  rintro _ w10 ⟨g11, rfl, hg12, hB13, hb14, hz15⟩
  have hl16 : g < g11 := by have z1 := hM.blk.lt; have z2 := (hb5).size; omega
  have hl17 : g2 < g11 := by have z1 := hB4.lt; omega
  have hl18 : mb < g11 := by have z1 := hM.map.lt; have z2 := (hb5).size; omega
  have hl19 : w.heap.size ≤ g11 := by have z2 := (hb5).size; omega
  refine WL.val (.bool false) rfl rfl rfl (fun za zC zh zk => wp_assign rfl (zh.ev rfl) zk) ?_
  refine WL.nil (WE.sub (K' := [(0, .pointer (some ⟨g, 0, none⟩)), (1, .agg #[.int .i64 p.f, .slice pa0 p.args.length pc0]), (2, .agg #[.int .i64 t.f, .slice ta0 t.args.length tc0]), (4, .pointer (some ⟨g2, 0, none⟩)), (5, .pointer (some ⟨g11, 0, none⟩)), (6, .bool false)]) ⟨rfl, rfl, rfl, rfl, rfl, rfl, trivial⟩ ?_)
  refine WE.next ?_
  refine WC.scope rfl ?_
  refine WC.seq ?_
  refine WC.seq ?_
  have hB20 := hB4.below hb14
  have hb21 : Below w.heap.size w w10 := (bstep hb5 hb14)
  refine WC.opt [(true, .val (.pointer (some ⟨g, 0, none⟩))), (true, .val (.bool false)), (true, .val (.bool false)), ((true && !false), .val (.bool ((p.plain)))), ((true && !false), .val (.bool ((!(p.plain))))), (true, .val (.bool ((!(p.plain))))), (true, .val (.bool ((!(p.plain))))), ((true && !(!(p.plain))), .val (.bool ((t.plain)))), ((true && !(!(p.plain))), .val (.bool ((!(t.plain))))), (true, .val (.bool (((!(p.plain)) || (!(t.plain))))))] [(0, .pointer (some ⟨g, 0, none⟩)), (1, .agg #[.int .i64 p.f, .slice pa0 p.args.length pc0]), (2, .agg #[.int .i64 t.f, .slice ta0 t.args.length tc0]), (4, .pointer (some ⟨g2, 0, none⟩)), (5, .pointer (some ⟨g11, 0, none⟩)), (6, .bool false)] ⟨rfl, rfl, rfl, rfl, rfl, rfl, trivial⟩ (by kernel_rfl) (by kernel_rfl) (by kernel_rfl) ?_ ?_
  · refine ⟨⟨true, .none rfl, fun h w => optUndef h, fun zβ za zw zc => ?_⟩, ?_⟩
    · exact wp_move rfl (zc.kn.ev rfl) ⟨_, rfl, Below.refl _ _, optDef zβ rfl⟩
    refine ⟨⟨true, .none rfl, fun h w => optUndef h, fun zβ za zw zc => ?_⟩, ?_⟩
    · exact eqlp_33 rfl ((show za.eval (.tmp 14) = za.tmps.getD 14 undef from rfl).trans (optVal (zc.dep 0 14 (by kernel_rfl)) rfl rfl)) (zc.kn.ev rfl) ⟨_, rfl, Below.refl _ _, optDef zβ rfl⟩
    refine ⟨⟨true, .none rfl, fun h w => optUndef h, fun zβ za zw zc => ?_⟩, ?_⟩
    · exact wp_move rfl ((show za.eval (.tmp 15) = za.tmps.getD 15 undef from rfl).trans (optVal (zc.dep 1 15 (by kernel_rfl)) rfl rfl)) ⟨_, rfl, Below.refl _ _, optDef zβ rfl⟩
    refine ⟨⟨(true && !false), .no (c := false) (d := true) rfl (fun v w h => h), fun h w => optUndef h, fun zβ za zw zc => ?_⟩, ?_⟩
    · exact wp_call (by kernel_rfl) rfl (hv1 (zc.kn.ev rfl)) (plainp_any p _ _ hzp (IsTp.of (bkeeps zc.below _ _ ((hB20.cell 0).trans rfl)) (bkeeps zc.below _ _ ((hB20.cell 1).trans rfl)) (IsT.below (bstep hb21 zc.below) (InT.isT hp)))) (fun v w' h => ⟨v, rfl, h.2, optDef zβ h.1⟩)
    refine ⟨⟨(true && !false), .no (c := false) (d := true) rfl (fun v w h => h), fun h w => optUndef h, fun zβ za zw zc => ?_⟩, ?_⟩
    · exact wp_not rfl ((show za.eval (.tmp 17) = za.tmps.getD 17 undef from rfl).trans (optVal (zc.dep 3 17 (by kernel_rfl)) rfl rfl)) ⟨_, rfl, Below.refl _ _, optDef zβ rfl⟩
    refine ⟨⟨true, .none rfl, fun h w => optUndef h, fun zβ za zw zc => ?_⟩, ?_⟩
    · exact wp_pickF rfl ((show za.eval (.tmp 16) = za.tmps.getD 16 undef from rfl).trans (optVal (zc.dep 2 16 (by kernel_rfl)) rfl rfl)) ((show za.eval (.tmp 18) = za.tmps.getD 18 undef from rfl).trans (optVal (zc.dep 4 18 (by kernel_rfl)) rfl rfl)) ⟨_, rfl, Below.refl _ _, optDef zβ rfl⟩
    refine ⟨⟨true, .none rfl, fun h w => optUndef h, fun zβ za zw zc => ?_⟩, ?_⟩
    · exact wp_move rfl ((show za.eval (.tmp 19) = za.tmps.getD 19 undef from rfl).trans (optVal (zc.dep 5 19 (by kernel_rfl)) rfl rfl)) ⟨_, rfl, Below.refl _ _, optDef zβ rfl⟩
    refine ⟨⟨(true && !(!(p.plain))), .no (c := (!(p.plain))) (d := true) rfl (fun v w h => h), fun h w => optUndef h, fun zβ za zw zc => ?_⟩, ?_⟩
    · exact wp_call (by kernel_rfl) rfl (hv1 (zc.kn.ev rfl)) (plainp_any t _ _ hzt (IsTp.of (bkeeps zc.below _ _ ((hB13.cell 0).trans rfl)) (bkeeps zc.below _ _ ((hB13.cell 1).trans rfl)) (IsT.below (bstep hb21 zc.below) ht))) (fun v w' h => ⟨v, rfl, h.2, optDef zβ h.1⟩)
    refine ⟨⟨(true && !(!(p.plain))), .no (c := (!(p.plain))) (d := true) rfl (fun v w h => h), fun h w => optUndef h, fun zβ za zw zc => ?_⟩, ?_⟩
    · exact wp_not rfl ((show za.eval (.tmp 21) = za.tmps.getD 21 undef from rfl).trans (optVal (zc.dep 7 21 (by kernel_rfl)) rfl zβ)) ⟨_, rfl, Below.refl _ _, optDef zβ rfl⟩
    refine ⟨⟨true, .none rfl, fun h w => optUndef h, fun zβ za zw zc => ?_⟩, ?_⟩
    · exact wp_or rfl ((show za.eval (.tmp 20) = za.tmps.getD 20 undef from rfl).trans (optVal (zc.dep 6 20 (by kernel_rfl)) rfl rfl)) (fun hp => ((show za.eval (.tmp 22) = za.tmps.getD 22 undef from rfl).trans (optVal (zc.dep 8 22 (by kernel_rfl)) rfl (bMkN zβ hp)))) ⟨_, rfl, Below.refl _ _, optDef zβ rfl⟩
    exact trivial
  · intro za w22 zh hb23 zu
    have zh := zh.cons (d := 23) (v := .bool (((!(p.plain)) || (!(t.plain))))) (optVal (zu 9 23 (by kernel_rfl)) rfl rfl)
    clear zu
    refine (show WE _ [(0, .pointer (some ⟨g, 0, none⟩)), (1, .agg #[.int .i64 p.f, .slice pa0 p.args.length pc0]), (2, .agg #[.int .i64 t.f, .slice ta0 t.args.length tc0]), (4, .pointer (some ⟨g2, 0, none⟩)), (5, .pointer (some ⟨g11, 0, none⟩)), (6, .bool false), (23, .bool (((!(p.plain)) || (!(t.plain)))))] w22 _ .normal from ?_) za (zh.sub ⟨rfl, rfl, rfl, rfl, rfl, rfl, rfl, trivial⟩)
    refine WE.next ?_
    refine WC.cond rfl (fun h24 => ?_) (fun h24 => ?_)
    · have h24 : (¬ ((p.plain) = true)) ∨ (¬ ((t.plain) = true)) := by simpa using h24
      (try simp at h24)
      refine WC.seq ?_
      refine WC.region ?_
      refine WL.val (.bool false) rfl rfl rfl (fun za zC zh zk => wp_assign rfl (zh.ev rfl) zk) ?_
      refine WL.nil (WE.sub (K' := [(0, .pointer (some ⟨g, 0, none⟩)), (1, .agg #[.int .i64 p.f, .slice pa0 p.args.length pc0]), (2, .agg #[.int .i64 t.f, .slice ta0 t.args.length tc0]), (4, .pointer (some ⟨g2, 0, none⟩)), (5, .pointer (some ⟨g11, 0, none⟩)), (6, .bool false), (23, .bool (((!(p.plain)) || (!(t.plain)))))]) ⟨rfl, rfl, rfl, rfl, rfl, rfl, rfl, trivial⟩ ?_)
      refine WE.next ?_
      refine WC.ret ?_
      refine WE.thenRet ?_
      refine WE.scopeRet ?_
      refine WE.ret1 rfl rfl ?_
      have hfin := fin_np (p := p) (t := t) (st := st) (fun hh => by rw [hh.1, hh.2] at h24; simp at h24)
      have hb25 : Below w.heap.size w w22 := (bstep hb21 hb23)
      refine ⟨_, rfl, ⟨C, congrArg Value.bool hfin.1.symm, ?_, fun b q => .inl q⟩, .ofBelow hb25⟩
      rw [hfin.2]; exact h0.below hb25
    · have h24 : ¬ ((¬ ((p.plain) = true)) ∨ (¬ ((t.plain) = true))) := by simpa using h24
      (try simp at h24)
      have hpl1 : p.plain = true := by simpa using h24.1
      have hpl2 : t.plain = true := by simpa using h24.2
      refine WC.skip ?_
      refine WE.next ?_
      refine WC.seq ?_
      refine WC.region ?_
      refine WL.val (.pointer (some ⟨g, 0, none⟩)) rfl rfl rfl (fun za zC zh zk => wp_move rfl (zh.ev rfl) zk) ?_
      have hb26 : Below w.heap.size w w22 := (bstep hb21 hb23)
      refine WL.call rfl rfl rfl (fun za zh zC => wp_call (by kernel_rfl) rfl (hv1 (zh.ev rfl))) (mark_any _ (h0.below hb26)) ?_
      rintro _ w28 ⟨rfl, hq27⟩
      refine WL.val (.int .i64 (((st.length : Nat) : Int))) rfl rfl rfl (fun za zC zh zk => wp_assign rfl (zh.ev rfl) zk) ?_
      refine WL.nil (WE.sub (K' := [(0, .pointer (some ⟨g, 0, none⟩)), (1, .agg #[.int .i64 p.f, .slice pa0 p.args.length pc0]), (2, .agg #[.int .i64 t.f, .slice ta0 t.args.length tc0]), (4, .pointer (some ⟨g2, 0, none⟩)), (5, .pointer (some ⟨g11, 0, none⟩)), (6, .bool false), (7, .int .i64 (((st.length : Nat) : Int))), (23, .bool (((!(p.plain)) || (!(t.plain)))))]) ⟨rfl, rfl, rfl, rfl, rfl, rfl, rfl, rfl, trivial⟩ ?_)
      refine WE.next ?_
      refine WC.seq ?_
      refine WC.region ?_
      have hb30 : Below w10.heap.size w10 w28 := (bstep hb23 hq27)
      have hB29 := hB13.below hb30
      refine WL.val (.agg #[.int .i64 t.f, .slice ta0 t.args.length tc0]) rfl rfl rfl (fun za zC zh zk => ld_24 rfl (zh.ev rfl) ((hB29.cell 0).trans rfl) ((hB29.cell 1).trans rfl) zk) ?_
      have hb31 : Below w.heap.size w w28 := (bstep hb21 hb30)
      have hl35 : g < w28.heap.size := by have z1 := hM.blk.lt; have z2 := (hb31).size; omega
      have hl36 : g2 < w28.heap.size := by have z1 := hB20.lt; have z2 := (hb30).size; omega
      have hl37 : g11 < w28.heap.size := by have z1 := hB29.lt; omega
      have hl38 : mb < w28.heap.size := by have z1 := hM.map.lt; have z2 := (hb31).size; omega
      have hl39 : w.heap.size ≤ w28.heap.size := (hb31).size
      refine WL.call rfl rfl rfl (fun za zh zC => wp_call (by kernel_rfl) rfl (hv1 (zh.ev rfl))) (copy_any t _ _ hzt (IsT.below hb31 ht)) ?_
      rintro v32 w40 ⟨hn33, hb34⟩
      obtain ⟨_, a41, c42, rfl, _, _, _⟩ := hn33.form
      refine WL.step (post := NewBlk w40 24 #[.int .i64 0, .slice none 0 0]) rfl rfl rfl (fun za zC zh zk => alloc_24 rfl (zk _ _ (newBlk _ _ _))) ?_
      rintro _ w43 ⟨g44, rfl, hg45, hB46, hb47, hz48⟩
      have hb49 : Below w.heap.size w w40 := (bstep hb31 hb34)
      have hl50 : g < g44 := by have z1 := hM.blk.lt; have z2 := (hb49).size; omega
      have hb51 : Below w10.heap.size w10 w40 := (bstep hb30 hb34)
      have hl52 : g2 < g44 := by have z1 := hB20.lt; have z2 := (hb51).size; omega
      have hl53 : g11 < g44 := by have z1 := hB29.lt; have z2 := (hb34).size; omega
      have hl54 : mb < g44 := by have z1 := hM.map.lt; have z2 := (hb49).size; omega
      have hl55 : w.heap.size ≤ g44 := by have z2 := (hb49).size; omega
      have hl56 : w40.heap.size ≤ g44 := by omega
      refine WL.step (post := fun _ w' => Upd g44 w43 w' ∧ Blk w' g44 24 #[.int .i64 t.f, .slice a41 t.args.length c42]) rfl rfl rfl (fun za zC zh zk => st_24 rfl (zh.ev rfl) (zh.ev rfl) rfl rfl hB46 (by first | decide | simp) (fun v => zk v _ ⟨(Upd.at_ _ _ _ _).trans (Upd.at_ _ _ _ _), (hB46.set_ 0 _).set_ 1 _⟩)) ?_
      rintro v60 w57 ⟨hu58, hB59⟩
      have hb61 : Below w.heap.size w w43 := (bstep hb49 hb47)
      have hb62 := upd_below hb61 hu58 (by omega)
      have hb63 := upd_below hb47 hu58 (by omega)
      have hB64 := hM.blk.below hb61
      have hB65 := upd_blk hB64 hu58 (by omega)
      have hb67 : Below w10.heap.size w10 w43 := (bstep hb51 hb47)
      have hB66 := hB20.below hb67
      have hB68 := upd_blk hB66 hu58 (by omega)
      have hb70 : Below w28.heap.size w28 w43 := (bstep hb34 hb47)
      have hB69 := hB29.below hb70
      have hB71 := upd_blk hB69 hu58 (by omega)
      have ho72 := hM.map.below hb61
      have ho73 := ho72.upd hu58 (by omega)
      refine WL.nil (WE.sub (K' := [(0, .pointer (some ⟨g, 0, none⟩)), (1, .agg #[.int .i64 p.f, .slice pa0 p.args.length pc0]), (2, .agg #[.int .i64 t.f, .slice ta0 t.args.length tc0]), (4, .pointer (some ⟨g2, 0, none⟩)), (5, .pointer (some ⟨g11, 0, none⟩)), (6, .bool false), (7, .int .i64 (((st.length : Nat) : Int))), (8, .pointer (some ⟨g44, 0, none⟩)), (23, .bool (((!(p.plain)) || (!(t.plain)))))]) ⟨rfl, rfl, rfl, rfl, rfl, rfl, rfl, rfl, rfl, trivial⟩ ?_)
      refine WE.next ?_
      refine WC.seq ?_
      refine WC.region ?_
      refine WL.val (.agg #[.pointer (some ⟨g2, 0, none⟩), .pointer (some ⟨g44, 0, none⟩)]) rfl rfl rfl (fun za zC zh zk => build_69_0_1 rfl (zh.ev rfl) (zh.ev rfl) zk) ?_
      refine WL.step (post := NewRow w57 69 #[.pointer (some ⟨g2, 0, none⟩), .pointer (some ⟨g44, 0, none⟩)] 1) rfl rfl rfl (fun za zC zh zk => row_70_1 rfl (zh.ev rfl) (zk _ _ (newRow _ _ _ _))) ?_
      rintro _ w74 ⟨g75, rfl, hg76, hB77, hb78, hz79⟩
      have hl80 : g < g75 := by have z1 := hB65.lt; omega
      have hl81 : g2 < g75 := by have z1 := hB68.lt; omega
      have hl82 : g11 < g75 := by have z1 := hB71.lt; omega
      have hl83 : g44 < g75 := by have z1 := hB59.lt; omega
      have hl84 : mb < g75 := by have z1 := ho73.lt; omega
      have hl85 : w.heap.size ≤ g75 := by have z2 := (hb62).size; omega
      have hl86 : w40.heap.size ≤ g75 := by have z2 := (hb63).size; omega
      have hl87 : w57.heap.size ≤ g75 := by omega
      refine WL.val (.slice ((some ⟨g75, 0, none⟩)) 1 1) rfl rfl rfl (fun za zC zh zk => wp_assign rfl (zh.ev rfl) zk) ?_
      refine WL.nil (WE.sub (K' := [(0, .pointer (some ⟨g, 0, none⟩)), (1, .agg #[.int .i64 p.f, .slice pa0 p.args.length pc0]), (2, .agg #[.int .i64 t.f, .slice ta0 t.args.length tc0]), (4, .pointer (some ⟨g2, 0, none⟩)), (5, .pointer (some ⟨g11, 0, none⟩)), (6, .bool false), (7, .int .i64 (((st.length : Nat) : Int))), (8, .pointer (some ⟨g44, 0, none⟩)), (9, .slice ((some ⟨g75, 0, none⟩)) 1 1), (23, .bool (((!(p.plain)) || (!(t.plain)))))]) ⟨rfl, rfl, rfl, rfl, rfl, rfl, rfl, rfl, rfl, rfl, trivial⟩ ?_)
      refine WE.next ?_
      refine WC.seq ?_
      refine WC.label ?_
      refine WE.next ?_
      refine WC.seq ?_
      refine WC.block ?_
      have hB88 := hB68.below hb78
      have hB89 := hB59.below hb78
      have ho90 := hn33.below hb63
      have hb91 : Below w.heap.size w w74 := (bstep hb62 hb78)
      obtain ⟨Ps, Ts, hTs0, hts0⟩ := TS.start (wc := w28) (wj := w57) (wk := w74) (g4 := g2) (g8 := g44) (g9 := g75) (p := p) (t := t) hM hp hA hb91 hB88 (by omega) (by omega) (by have z := hb31.size; omega) (by have z := hb34.size; omega) (by omega) hB89 ho90 (by omega) hb78 hB77 hzp hzt
      refine WC.loop (X := MX) (fun x => ssz x.L) (fun x => [(0, .pointer (some ⟨g, 0, none⟩)), (1, .agg #[.int .i64 p.f, .slice pa0 p.args.length pc0]), (2, .agg #[.int .i64 t.f, .slice ta0 t.args.length tc0]), (4, .pointer (some ⟨g2, 0, none⟩)), (5, .pointer (some ⟨g11, 0, none⟩)), (7, .int .i64 (((st.length : Nat) : Int))), (8, .pointer (some ⟨g44, 0, none⟩)), (9, .slice x.ta x.L.length x.tc), (23, .bool (((!(p.plain)) || (!(t.plain)))))]) (fun x w92 => p.mt st t = mts x.st x.L.reverse ∧ x.st.length + ssz x.L ≤ 1099511627776 ∧ Blk w92 g2 24 #[.int .i64 p.f, .slice pa0 p.args.length pc0] ∧ Blk w92 g11 24 #[.int .i64 t.f, .slice ta0 t.args.length tc0] ∧ Blk w92 g44 24 #[.int .i64 t.f, .slice a41 t.args.length c42] ∧ Blk w92 g 64 #[.map ((some mb)), .slice x.ra x.st.length x.rc] ∧ ObjAt (w92) mb (.map x.es x.cl) ∧ TS w g mb g75 C Ps Ts st (w92) x) (⟨some ⟨g75, 0, none⟩, 1, [(⟨g2, 0, none⟩, ⟨g44, 0, none⟩)], [(p, t)], a, c, st, ps, es, cl⟩) ⟨rfl, rfl, rfl, rfl, rfl, rfl, rfl, rfl, rfl, trivial⟩ ?_ ?_
      · have hB93 := hB71.below hb78
        have hB94 := hB65.below hb78
        have ho95 := ho73.below hb78
        exact ⟨(mts_one p t st).symm, (by simp only [ssz]; omega), hB88, hB93, hB89, hB94, ho95, hts0⟩
      · rintro x w92 ⟨hans, hbnd, hB96, hB97, hB98, hB99, ho100, ho101⟩
        refine WC.seq ?_
        refine WC.seq ?_
        refine WC.region ?_
        refine WL.val (.slice x.ta x.L.length x.tc) rfl rfl rfl (fun za zC zh zk => wp_move rfl (zh.ev rfl) zk) ?_
        refine WL.val (.int .i64 (((x.L.length : Nat) : Int))) rfl rfl rfl (fun za zC zh zk => len_70 rfl (zh.ev rfl) zk) ?_
        refine WL.val (.bool ((decide ((0 : Int) < (((x.L.length : Nat) : Int) : Int))))) rfl rfl rfl (fun za zC zh zk => gtr_3 rfl (zh.ev rfl) (zh.ev rfl) zk) ?_
        refine WL.nil (WE.sub (K' := [(0, .pointer (some ⟨g, 0, none⟩)), (1, .agg #[.int .i64 p.f, .slice pa0 p.args.length pc0]), (2, .agg #[.int .i64 t.f, .slice ta0 t.args.length tc0]), (4, .pointer (some ⟨g2, 0, none⟩)), (5, .pointer (some ⟨g11, 0, none⟩)), (7, .int .i64 (((st.length : Nat) : Int))), (8, .pointer (some ⟨g44, 0, none⟩)), (9, .slice x.ta x.L.length x.tc), (23, .bool (((!(p.plain)) || (!(t.plain))))), (32, .bool ((decide ((0 : Int) < (((x.L.length : Nat) : Int) : Int)))))]) ⟨rfl, rfl, rfl, rfl, rfl, rfl, rfl, rfl, rfl, rfl, trivial⟩ ?_)
        refine WE.next ?_
        refine WC.cond rfl (fun h102 => ?_) (fun h102 => ?_)
        · have h102 : (0 : Int) < (((x.L.length : Nat) : Int) : Int) := by simpa using h102
          refine WC.skip ?_
          refine WE.next ?_
          refine WC.block ?_
          refine WC.seq ?_
          obtain ⟨f, l, tt, L, R, tb, to_, pb, po, qb, qo, pa, qa, pc, qc, hL, hLn, hta, hc1, hc2, hp1, hp2, hpT, hq1, hq2, hqT, hqP, hpP, hcp1, hcp2, hz1, hz2, hts⟩ := ho101.top (by omega)
          unfold maxLen at hcp2
          have hIf := hpT.form.1
          rw [T.f_mk] at hIf
          unfold I64 at hIf
          refine WC.region ?_
          refine WL.val (.slice x.ta x.L.length x.tc) rfl rfl rfl (fun za zC zh zk => wp_move rfl (zh.ev rfl) zk) ?_
          refine WL.val (.slice x.ta x.L.length x.tc) rfl rfl rfl (fun za zC zh zk => wp_move rfl (zh.ev rfl) zk) ?_
          refine WL.val (.int .i64 (((x.L.length : Nat) : Int))) rfl rfl rfl (fun za zC zh zk => len_70 rfl (zh.ev rfl) zk) ?_
          refine WL.val (.int .i64 (((L.length : Nat) : Int))) rfl rfl rfl (fun za zC zh zk => subb_3 rfl (zh.ev rfl) (zh.ev rfl) (wrap_eq (by omega) (by omega) (by omega)) zk) ?_
          refine WL.val (.pointer (some ⟨tb, to_ + L.length * 2, none⟩)) rfl rfl rfl (fun za zC zh zk => ix_70 (k := L.length) rfl (zh.ev rfl) hta (zh.ev rfl) (by first | omega | (simp; omega)) zk) ?_
          refine WL.val (.agg #[.pointer (some ⟨pb, po, none⟩), .pointer (some ⟨qb, qo, none⟩)]) rfl rfl rfl (fun za zC zh zk => ld_69 rfl (zh.ev rfl) hc1 hc2 zk) ?_
          refine WL.step (post := NewBlk w92 69 #[.pointer none, .pointer none]) rfl rfl rfl (fun za zC zh zk => alloc_69 rfl (zk _ _ (newBlk _ _ _))) ?_
          rintro _ w103 ⟨g104, rfl, hg105, hB106, hb107, hz108⟩
          have hl109 : g2 < g104 := by have z1 := hB96.lt; omega
          have hl110 : g11 < g104 := by have z1 := hB97.lt; omega
          have hl111 : g44 < g104 := by have z1 := hB98.lt; omega
          have hl112 : g < g104 := by have z1 := hB99.lt; omega
          have hl113 : mb < g104 := by have z1 := ho100.lt; omega
          have hl114 : w92.heap.size ≤ g104 := by omega
          refine WL.step (post := fun _ w' => Upd g104 w103 w' ∧ Blk w' g104 69 #[.pointer (some ⟨pb, po, none⟩), .pointer (some ⟨qb, qo, none⟩)]) rfl rfl rfl (fun za zC zh zk => st_69 rfl (zh.ev rfl) (zh.ev rfl) rfl rfl hB106 (by first | decide | simp) (fun v => zk v _ ⟨(Upd.at_ _ _ _ _).trans (Upd.at_ _ _ _ _), (hB106.set_ 0 _).set_ 1 _⟩)) ?_
          rintro v118 w115 ⟨hu116, hB117⟩
          have hb119 := upd_below hb107 hu116 (by omega)
          have hB120 := hB96.below hb107
          have hB121 := upd_blk hB120 hu116 (by omega)
          have hB122 := hB97.below hb107
          have hB123 := upd_blk hB122 hu116 (by omega)
          have hB124 := hB98.below hb107
          have hB125 := upd_blk hB124 hu116 (by omega)
          have hB126 := hB99.below hb107
          have hB127 := upd_blk hB126 hu116 (by omega)
          have ho128 := ho100.below hb107
          have ho129 := ho128.upd hu116 (by omega)
          refine WL.nil (WE.sub (K' := [(0, .pointer (some ⟨g, 0, none⟩)), (1, .agg #[.int .i64 p.f, .slice pa0 p.args.length pc0]), (2, .agg #[.int .i64 t.f, .slice ta0 t.args.length tc0]), (4, .pointer (some ⟨g2, 0, none⟩)), (5, .pointer (some ⟨g11, 0, none⟩)), (7, .int .i64 (((st.length : Nat) : Int))), (8, .pointer (some ⟨g44, 0, none⟩)), (9, .slice x.ta x.L.length x.tc), (10, .pointer (some ⟨g104, 0, none⟩)), (23, .bool (((!(p.plain)) || (!(t.plain))))), (32, .bool ((decide ((0 : Int) < (((x.L.length : Nat) : Int) : Int)))))]) ⟨rfl, rfl, rfl, rfl, rfl, rfl, rfl, rfl, rfl, rfl, rfl, trivial⟩ ?_)
          refine WE.next ?_
          refine WC.seq ?_
          refine WC.region ?_
          refine WL.val (.slice x.ta x.L.length x.tc) rfl rfl rfl (fun za zC zh zk => wp_move rfl (zh.ev rfl) zk) ?_
          refine WL.val (.slice x.ta x.L.length x.tc) rfl rfl rfl (fun za zC zh zk => wp_move rfl (zh.ev rfl) zk) ?_
          refine WL.val (.int .i64 (((x.L.length : Nat) : Int))) rfl rfl rfl (fun za zC zh zk => len_70 rfl (zh.ev rfl) zk) ?_
          refine WL.val (.int .i64 (((L.length : Nat) : Int))) rfl rfl rfl (fun za zC zh zk => subb_3 rfl (zh.ev rfl) (zh.ev rfl) (wrap_eq (by omega) (by omega) (by omega)) zk) ?_
          refine WL.val (.slice x.ta L.length x.tc) rfl rfl rfl (fun za zC zh zk => shi_70 (k := L.length) rfl (zh.ev rfl) (zh.ev rfl) (by omega) zk) ?_
          refine WL.val (.slice x.ta L.length x.tc) rfl rfl rfl (fun za zC zh zk => wp_assign rfl (zh.ev rfl) zk) ?_
          refine WL.nil (WE.sub (K' := [(0, .pointer (some ⟨g, 0, none⟩)), (1, .agg #[.int .i64 p.f, .slice pa0 p.args.length pc0]), (2, .agg #[.int .i64 t.f, .slice ta0 t.args.length tc0]), (4, .pointer (some ⟨g2, 0, none⟩)), (5, .pointer (some ⟨g11, 0, none⟩)), (7, .int .i64 (((st.length : Nat) : Int))), (8, .pointer (some ⟨g44, 0, none⟩)), (9, .slice x.ta L.length x.tc), (10, .pointer (some ⟨g104, 0, none⟩)), (23, .bool (((!(p.plain)) || (!(t.plain))))), (32, .bool ((decide ((0 : Int) < (((x.L.length : Nat) : Int) : Int)))))]) ⟨rfl, rfl, rfl, rfl, rfl, rfl, rfl, rfl, rfl, rfl, rfl, trivial⟩ ?_)
          refine WE.next ?_
          refine WC.seq ?_
          refine WC.seq ?_
          refine WC.region ?_
          refine WL.val (.pointer (some ⟨g104, 0, none⟩)) rfl rfl rfl (fun za zC zh zk => fld_69_0 rfl (zh.ev rfl) zk) ?_
          refine WL.val (.pointer (some ⟨pb, po, none⟩)) rfl rfl rfl (fun za zC zh zk => ld_66 rfl (zh.ev rfl) ((hB117.cell 0).trans rfl) zk) ?_
          refine WL.val (.pointer (some ⟨pb, po, none⟩)) rfl rfl rfl (fun za zC zh zk => nilCheck_ rfl (zh.ev rfl) zk) ?_
          refine WL.val (.pointer (some ⟨pb, po, none⟩)) rfl rfl rfl (fun za zC zh zk => fld_24_0 rfl (zh.ev rfl) zk) ?_
          refine WL.val (.int .i64 f) rfl rfl rfl (fun za zC zh zk => ld_3 rfl (zh.ev rfl) (bkeeps hb119 _ _ hp1) zk) ?_
          refine WL.val (.bool ((decide ((f : Int) < (0 : Int))))) rfl rfl rfl (fun za zC zh zk => lss_3 rfl (zh.ev rfl) (zh.ev rfl) zk) ?_
          refine WL.nil (WE.sub (K' := [(0, .pointer (some ⟨g, 0, none⟩)), (1, .agg #[.int .i64 p.f, .slice pa0 p.args.length pc0]), (2, .agg #[.int .i64 t.f, .slice ta0 t.args.length tc0]), (4, .pointer (some ⟨g2, 0, none⟩)), (5, .pointer (some ⟨g11, 0, none⟩)), (7, .int .i64 (((st.length : Nat) : Int))), (8, .pointer (some ⟨g44, 0, none⟩)), (9, .slice x.ta L.length x.tc), (10, .pointer (some ⟨g104, 0, none⟩)), (23, .bool (((!(p.plain)) || (!(t.plain))))), (32, .bool ((decide ((0 : Int) < (((x.L.length : Nat) : Int) : Int))))), (49, .bool ((decide ((f : Int) < (0 : Int)))))]) ⟨rfl, rfl, rfl, rfl, rfl, rfl, rfl, rfl, rfl, rfl, rfl, rfl, trivial⟩ ?_)
          refine WE.next ?_
          refine WC.cond rfl (fun h130 => ?_) (fun h130 => ?_)
          · have h130 : (f : Int) < (0 : Int) := by simpa using h130
            refine WC.seq ?_
            refine WC.region ?_
            refine WL.val (.pointer (some ⟨g104, 0, none⟩)) rfl rfl rfl (fun za zC zh zk => fld_69_0 rfl (zh.ev rfl) zk) ?_
            refine WL.val (.pointer (some ⟨pb, po, none⟩)) rfl rfl rfl (fun za zC zh zk => ld_66 rfl (zh.ev rfl) ((hB117.cell 0).trans rfl) zk) ?_
            refine WL.val (.pointer (some ⟨pb, po, none⟩)) rfl rfl rfl (fun za zC zh zk => nilCheck_ rfl (zh.ev rfl) zk) ?_
            refine WL.val (.pointer (some ⟨pb, po, none⟩)) rfl rfl rfl (fun za zC zh zk => fld_24_0 rfl (zh.ev rfl) zk) ?_
            refine WL.val (.int .i64 f) rfl rfl rfl (fun za zC zh zk => ld_3 rfl (zh.ev rfl) (bkeeps hb119 _ _ hp1) zk) ?_
            refine WL.val (.int .i64 ((-1 - f))) rfl rfl rfl (fun za zC zh zk => subb_3 rfl (zh.ev rfl) (zh.ev rfl) (wrap_eq rfl (by omega) (by omega)) zk) ?_
            refine WL.val (.int .i64 ((-1 - f))) rfl rfl rfl (fun za zC zh zk => wp_assign rfl (zh.ev rfl) zk) ?_
            refine WL.nil (WE.sub (K' := [(0, .pointer (some ⟨g, 0, none⟩)), (1, .agg #[.int .i64 p.f, .slice pa0 p.args.length pc0]), (2, .agg #[.int .i64 t.f, .slice ta0 t.args.length tc0]), (4, .pointer (some ⟨g2, 0, none⟩)), (5, .pointer (some ⟨g11, 0, none⟩)), (7, .int .i64 (((st.length : Nat) : Int))), (8, .pointer (some ⟨g44, 0, none⟩)), (9, .slice x.ta L.length x.tc), (10, .pointer (some ⟨g104, 0, none⟩)), (11, .int .i64 ((-1 - f))), (23, .bool (((!(p.plain)) || (!(t.plain))))), (32, .bool ((decide ((0 : Int) < (((x.L.length : Nat) : Int) : Int))))), (49, .bool ((decide ((f : Int) < (0 : Int)))))]) ⟨rfl, rfl, rfl, rfl, rfl, rfl, rfl, rfl, rfl, rfl, rfl, rfl, rfl, trivial⟩ ?_)
            refine WE.next ?_
            refine WC.seq ?_
            refine WC.seq ?_
            refine WC.region ?_
            refine WL.val (.pointer (some ⟨g, 0, none⟩)) rfl rfl rfl (fun za zC zh zk => wp_move rfl (zh.ev rfl) zk) ?_
            refine WL.val (.pointer (some ⟨g, 0, none⟩)) rfl rfl rfl (fun za zC zh zk => nilCheck_ rfl (zh.ev rfl) zk) ?_
            refine WL.val (.pointer (some ⟨g, 0, none⟩)) rfl rfl rfl (fun za zC zh zk => fld_64_0 rfl (zh.ev rfl) zk) ?_
            refine WL.val (.map ((some mb))) rfl rfl rfl (fun za zC zh zk => ld_62 rfl (zh.ev rfl) ((hB127.cell 0).trans rfl) zk) ?_
            refine WL.val (.int .i64 ((-1 - f))) rfl rfl rfl (fun za zC zh zk => wp_move rfl (zh.ev rfl) zk) ?_
            have ho131 := hts.below hb119
            rcases ho131.look (-1 - f) with ⟨hf, hlk⟩ | ⟨o, ob, oo, oa, oc, hf, hlk, ho1, ho2, ho3⟩
            · refine WL.val (.pointer none) rfl rfl rfl (fun za zC zh zk => wp_look_im Try.underlying62 Try.underlying3 (zeroPt _) ho129 ho131.ent rfl (zh.ev rfl) (zh.ev rfl) (by rw [hlk]; exact zk)) ?_
              refine WL.val (.pointer none) rfl rfl rfl (fun za zC zh zk => wp_assign rfl (zh.ev rfl) zk) ?_
              refine WL.nil (WE.sub (K' := [(0, .pointer (some ⟨g, 0, none⟩)), (1, .agg #[.int .i64 p.f, .slice pa0 p.args.length pc0]), (2, .agg #[.int .i64 t.f, .slice ta0 t.args.length tc0]), (4, .pointer (some ⟨g2, 0, none⟩)), (5, .pointer (some ⟨g11, 0, none⟩)), (7, .int .i64 (((st.length : Nat) : Int))), (8, .pointer (some ⟨g44, 0, none⟩)), (9, .slice x.ta L.length x.tc), (10, .pointer (some ⟨g104, 0, none⟩)), (11, .int .i64 ((-1 - f))), (12, .pointer none), (23, .bool (((!(p.plain)) || (!(t.plain))))), (32, .bool ((decide ((0 : Int) < (((x.L.length : Nat) : Int) : Int))))), (49, .bool ((decide ((f : Int) < (0 : Int)))))]) ⟨rfl, rfl, rfl, rfl, rfl, rfl, rfl, rfl, rfl, rfl, rfl, rfl, rfl, rfl, trivial⟩ ?_)
              refine WE.next ?_
              refine WC.seq ?_
              refine WC.region ?_
              refine WL.val (.pointer none) rfl rfl rfl (fun za zC zh zk => wp_move rfl (zh.ev rfl) zk) ?_
              refine WL.val (.bool true) rfl rfl rfl (fun za zC zh zk => eqln_66 rfl (zh.ev rfl) (zh.ev rfl) zk) ?_
              refine WL.nil (WE.sub (K' := [(0, .pointer (some ⟨g, 0, none⟩)), (1, .agg #[.int .i64 p.f, .slice pa0 p.args.length pc0]), (2, .agg #[.int .i64 t.f, .slice ta0 t.args.length tc0]), (4, .pointer (some ⟨g2, 0, none⟩)), (5, .pointer (some ⟨g11, 0, none⟩)), (7, .int .i64 (((st.length : Nat) : Int))), (8, .pointer (some ⟨g44, 0, none⟩)), (9, .slice x.ta L.length x.tc), (10, .pointer (some ⟨g104, 0, none⟩)), (11, .int .i64 ((-1 - f))), (12, .pointer none), (23, .bool (((!(p.plain)) || (!(t.plain))))), (32, .bool ((decide ((0 : Int) < (((x.L.length : Nat) : Int) : Int))))), (49, .bool ((decide ((f : Int) < (0 : Int))))), (63, .bool true)]) ⟨rfl, rfl, rfl, rfl, rfl, rfl, rfl, rfl, rfl, rfl, rfl, rfl, rfl, rfl, rfl, trivial⟩ ?_)
              refine WE.next ?_
              refine WC.condT rfl rfl ?_
              refine WC.seq ?_
              have hgB := hB127
              have hmB := ho129
              have hgm2 : g ≠ mb := hgm
              refine WC.tail1 (S := ((fun b => b = mb))) [(true, .val (.pointer (some ⟨g, 0, none⟩))), (true, .val (.pointer (some ⟨g, 0, none⟩))), (true, .val (.pointer (some ⟨g, 0, none⟩))), (true, .val (.map ((some mb)))), (true, .val (.int .i64 ((-1 - f)))), (true, .val (.pointer (some ⟨g104, 1, none⟩))), (true, .val (.pointer (some ⟨qb, qo, none⟩))), (true, .val undef)] [(0, .pointer (some ⟨g, 0, none⟩)), (1, .agg #[.int .i64 p.f, .slice pa0 p.args.length pc0]), (2, .agg #[.int .i64 t.f, .slice ta0 t.args.length tc0]), (4, .pointer (some ⟨g2, 0, none⟩)), (5, .pointer (some ⟨g11, 0, none⟩)), (7, .int .i64 (((st.length : Nat) : Int))), (8, .pointer (some ⟨g44, 0, none⟩)), (9, .slice x.ta L.length x.tc), (10, .pointer (some ⟨g104, 0, none⟩)), (11, .int .i64 ((-1 - f))), (12, .pointer none), (23, .bool (((!(p.plain)) || (!(t.plain))))), (32, .bool ((decide ((0 : Int) < (((x.L.length : Nat) : Int) : Int))))), (49, .bool ((decide ((f : Int) < (0 : Int))))), (63, .bool true)] 7 (fun wz => ∃ es' cl', ObjAt wz mb (.map es' cl') ∧ ImE es' cl' ((x.st.map (·.var)).zip x.ps ++ [(-1 - f, .pointer (some ⟨qb, qo, none⟩))])) (fun w w' hb ⟨es', cl', h1, h2⟩ => ⟨es', cl', h1.below hb, h2⟩) ⟨rfl, rfl, rfl, rfl, rfl, rfl, rfl, rfl, rfl, rfl, rfl, rfl, rfl, rfl, rfl, trivial⟩ (by kernel_rfl) (by kernel_rfl) (by kernel_rfl) (by kernel_rfl) ?_ ?_
              · refine ⟨.inl ⟨rfl, true, .none rfl, (fun gg b h => by cases h), fun h w => optUndef h, fun zβ za zw zc => ?_⟩, ?_⟩
                · exact wp_move rfl (zc.kn.ev rfl) ⟨_, rfl, Below.refl _ _, optDef zβ rfl⟩
                refine ⟨.inl ⟨rfl, true, .none rfl, (fun gg b h => by cases h), fun h w => optUndef h, fun zβ za zw zc => ?_⟩, ?_⟩
                · exact nilCheck_ rfl ((show za.eval (.tmp 64) = za.tmps.getD 64 undef from rfl).trans (optSVal (zc.dep 0 64 (by kernel_rfl) (by decide)) rfl rfl)) ⟨_, rfl, Below.refl _ _, optDef zβ rfl⟩
                refine ⟨.inl ⟨rfl, true, .none rfl, (fun gg b h => by cases h), fun h w => optUndef h, fun zβ za zw zc => ?_⟩, ?_⟩
                · exact fld_64_0 rfl ((show za.eval (.tmp 65) = za.tmps.getD 65 undef from rfl).trans (optSVal (zc.dep 1 65 (by kernel_rfl) (by decide)) rfl rfl)) ⟨_, rfl, Below.refl _ _, optDef zβ rfl⟩
                refine ⟨.inl ⟨rfl, true, .none rfl, (fun gg b h => by cases h), fun h w => optUndef h, fun zβ za zw zc => ?_⟩, ?_⟩
                · exact ld_62 rfl ((show za.eval (.tmp 66) = za.tmps.getD 66 undef from rfl).trans (optSVal (zc.dep 2 66 (by kernel_rfl) (by decide)) rfl rfl)) (bkeeps (zc.early (by kernel_rfl)) _ _ ((hB127.cell 0).trans rfl)) ⟨_, rfl, Below.refl _ _, optDef zβ rfl⟩
                refine ⟨.inl ⟨rfl, true, .none rfl, (fun gg b h => by cases h), fun h w => optUndef h, fun zβ za zw zc => ?_⟩, ?_⟩
                · exact wp_move rfl (zc.kn.ev rfl) ⟨_, rfl, Below.refl _ _, optDef zβ rfl⟩
                refine ⟨.inl ⟨rfl, true, .none rfl, (fun gg b h => by cases h), fun h w => optUndef h, fun zβ za zw zc => ?_⟩, ?_⟩
                · exact fld_69_1 rfl (zc.kn.ev rfl) ⟨_, rfl, Below.refl _ _, optDef zβ rfl⟩
                refine ⟨.inl ⟨rfl, true, .none rfl, (fun gg b h => by cases h), fun h w => optUndef h, fun zβ za zw zc => ?_⟩, ?_⟩
                · exact ld_66 rfl ((show za.eval (.tmp 69) = za.tmps.getD 69 undef from rfl).trans (optSVal (zc.dep 5 69 (by kernel_rfl) (by decide)) rfl rfl)) (bkeeps (zc.early (by kernel_rfl)) _ _ ((hB117.cell 1).trans rfl)) ⟨_, rfl, Below.refl _ _, optDef zβ rfl⟩
                refine ⟨.inr ⟨rfl, rfl, fun za zw zc => ?_⟩, ?_⟩
                · exact wp_put_im Try.underlying62 Try.underlying3 (ho129.below zc.below) ho131.ent rfl ((show za.eval (.tmp 67) = za.tmps.getD 67 undef from rfl).trans (optSVal (zc.dep 3 67 (by kernel_rfl) (by decide)) rfl rfl)) ((show za.eval (.tmp 68) = za.tmps.getD 68 undef from rfl).trans (optSVal (zc.dep 4 68 (by kernel_rfl) (by decide)) rfl rfl)) ((show za.eval (.tmp 70) = za.tmps.getD 70 undef from rfl).trans (optSVal (zc.dep 6 70 (by kernel_rfl) (by decide)) rfl rfl)) (fun y hy => by obtain ⟨q, hq, e⟩ := List.mem_map.1 (List.of_mem_zip hy).1; rw [← e]; exact subFind_none' hf q hq) (fun w' es' cl' h1 h2 h3 => ⟨undef, rfl, ⟨es', cl', h1, h2⟩, .ofUpd h3 rfl⟩)
                exact trivial
              · intro za w132 zh hG133 hc134 zu
                have hB135 := chg_blk hB121 hc134 (by (try dsimp only at *); omega)
                have hB136 := chg_blk hB123 hc134 (by (try dsimp only at *); omega)
                have hB137 := chg_blk hB125 hc134 (by (try dsimp only at *); omega)
                have hB138 := chg_blk hB127 hc134 (by (try dsimp only at *); omega)
                have hB139 := chg_blk hB117 hc134 (by (try dsimp only at *); omega)
                obtain ⟨es140, cl141, hM142, hE143⟩ := hG133
                clear zu
                refine (show WE _ [(0, .pointer (some ⟨g, 0, none⟩)), (1, .agg #[.int .i64 p.f, .slice pa0 p.args.length pc0]), (2, .agg #[.int .i64 t.f, .slice ta0 t.args.length tc0]), (4, .pointer (some ⟨g2, 0, none⟩)), (5, .pointer (some ⟨g11, 0, none⟩)), (7, .int .i64 (((st.length : Nat) : Int))), (8, .pointer (some ⟨g44, 0, none⟩)), (9, .slice x.ta L.length x.tc), (10, .pointer (some ⟨g104, 0, none⟩)), (11, .int .i64 ((-1 - f))), (12, .pointer none), (23, .bool (((!(p.plain)) || (!(t.plain))))), (32, .bool ((decide ((0 : Int) < (((x.L.length : Nat) : Int) : Int))))), (49, .bool ((decide ((f : Int) < (0 : Int))))), (63, .bool true)] w132 _ .normal from ?_) za (zh.sub ⟨rfl, rfl, rfl, rfl, rfl, rfl, rfl, rfl, rfl, rfl, rfl, rfl, rfl, rfl, rfl, trivial⟩)
                refine WE.next ?_
                refine WC.region ?_
                refine WL.val (.pointer (some ⟨g, 0, none⟩)) rfl rfl rfl (fun za zC zh zk => wp_move rfl (zh.ev rfl) zk) ?_
                refine WL.val (.pointer (some ⟨g, 0, none⟩)) rfl rfl rfl (fun za zC zh zk => wp_move rfl (zh.ev rfl) zk) ?_
                refine WL.val (.pointer (some ⟨g, 0, none⟩)) rfl rfl rfl (fun za zC zh zk => nilCheck_ rfl (zh.ev rfl) zk) ?_
                refine WL.val (.pointer (some ⟨g, 1, none⟩)) rfl rfl rfl (fun za zC zh zk => fld_64_1 rfl (zh.ev rfl) zk) ?_
                refine WL.val (.slice x.ra x.st.length x.rc) rfl rfl rfl (fun za zC zh zk => ld_59 rfl (zh.ev rfl) ((hB138.cell 1).trans rfl) zk) ?_
                refine WL.val (.int .i64 ((-1 - f))) rfl rfl rfl (fun za zC zh zk => wp_move rfl (zh.ev rfl) zk) ?_
                refine WL.step (post := NewRow w132 3 #[.int .i64 ((-1 - f))] 1) rfl rfl rfl (fun za zC zh zk => row_59_1 rfl (zh.ev rfl) (zk _ _ (newRow _ _ _ _))) ?_
                rintro _ w144 ⟨g145, rfl, hg146, hB147, hb148, hz149⟩
                have hl150 : g2 < g145 := by have z1 := hB135.lt; omega
                have hl151 : g11 < g145 := by have z1 := hB136.lt; omega
                have hl152 : g44 < g145 := by have z1 := hB137.lt; omega
                have hl153 : g < g145 := by have z1 := hB138.lt; omega
                have hl154 : g104 < g145 := by have z1 := hB139.lt; omega
                have hl155 : mb < g145 := by have z1 := hM142.lt; omega
                have hs156 : Chg ((fun b => b = mb)) w115 w144 := (Chg.trans2 (Chg.trans2 (Chg.refl ((fun b => b = mb)) _) hc134 (fun i h1 h2 => by first | exact h2 | exact .inl h2 | exact .inr h2 | exact .inr (.inl h2) | exact .inr (.inr h2) | ((try dsimp only at *); omega))) (Chg.ofBelow (S := fun k => k < 0) hb148) (fun i h1 h2 => by first | exact h2 | exact .inl h2 | exact .inr h2 | exact .inr (.inl h2) | exact .inr (.inr h2) | ((try dsimp only at *); omega)))
                have hrw : RowE eltI w144 0 3 x.ra x.rc x.st.length (x.st.map (·.var)) := ho131.mrow.chgOwn (fun _ _ _ _ _ q => q) hs156 (fun b q e => by subst e; exact ho131.mrow.neMap hmB q)
                have hB157 := hB135.below hb148
                have hne158 : ¬ (Value.slice x.ra x.st.length x.rc).ownBlock = some g2 := hrw.neBlk hB157 (by decide)
                have hB159 := hB136.below hb148
                have hne160 : ¬ (Value.slice x.ra x.st.length x.rc).ownBlock = some g11 := hrw.neBlk hB159 (by decide)
                have hB161 := hB137.below hb148
                have hne162 : ¬ (Value.slice x.ra x.st.length x.rc).ownBlock = some g44 := hrw.neBlk hB161 (by decide)
                have hB163 := hB138.below hb148
                have hne164 : ¬ (Value.slice x.ra x.st.length x.rc).ownBlock = some g := hrw.neBlk hB163 (by decide)
                have hB165 := hB139.below hb148
                have hne166 : ¬ (Value.slice x.ra x.st.length x.rc).ownBlock = some g104 := hrw.neBlk hB165 (by decide)
                have ho168 := hM142.below hb148
                have hne167 : ¬ (Value.slice x.ra x.st.length x.rc).ownBlock = some mb := hrw.neMap ho168
                have hlst := len_le_ssz x.L
                refine WL.step (post := fun v w' => ∃ ra rc, v = .slice ra (x.st.length + 1) rc ∧ RowE eltI w' 0 3 ra rc (x.st.length + 1) (x.st.map (·.var) ++ [-1 - f]) ∧ Chg (fun b => (Value.slice x.ra x.st.length x.rc).ownBlock = some b) w144 w' ∧ ∀ b, (Value.slice ra (x.st.length + 1) rc).ownBlock = some b → (Value.slice x.ra x.st.length x.rc).ownBlock = some b ∨ b = w144.heap.size) rfl rfl rfl (fun za zC zh zk => wp_appE2 (E := eltI) (size := 1) (bytes := 8) (z := .int .i64 0) (cs := [.int .i64 (-1 - f)]) rfl Try.underlying59 (by kernel_rfl) rfl (by decide) rfl (zh.ev rfl) (zh.ev rfl) hrw hB147 rfl (by omega) (by omega) (Nat.zero_le _) (fun ra rc w' h1 h2 _ h4 => zk _ _ ⟨ra, rc, rfl, h1, h2, h4⟩)) ?_
                rintro _ w169 ⟨ra170, rc171, rfl, hR172, hc173, ho174⟩
                have hB175 := chg_blk hB157 hc173 (by assumption)
                have hB176 := chg_blk hB159 hc173 (by assumption)
                have hB177 := chg_blk hB161 hc173 (by assumption)
                have hB178 := chg_blk hB163 hc173 (by assumption)
                have hB179 := chg_blk hB165 hc173 (by assumption)
                have ho180 := ho168.chg hc173 (by assumption)
                refine WL.val (.pointer (some ⟨g, 0, none⟩)) rfl rfl rfl (fun za zC zh zk => nilCheck_ rfl (zh.ev rfl) zk) ?_
                refine WL.val (.pointer (some ⟨g, 1, none⟩)) rfl rfl rfl (fun za zC zh zk => fld_64_1 rfl (zh.ev rfl) zk) ?_
                refine WL.step (post := fun _ w' => Upd g w169 w' ∧ Blk w' g 64 #[.map ((some mb)), .slice ra170 ((x.st.length + 1)) rc171]) rfl rfl rfl (fun za zC zh zk => st_59 rfl (zh.ev rfl) (zh.ev rfl) hB178 (by first | decide | simp) (fun v => zk v _ ⟨Upd.at_ _ _ _ _, hB178.set_ 1 _⟩)) ?_
                rintro v184 w181 ⟨hu182, hB183⟩
                have hB185 := upd_blk hB175 hu182 (by omega)
                have hB186 := upd_blk hB176 hu182 (by omega)
                have hB187 := upd_blk hB177 hu182 (by omega)
                have hB188 := upd_blk hB179 hu182 (by omega)
                have ho189 := ho180.upd hu182 (by omega)
                refine WL.nil (WE.sub (K' := [(0, .pointer (some ⟨g, 0, none⟩)), (1, .agg #[.int .i64 p.f, .slice pa0 p.args.length pc0]), (2, .agg #[.int .i64 t.f, .slice ta0 t.args.length tc0]), (4, .pointer (some ⟨g2, 0, none⟩)), (5, .pointer (some ⟨g11, 0, none⟩)), (7, .int .i64 (((st.length : Nat) : Int))), (8, .pointer (some ⟨g44, 0, none⟩)), (9, .slice x.ta L.length x.tc), (10, .pointer (some ⟨g104, 0, none⟩)), (11, .int .i64 ((-1 - f))), (12, .pointer none), (23, .bool (((!(p.plain)) || (!(t.plain))))), (32, .bool ((decide ((0 : Int) < (((x.L.length : Nat) : Int) : Int))))), (49, .bool ((decide ((f : Int) < (0 : Int))))), (63, .bool true)]) ⟨rfl, rfl, rfl, rfl, rfl, rfl, rfl, rfl, rfl, rfl, rfl, rfl, rfl, rfl, rfl, trivial⟩ ?_)
                refine WE.next ?_
                refine WC.exit ?_
                refine WE.thenExit ?_
                refine WE.blockIs rfl ?_
                have hs190 : Chg ((fun b => b = g ∨ b = mb ∨ (Value.slice x.ra x.st.length x.rc).ownBlock = some b)) w115 w181 := (Chg.trans2 (Chg.trans2 (Chg.trans2 (Chg.trans2 (Chg.refl ((fun b => b = g ∨ b = mb ∨ (Value.slice x.ra x.st.length x.rc).ownBlock = some b)) _) hc134 (fun i h1 h2 => by first | exact h2 | exact .inl h2 | exact .inr h2 | exact .inr (.inl h2) | exact .inr (.inr h2) | ((try dsimp only at *); omega))) (Chg.ofBelow (S := fun k => k < 0) hb148) (fun i h1 h2 => by first | exact h2 | exact .inl h2 | exact .inr h2 | exact .inr (.inl h2) | exact .inr (.inr h2) | ((try dsimp only at *); omega))) hc173 (fun i h1 h2 => by first | exact h2 | exact .inl h2 | exact .inr h2 | exact .inr (.inl h2) | exact .inr (.inr h2) | ((try dsimp only at *); omega))) (Chg.ofUpd (S := fun k => k = g) hu182 rfl) (fun i h1 h2 => by first | exact h2 | exact .inl h2 | exact .inr h2 | exact .inr (.inl h2) | exact .inr (.inr h2) | ((try dsimp only at *); omega)))
                have hRg : ¬ (Value.slice ra170 (x.st.length + 1) rc171).ownBlock = some g := hR172.neBlk (w := w169) hB178 (by decide)
                have hs192 : Chg ((fun b => b = g)) w169 w181 := (Chg.trans2 (Chg.refl ((fun b => b = g)) _) (Chg.ofUpd (S := fun k => k = g) hu182 rfl) (fun i h1 h2 => by first | exact h2 | exact .inl h2 | exact .inr h2 | exact .inr (.inl h2) | exact .inr (.inr h2) | ((try dsimp only at *); omega)))
                have hts191 : TS w g mb g75 C Ps Ts st w181 { x with L := L, R := R, ra := ra170, rc := rc171, st := x.st ++ [⟨-1 - f, tt⟩], ps := x.ps ++ [.pointer (some ⟨qb, qo, none⟩)], es := es140, cl := cl141 } := TS.bind ho131 (hR172.chgOwn (fun _ _ _ _ _ q => q) hs192 (fun b q e => hRg (by subst e; exact q))) hs190 ⟨_, hgB⟩ ⟨_, _, hmB⟩ (fun b e => (ho174 b e).imp id (fun e => by have z := (Nat.le_trans hc134.size hb148.size); omega)) hE143 hf (hqP.below hb119) (by unfold I64; omega) hz2
                refine WE.round ({ x with L := L, R := R, ra := ra170, rc := rc171, st := x.st ++ [⟨-1 - f, tt⟩], ps := x.ps ++ [.pointer (some ⟨qb, qo, none⟩)], es := es140, cl := cl141 }) ⟨rfl, rfl, rfl, rfl, rfl, rfl, rfl, rfl, rfl, trivial⟩ ?_ ?_
                · exact ⟨ans_new hans hL h130 hf, by have z := ssz_top hL; (try dsimp only); simp only [List.length_append, List.length_singleton]; omega, hB185, hB186, hB187, (by have z := hB183; simpa using z), ho189, hts191⟩
                · have z := ssz_top hL; (try dsimp only); omega
            · refine WL.val (.pointer (some ⟨ob, oo, none⟩)) rfl rfl rfl (fun za zC zh zk => wp_look_im Try.underlying62 Try.underlying3 (zeroPt _) ho129 ho131.ent rfl (zh.ev rfl) (zh.ev rfl) (by rw [hlk]; exact zk)) ?_
              refine WL.val (.pointer (some ⟨ob, oo, none⟩)) rfl rfl rfl (fun za zC zh zk => wp_assign rfl (zh.ev rfl) zk) ?_
              refine WL.nil (WE.sub (K' := [(0, .pointer (some ⟨g, 0, none⟩)), (1, .agg #[.int .i64 p.f, .slice pa0 p.args.length pc0]), (2, .agg #[.int .i64 t.f, .slice ta0 t.args.length tc0]), (4, .pointer (some ⟨g2, 0, none⟩)), (5, .pointer (some ⟨g11, 0, none⟩)), (7, .int .i64 (((st.length : Nat) : Int))), (8, .pointer (some ⟨g44, 0, none⟩)), (9, .slice x.ta L.length x.tc), (10, .pointer (some ⟨g104, 0, none⟩)), (11, .int .i64 ((-1 - f))), (12, .pointer (some ⟨ob, oo, none⟩)), (23, .bool (((!(p.plain)) || (!(t.plain))))), (32, .bool ((decide ((0 : Int) < (((x.L.length : Nat) : Int) : Int))))), (49, .bool ((decide ((f : Int) < (0 : Int)))))]) ⟨rfl, rfl, rfl, rfl, rfl, rfl, rfl, rfl, rfl, rfl, rfl, rfl, rfl, rfl, trivial⟩ ?_)
              refine WE.next ?_
              refine WC.seq ?_
              refine WC.region ?_
              refine WL.val (.pointer (some ⟨ob, oo, none⟩)) rfl rfl rfl (fun za zC zh zk => wp_move rfl (zh.ev rfl) zk) ?_
              refine WL.val (.bool false) rfl rfl rfl (fun za zC zh zk => eqlp_66 rfl (zh.ev rfl) (zh.ev rfl) zk) ?_
              refine WL.nil (WE.sub (K' := [(0, .pointer (some ⟨g, 0, none⟩)), (1, .agg #[.int .i64 p.f, .slice pa0 p.args.length pc0]), (2, .agg #[.int .i64 t.f, .slice ta0 t.args.length tc0]), (4, .pointer (some ⟨g2, 0, none⟩)), (5, .pointer (some ⟨g11, 0, none⟩)), (7, .int .i64 (((st.length : Nat) : Int))), (8, .pointer (some ⟨g44, 0, none⟩)), (9, .slice x.ta L.length x.tc), (10, .pointer (some ⟨g104, 0, none⟩)), (11, .int .i64 ((-1 - f))), (12, .pointer (some ⟨ob, oo, none⟩)), (23, .bool (((!(p.plain)) || (!(t.plain))))), (32, .bool ((decide ((0 : Int) < (((x.L.length : Nat) : Int) : Int))))), (49, .bool ((decide ((f : Int) < (0 : Int))))), (63, .bool false)]) ⟨rfl, rfl, rfl, rfl, rfl, rfl, rfl, rfl, rfl, rfl, rfl, rfl, rfl, rfl, rfl, trivial⟩ ?_)
              refine WE.next ?_
              refine WC.condF rfl rfl ?_
              refine WC.seq ?_
              refine WC.opt [(true, .val (.pointer (some ⟨ob, oo, none⟩))), (true, .val (.pointer (some ⟨ob, oo, none⟩))), (true, .val (.agg #[.int .i64 o.f, .slice oa o.args.length oc])), (true, .val (.pointer (some ⟨g104, 1, none⟩))), (true, .val (.pointer (some ⟨qb, qo, none⟩))), (true, .val (.pointer (some ⟨qb, qo, none⟩))), (true, .val (.agg #[.int .i64 tt.f, .slice qa tt.args.length qc])), (true, .val (.bool ((T.same o tt)))), (true, .val (.bool ((!(T.same o tt)))))] [(0, .pointer (some ⟨g, 0, none⟩)), (1, .agg #[.int .i64 p.f, .slice pa0 p.args.length pc0]), (2, .agg #[.int .i64 t.f, .slice ta0 t.args.length tc0]), (4, .pointer (some ⟨g2, 0, none⟩)), (5, .pointer (some ⟨g11, 0, none⟩)), (7, .int .i64 (((st.length : Nat) : Int))), (8, .pointer (some ⟨g44, 0, none⟩)), (9, .slice x.ta L.length x.tc), (10, .pointer (some ⟨g104, 0, none⟩)), (11, .int .i64 ((-1 - f))), (12, .pointer (some ⟨ob, oo, none⟩)), (23, .bool (((!(p.plain)) || (!(t.plain))))), (32, .bool ((decide ((0 : Int) < (((x.L.length : Nat) : Int) : Int))))), (49, .bool ((decide ((f : Int) < (0 : Int))))), (63, .bool false)] ⟨rfl, rfl, rfl, rfl, rfl, rfl, rfl, rfl, rfl, rfl, rfl, rfl, rfl, rfl, rfl, trivial⟩ (by kernel_rfl) (by kernel_rfl) (by kernel_rfl) ?_ ?_
              · refine ⟨⟨true, .none rfl, fun h w => optUndef h, fun zβ za zw zc => ?_⟩, ?_⟩
                · exact wp_move rfl (zc.kn.ev rfl) ⟨_, rfl, Below.refl _ _, optDef zβ rfl⟩
                refine ⟨⟨true, .none rfl, fun h w => optUndef h, fun zβ za zw zc => ?_⟩, ?_⟩
                · exact nilCheck_ rfl ((show za.eval (.tmp 81) = za.tmps.getD 81 undef from rfl).trans (optVal (zc.dep 0 81 (by kernel_rfl)) rfl rfl)) ⟨_, rfl, Below.refl _ _, optDef zβ rfl⟩
                refine ⟨⟨true, .none rfl, fun h w => optUndef h, fun zβ za zw zc => ?_⟩, ?_⟩
                · exact ld_24 rfl ((show za.eval (.tmp 82) = za.tmps.getD 82 undef from rfl).trans (optVal (zc.dep 1 82 (by kernel_rfl)) rfl rfl)) (bkeeps zc.below _ _ ho1) (bkeeps zc.below _ _ ho2) ⟨_, rfl, Below.refl _ _, optDef zβ rfl⟩
                refine ⟨⟨true, .none rfl, fun h w => optUndef h, fun zβ za zw zc => ?_⟩, ?_⟩
                · exact fld_69_1 rfl (zc.kn.ev rfl) ⟨_, rfl, Below.refl _ _, optDef zβ rfl⟩
                refine ⟨⟨true, .none rfl, fun h w => optUndef h, fun zβ za zw zc => ?_⟩, ?_⟩
                · exact ld_66 rfl ((show za.eval (.tmp 84) = za.tmps.getD 84 undef from rfl).trans (optVal (zc.dep 3 84 (by kernel_rfl)) rfl rfl)) (bkeeps zc.below _ _ ((hB117.cell 1).trans rfl)) ⟨_, rfl, Below.refl _ _, optDef zβ rfl⟩
                refine ⟨⟨true, .none rfl, fun h w => optUndef h, fun zβ za zw zc => ?_⟩, ?_⟩
                · exact nilCheck_ rfl ((show za.eval (.tmp 85) = za.tmps.getD 85 undef from rfl).trans (optVal (zc.dep 4 85 (by kernel_rfl)) rfl rfl)) ⟨_, rfl, Below.refl _ _, optDef zβ rfl⟩
                refine ⟨⟨true, .none rfl, fun h w => optUndef h, fun zβ za zw zc => ?_⟩, ?_⟩
                · exact ld_24 rfl ((show za.eval (.tmp 86) = za.tmps.getD 86 undef from rfl).trans (optVal (zc.dep 5 86 (by kernel_rfl)) rfl rfl)) (bkeeps (bstep hb119 zc.below) _ _ hq1) (bkeeps (bstep hb119 zc.below) _ _ hq2) ⟨_, rfl, Below.refl _ _, optDef zβ rfl⟩
                refine ⟨⟨true, .none rfl, fun h w => optUndef h, fun zβ za zw zc => ?_⟩, ?_⟩
                · exact wp_call (by kernel_rfl) rfl (hv2 ((show za.eval (.tmp 83) = za.tmps.getD 83 undef from rfl).trans (optVal (zc.dep 2 83 (by kernel_rfl)) rfl rfl)) ((show za.eval (.tmp 87) = za.tmps.getD 87 undef from rfl).trans (optVal (zc.dep 6 87 (by kernel_rfl)) rfl rfl))) (ret_of (same_any o tt _ _ _ (IsT.below zc.below ho3) (IsT.below (bstep hb119 zc.below) (InT.isT hqT)))) (fun v w' h => ⟨v, rfl, h.2, optDef zβ h.1⟩)
                refine ⟨⟨true, .none rfl, fun h w => optUndef h, fun zβ za zw zc => ?_⟩, ?_⟩
                · exact wp_not rfl ((show za.eval (.tmp 88) = za.tmps.getD 88 undef from rfl).trans (optVal (zc.dep 7 88 (by kernel_rfl)) rfl rfl)) ⟨_, rfl, Below.refl _ _, optDef zβ rfl⟩
                exact trivial
              · intro za w193 zh hb194 zu
                have zh := zh.cons (d := 89) (v := .bool ((!(T.same o tt)))) (optVal (zu 8 89 (by kernel_rfl)) rfl rfl)
                clear zu
                refine (show WE _ [(0, .pointer (some ⟨g, 0, none⟩)), (1, .agg #[.int .i64 p.f, .slice pa0 p.args.length pc0]), (2, .agg #[.int .i64 t.f, .slice ta0 t.args.length tc0]), (4, .pointer (some ⟨g2, 0, none⟩)), (5, .pointer (some ⟨g11, 0, none⟩)), (7, .int .i64 (((st.length : Nat) : Int))), (8, .pointer (some ⟨g44, 0, none⟩)), (9, .slice x.ta L.length x.tc), (10, .pointer (some ⟨g104, 0, none⟩)), (11, .int .i64 ((-1 - f))), (12, .pointer (some ⟨ob, oo, none⟩)), (23, .bool (((!(p.plain)) || (!(t.plain))))), (32, .bool ((decide ((0 : Int) < (((x.L.length : Nat) : Int) : Int))))), (49, .bool ((decide ((f : Int) < (0 : Int))))), (63, .bool false), (89, .bool ((!(T.same o tt))))] w193 _ .normal from ?_) za (zh.sub ⟨rfl, rfl, rfl, rfl, rfl, rfl, rfl, rfl, rfl, rfl, rfl, rfl, rfl, rfl, rfl, rfl, trivial⟩)
                refine WE.next ?_
                refine WC.cond rfl (fun h195 => ?_) (fun h195 => ?_)
                · have h195 : ¬ ((T.same o tt) = true) := by simpa using h195
                  refine WC.seq ?_
                  refine WC.region ?_
                  refine WL.val (.pointer (some ⟨g, 0, none⟩)) rfl rfl rfl (fun za zC zh zk => wp_move rfl (zh.ev rfl) zk) ?_
                  refine WL.val (.int .i64 (((st.length : Nat) : Int))) rfl rfl rfl (fun za zC zh zk => wp_move rfl (zh.ev rfl) zk) ?_
                  have ho196 := ho131.below hb194
                  have hB197 := hB127.below hb194
                  have ho198 := ho129.below hb194
                  have hma := ho196.mat hB197 ho198 hTs0
                  refine WL.call rfl rfl rfl (fun za zh zC => wp_call (by kernel_rfl) rfl (hv2 (zh.ev rfl) (zh.ev rfl))) (back_any (st.length : Nat) _ hma) ?_
                  rintro _ w199 ⟨hmb, hcb⟩
                  refine WL.nil (WE.sub (K' := [(0, .pointer (some ⟨g, 0, none⟩)), (1, .agg #[.int .i64 p.f, .slice pa0 p.args.length pc0]), (2, .agg #[.int .i64 t.f, .slice ta0 t.args.length tc0]), (4, .pointer (some ⟨g2, 0, none⟩)), (5, .pointer (some ⟨g11, 0, none⟩)), (7, .int .i64 (((st.length : Nat) : Int))), (8, .pointer (some ⟨g44, 0, none⟩)), (9, .slice x.ta L.length x.tc), (10, .pointer (some ⟨g104, 0, none⟩)), (11, .int .i64 ((-1 - f))), (12, .pointer (some ⟨ob, oo, none⟩)), (23, .bool (((!(p.plain)) || (!(t.plain))))), (32, .bool ((decide ((0 : Int) < (((x.L.length : Nat) : Int) : Int))))), (49, .bool ((decide ((f : Int) < (0 : Int))))), (63, .bool false), (89, .bool ((!(T.same o tt))))]) ⟨rfl, rfl, rfl, rfl, rfl, rfl, rfl, rfl, rfl, rfl, rfl, rfl, rfl, rfl, rfl, rfl, trivial⟩ ?_)
                  refine WE.next ?_
                  refine WC.seq ?_
                  refine WC.region ?_
                  refine WL.val (.bool false) rfl rfl rfl (fun za zC zh zk => wp_assign rfl (zh.ev rfl) zk) ?_
                  refine WL.nil (WE.sub (K' := [(0, .pointer (some ⟨g, 0, none⟩)), (1, .agg #[.int .i64 p.f, .slice pa0 p.args.length pc0]), (2, .agg #[.int .i64 t.f, .slice ta0 t.args.length tc0]), (4, .pointer (some ⟨g2, 0, none⟩)), (5, .pointer (some ⟨g11, 0, none⟩)), (6, .bool false), (7, .int .i64 (((st.length : Nat) : Int))), (8, .pointer (some ⟨g44, 0, none⟩)), (9, .slice x.ta L.length x.tc), (10, .pointer (some ⟨g104, 0, none⟩)), (11, .int .i64 ((-1 - f))), (12, .pointer (some ⟨ob, oo, none⟩)), (23, .bool (((!(p.plain)) || (!(t.plain))))), (32, .bool ((decide ((0 : Int) < (((x.L.length : Nat) : Int) : Int))))), (49, .bool ((decide ((f : Int) < (0 : Int))))), (63, .bool false), (89, .bool ((!(T.same o tt))))]) ⟨rfl, rfl, rfl, rfl, rfl, rfl, rfl, rfl, rfl, rfl, rfl, rfl, rfl, rfl, rfl, rfl, rfl, trivial⟩ ?_)
                  refine WE.next ?_
                  refine WC.ret ?_
                  refine WE.thenRet ?_
                  refine WE.thenRet ?_
                  refine WE.blockRet ?_
                  refine WE.thenRet ?_
                  refine WE.blockRet ?_
                  refine WE.thenRet ?_
                  refine WE.scopeRet ?_
                  refine WE.ret1 rfl rfl ?_
                  have hfin := fin_no (p := p) (t := t) (st := st) hpl1 hpl2 (ans_bad hans hL h130 hf (by simpa using h195))
                  have hpre : x.st.take st.length = st := ho196.pre
                  have hlp : st.length ≤ x.st.length := by have z := congrArg List.length hpre; simp at z; omega
                  refine ⟨_, rfl, ⟨(fun b => C b ∨ (w.heap.size ≤ b ∧ b < w193.heap.size)), congrArg Value.bool hfin.1.symm, ?_, fun b q => q.imp id (fun q => q.1)⟩, ho196.chg.trans2 hcb (by rintro b hb (q | q); exact q; omega)⟩
                  rw [hfin.2]
                  rw [backTo_nat hlp, hpre] at hmb; exact hmb
                · have h195 : ¬ (¬ ((T.same o tt) = true)) := by simpa using h195
                  refine WC.skip ?_
                  refine WE.next ?_
                  refine WC.exit ?_
                  refine WE.thenExit ?_
                  refine WE.blockIs rfl ?_
                  refine WE.round ({ x with L := L, R := R }) ⟨rfl, rfl, rfl, rfl, rfl, rfl, rfl, rfl, rfl, trivial⟩ ?_ ?_
                  · have hB200 := hB121.below hb194
                    have hB201 := hB123.below hb194
                    have hB202 := hB125.below hb194
                    have hB203 := hB127.below hb194
                    have ho204 := ho129.below hb194
                    have ho205 := ho131.below hb194
                    exact ⟨ans_old hans hL h130 hf (by simpa using h195), by have z := ssz_top hL; (try dsimp only); omega, hB200, hB201, hB202, hB203, ho204, ho205⟩
                  · have z := ssz_top hL; (try dsimp only); omega
          · have h130 : ¬ ((f : Int) < (0 : Int)) := by simpa using h130
            refine WC.skip ?_
            refine WE.next ?_
            refine WC.seq ?_
            refine WC.seq ?_
            refine WC.opt [(true, .val (.pointer (some ⟨g104, 0, none⟩))), (true, .val (.pointer (some ⟨pb, po, none⟩))), (true, .val (.pointer (some ⟨pb, po, none⟩))), (true, .val (.pointer (some ⟨pb, po, none⟩))), (true, .val (.int .i64 f)), (true, .val (.pointer (some ⟨g104, 1, none⟩))), (true, .val (.pointer (some ⟨qb, qo, none⟩))), (true, .val (.pointer (some ⟨qb, qo, none⟩))), (true, .val (.pointer (some ⟨qb, qo, none⟩))), (true, .val (.int .i64 tt.f)), (true, .val (.bool (((f : Int) != (tt.f : Int))))), (true, .val (.bool (((f : Int) != (tt.f : Int))))), ((true && !((f : Int) != (tt.f : Int))), .val (.pointer (some ⟨g104, 0, none⟩))), ((true && !((f : Int) != (tt.f : Int))), .val (.pointer (some ⟨pb, po, none⟩))), ((true && !((f : Int) != (tt.f : Int))), .val (.pointer (some ⟨pb, po, none⟩))), ((true && !((f : Int) != (tt.f : Int))), .val (.pointer (some ⟨pb, po + 1, none⟩))), ((true && !((f : Int) != (tt.f : Int))), .val (.slice pa l.length pc)), ((true && !((f : Int) != (tt.f : Int))), .val (.int .i64 (((l.length : Nat) : Int)))), ((true && !((f : Int) != (tt.f : Int))), .val (.pointer (some ⟨g104, 1, none⟩))), ((true && !((f : Int) != (tt.f : Int))), .val (.pointer (some ⟨qb, qo, none⟩))), ((true && !((f : Int) != (tt.f : Int))), .val (.pointer (some ⟨qb, qo, none⟩))), ((true && !((f : Int) != (tt.f : Int))), .val (.pointer (some ⟨qb, qo + 1, none⟩))), ((true && !((f : Int) != (tt.f : Int))), .val (.slice qa tt.args.length qc)), ((true && !((f : Int) != (tt.f : Int))), .val (.int .i64 (((tt.args.length : Nat) : Int)))), ((true && !((f : Int) != (tt.f : Int))), .val (.bool (((((l.length : Nat) : Int) : Int) != (((tt.args.length : Nat) : Int) : Int))))), (true, .val (.bool ((((f : Int) != (tt.f : Int)) || ((((l.length : Nat) : Int) : Int) != (((tt.args.length : Nat) : Int) : Int))))))] [(0, .pointer (some ⟨g, 0, none⟩)), (1, .agg #[.int .i64 p.f, .slice pa0 p.args.length pc0]), (2, .agg #[.int .i64 t.f, .slice ta0 t.args.length tc0]), (4, .pointer (some ⟨g2, 0, none⟩)), (5, .pointer (some ⟨g11, 0, none⟩)), (7, .int .i64 (((st.length : Nat) : Int))), (8, .pointer (some ⟨g44, 0, none⟩)), (9, .slice x.ta L.length x.tc), (10, .pointer (some ⟨g104, 0, none⟩)), (23, .bool (((!(p.plain)) || (!(t.plain))))), (32, .bool ((decide ((0 : Int) < (((x.L.length : Nat) : Int) : Int))))), (49, .bool ((decide ((f : Int) < (0 : Int)))))] ⟨rfl, rfl, rfl, rfl, rfl, rfl, rfl, rfl, rfl, rfl, rfl, rfl, trivial⟩ (by kernel_rfl) (by kernel_rfl) (by kernel_rfl) ?_ ?_
            · refine ⟨⟨true, .none rfl, fun h w => optUndef h, fun zβ za zw zc => ?_⟩, ?_⟩
              · exact fld_69_0 rfl (zc.kn.ev rfl) ⟨_, rfl, Below.refl _ _, optDef zβ rfl⟩
              refine ⟨⟨true, .none rfl, fun h w => optUndef h, fun zβ za zw zc => ?_⟩, ?_⟩
              · exact ld_66 rfl ((show za.eval (.tmp 93) = za.tmps.getD 93 undef from rfl).trans (optVal (zc.dep 0 93 (by kernel_rfl)) rfl rfl)) (bkeeps zc.below _ _ ((hB117.cell 0).trans rfl)) ⟨_, rfl, Below.refl _ _, optDef zβ rfl⟩
              refine ⟨⟨true, .none rfl, fun h w => optUndef h, fun zβ za zw zc => ?_⟩, ?_⟩
              · exact nilCheck_ rfl ((show za.eval (.tmp 94) = za.tmps.getD 94 undef from rfl).trans (optVal (zc.dep 1 94 (by kernel_rfl)) rfl rfl)) ⟨_, rfl, Below.refl _ _, optDef zβ rfl⟩
              refine ⟨⟨true, .none rfl, fun h w => optUndef h, fun zβ za zw zc => ?_⟩, ?_⟩
              · exact fld_24_0 rfl ((show za.eval (.tmp 95) = za.tmps.getD 95 undef from rfl).trans (optVal (zc.dep 2 95 (by kernel_rfl)) rfl rfl)) ⟨_, rfl, Below.refl _ _, optDef zβ rfl⟩
              refine ⟨⟨true, .none rfl, fun h w => optUndef h, fun zβ za zw zc => ?_⟩, ?_⟩
              · exact ld_3 rfl ((show za.eval (.tmp 96) = za.tmps.getD 96 undef from rfl).trans (optVal (zc.dep 3 96 (by kernel_rfl)) rfl rfl)) (bkeeps (bstep hb119 zc.below) _ _ hp1) ⟨_, rfl, Below.refl _ _, optDef zβ rfl⟩
              refine ⟨⟨true, .none rfl, fun h w => optUndef h, fun zβ za zw zc => ?_⟩, ?_⟩
              · exact fld_69_1 rfl (zc.kn.ev rfl) ⟨_, rfl, Below.refl _ _, optDef zβ rfl⟩
              refine ⟨⟨true, .none rfl, fun h w => optUndef h, fun zβ za zw zc => ?_⟩, ?_⟩
              · exact ld_66 rfl ((show za.eval (.tmp 98) = za.tmps.getD 98 undef from rfl).trans (optVal (zc.dep 5 98 (by kernel_rfl)) rfl rfl)) (bkeeps zc.below _ _ ((hB117.cell 1).trans rfl)) ⟨_, rfl, Below.refl _ _, optDef zβ rfl⟩
              refine ⟨⟨true, .none rfl, fun h w => optUndef h, fun zβ za zw zc => ?_⟩, ?_⟩
              · exact nilCheck_ rfl ((show za.eval (.tmp 99) = za.tmps.getD 99 undef from rfl).trans (optVal (zc.dep 6 99 (by kernel_rfl)) rfl rfl)) ⟨_, rfl, Below.refl _ _, optDef zβ rfl⟩
              refine ⟨⟨true, .none rfl, fun h w => optUndef h, fun zβ za zw zc => ?_⟩, ?_⟩
              · exact fld_24_0 rfl ((show za.eval (.tmp 100) = za.tmps.getD 100 undef from rfl).trans (optVal (zc.dep 7 100 (by kernel_rfl)) rfl rfl)) ⟨_, rfl, Below.refl _ _, optDef zβ rfl⟩
              refine ⟨⟨true, .none rfl, fun h w => optUndef h, fun zβ za zw zc => ?_⟩, ?_⟩
              · exact ld_3 rfl ((show za.eval (.tmp 101) = za.tmps.getD 101 undef from rfl).trans (optVal (zc.dep 8 101 (by kernel_rfl)) rfl rfl)) (bkeeps (bstep hb119 zc.below) _ _ hq1) ⟨_, rfl, Below.refl _ _, optDef zβ rfl⟩
              refine ⟨⟨true, .none rfl, fun h w => optUndef h, fun zβ za zw zc => ?_⟩, ?_⟩
              · exact neq_3 rfl ((show za.eval (.tmp 97) = za.tmps.getD 97 undef from rfl).trans (optVal (zc.dep 4 97 (by kernel_rfl)) rfl rfl)) ((show za.eval (.tmp 102) = za.tmps.getD 102 undef from rfl).trans (optVal (zc.dep 9 102 (by kernel_rfl)) rfl rfl)) ⟨_, rfl, Below.refl _ _, optDef zβ rfl⟩
              refine ⟨⟨true, .none rfl, fun h w => optUndef h, fun zβ za zw zc => ?_⟩, ?_⟩
              · exact wp_move rfl ((show za.eval (.tmp 103) = za.tmps.getD 103 undef from rfl).trans (optVal (zc.dep 10 103 (by kernel_rfl)) rfl rfl)) ⟨_, rfl, Below.refl _ _, optDef zβ rfl⟩
              refine ⟨⟨(true && !((f : Int) != (tt.f : Int))), .no (c := ((f : Int) != (tt.f : Int))) (d := true) rfl (fun v w h => h), fun h w => optUndef h, fun zβ za zw zc => ?_⟩, ?_⟩
              · exact fld_69_0 rfl (zc.kn.ev rfl) ⟨_, rfl, Below.refl _ _, optDef zβ rfl⟩
              refine ⟨⟨(true && !((f : Int) != (tt.f : Int))), .no (c := ((f : Int) != (tt.f : Int))) (d := true) rfl (fun v w h => h), fun h w => optUndef h, fun zβ za zw zc => ?_⟩, ?_⟩
              · exact ld_66 rfl ((show za.eval (.tmp 105) = za.tmps.getD 105 undef from rfl).trans (optVal (zc.dep 12 105 (by kernel_rfl)) rfl zβ)) (bkeeps zc.below _ _ ((hB117.cell 0).trans rfl)) ⟨_, rfl, Below.refl _ _, optDef zβ rfl⟩
              refine ⟨⟨(true && !((f : Int) != (tt.f : Int))), .no (c := ((f : Int) != (tt.f : Int))) (d := true) rfl (fun v w h => h), fun h w => optUndef h, fun zβ za zw zc => ?_⟩, ?_⟩
              · exact nilCheck_ rfl ((show za.eval (.tmp 106) = za.tmps.getD 106 undef from rfl).trans (optVal (zc.dep 13 106 (by kernel_rfl)) rfl zβ)) ⟨_, rfl, Below.refl _ _, optDef zβ rfl⟩
              refine ⟨⟨(true && !((f : Int) != (tt.f : Int))), .no (c := ((f : Int) != (tt.f : Int))) (d := true) rfl (fun v w h => h), fun h w => optUndef h, fun zβ za zw zc => ?_⟩, ?_⟩
              · exact fld_24_1 rfl ((show za.eval (.tmp 107) = za.tmps.getD 107 undef from rfl).trans (optVal (zc.dep 14 107 (by kernel_rfl)) rfl zβ)) ⟨_, rfl, Below.refl _ _, optDef zβ rfl⟩
              refine ⟨⟨(true && !((f : Int) != (tt.f : Int))), .no (c := ((f : Int) != (tt.f : Int))) (d := true) rfl (fun v w h => h), fun h w => optUndef h, fun zβ za zw zc => ?_⟩, ?_⟩
              · exact ld_22 rfl ((show za.eval (.tmp 108) = za.tmps.getD 108 undef from rfl).trans (optVal (zc.dep 15 108 (by kernel_rfl)) rfl zβ)) (bkeeps (bstep hb119 zc.below) _ _ hp2) ⟨_, rfl, Below.refl _ _, optDef zβ rfl⟩
              refine ⟨⟨(true && !((f : Int) != (tt.f : Int))), .no (c := ((f : Int) != (tt.f : Int))) (d := true) rfl (fun v w h => h), fun h w => optUndef h, fun zβ za zw zc => ?_⟩, ?_⟩
              · exact len_22 rfl ((show za.eval (.tmp 109) = za.tmps.getD 109 undef from rfl).trans (optVal (zc.dep 16 109 (by kernel_rfl)) rfl zβ)) ⟨_, rfl, Below.refl _ _, optDef zβ rfl⟩
              refine ⟨⟨(true && !((f : Int) != (tt.f : Int))), .no (c := ((f : Int) != (tt.f : Int))) (d := true) rfl (fun v w h => h), fun h w => optUndef h, fun zβ za zw zc => ?_⟩, ?_⟩
              · exact fld_69_1 rfl (zc.kn.ev rfl) ⟨_, rfl, Below.refl _ _, optDef zβ rfl⟩
              refine ⟨⟨(true && !((f : Int) != (tt.f : Int))), .no (c := ((f : Int) != (tt.f : Int))) (d := true) rfl (fun v w h => h), fun h w => optUndef h, fun zβ za zw zc => ?_⟩, ?_⟩
              · exact ld_66 rfl ((show za.eval (.tmp 111) = za.tmps.getD 111 undef from rfl).trans (optVal (zc.dep 18 111 (by kernel_rfl)) rfl zβ)) (bkeeps zc.below _ _ ((hB117.cell 1).trans rfl)) ⟨_, rfl, Below.refl _ _, optDef zβ rfl⟩
              refine ⟨⟨(true && !((f : Int) != (tt.f : Int))), .no (c := ((f : Int) != (tt.f : Int))) (d := true) rfl (fun v w h => h), fun h w => optUndef h, fun zβ za zw zc => ?_⟩, ?_⟩
              · exact nilCheck_ rfl ((show za.eval (.tmp 112) = za.tmps.getD 112 undef from rfl).trans (optVal (zc.dep 19 112 (by kernel_rfl)) rfl zβ)) ⟨_, rfl, Below.refl _ _, optDef zβ rfl⟩
              refine ⟨⟨(true && !((f : Int) != (tt.f : Int))), .no (c := ((f : Int) != (tt.f : Int))) (d := true) rfl (fun v w h => h), fun h w => optUndef h, fun zβ za zw zc => ?_⟩, ?_⟩
              · exact fld_24_1 rfl ((show za.eval (.tmp 113) = za.tmps.getD 113 undef from rfl).trans (optVal (zc.dep 20 113 (by kernel_rfl)) rfl zβ)) ⟨_, rfl, Below.refl _ _, optDef zβ rfl⟩
              refine ⟨⟨(true && !((f : Int) != (tt.f : Int))), .no (c := ((f : Int) != (tt.f : Int))) (d := true) rfl (fun v w h => h), fun h w => optUndef h, fun zβ za zw zc => ?_⟩, ?_⟩
              · exact ld_22 rfl ((show za.eval (.tmp 114) = za.tmps.getD 114 undef from rfl).trans (optVal (zc.dep 21 114 (by kernel_rfl)) rfl zβ)) (bkeeps (bstep hb119 zc.below) _ _ hq2) ⟨_, rfl, Below.refl _ _, optDef zβ rfl⟩
              refine ⟨⟨(true && !((f : Int) != (tt.f : Int))), .no (c := ((f : Int) != (tt.f : Int))) (d := true) rfl (fun v w h => h), fun h w => optUndef h, fun zβ za zw zc => ?_⟩, ?_⟩
              · exact len_22 rfl ((show za.eval (.tmp 115) = za.tmps.getD 115 undef from rfl).trans (optVal (zc.dep 22 115 (by kernel_rfl)) rfl zβ)) ⟨_, rfl, Below.refl _ _, optDef zβ rfl⟩
              refine ⟨⟨(true && !((f : Int) != (tt.f : Int))), .no (c := ((f : Int) != (tt.f : Int))) (d := true) rfl (fun v w h => h), fun h w => optUndef h, fun zβ za zw zc => ?_⟩, ?_⟩
              · exact neq_3 rfl ((show za.eval (.tmp 110) = za.tmps.getD 110 undef from rfl).trans (optVal (zc.dep 17 110 (by kernel_rfl)) rfl zβ)) ((show za.eval (.tmp 116) = za.tmps.getD 116 undef from rfl).trans (optVal (zc.dep 23 116 (by kernel_rfl)) rfl zβ)) ⟨_, rfl, Below.refl _ _, optDef zβ rfl⟩
              refine ⟨⟨true, .none rfl, fun h w => optUndef h, fun zβ za zw zc => ?_⟩, ?_⟩
              · exact wp_or rfl ((show za.eval (.tmp 104) = za.tmps.getD 104 undef from rfl).trans (optVal (zc.dep 11 104 (by kernel_rfl)) rfl rfl)) (fun hp => ((show za.eval (.tmp 117) = za.tmps.getD 117 undef from rfl).trans (optVal (zc.dep 24 117 (by kernel_rfl)) rfl (bMkN zβ hp)))) ⟨_, rfl, Below.refl _ _, optDef zβ rfl⟩
              exact trivial
            · intro za w206 zh hb207 zu
              have zh := zh.cons (d := 118) (v := .bool ((((f : Int) != (tt.f : Int)) || ((((l.length : Nat) : Int) : Int) != (((tt.args.length : Nat) : Int) : Int))))) (optVal (zu 25 118 (by kernel_rfl)) rfl rfl)
              clear zu
              refine (show WE _ [(0, .pointer (some ⟨g, 0, none⟩)), (1, .agg #[.int .i64 p.f, .slice pa0 p.args.length pc0]), (2, .agg #[.int .i64 t.f, .slice ta0 t.args.length tc0]), (4, .pointer (some ⟨g2, 0, none⟩)), (5, .pointer (some ⟨g11, 0, none⟩)), (7, .int .i64 (((st.length : Nat) : Int))), (8, .pointer (some ⟨g44, 0, none⟩)), (9, .slice x.ta L.length x.tc), (10, .pointer (some ⟨g104, 0, none⟩)), (23, .bool (((!(p.plain)) || (!(t.plain))))), (32, .bool ((decide ((0 : Int) < (((x.L.length : Nat) : Int) : Int))))), (49, .bool ((decide ((f : Int) < (0 : Int))))), (118, .bool ((((f : Int) != (tt.f : Int)) || ((((l.length : Nat) : Int) : Int) != (((tt.args.length : Nat) : Int) : Int)))))] w206 _ .normal from ?_) za (zh.sub ⟨rfl, rfl, rfl, rfl, rfl, rfl, rfl, rfl, rfl, rfl, rfl, rfl, rfl, trivial⟩)
              refine WE.next ?_
              refine WC.cond rfl (fun h208 => ?_) (fun h208 => ?_)
              · have h208 : ((f : Int) ≠ (tt.f : Int)) ∨ ((((l.length : Nat) : Int) : Int) ≠ (((tt.args.length : Nat) : Int) : Int)) := by simpa using h208
                (try simp at h208)
                refine WC.seq ?_
                refine WC.region ?_
                refine WL.val (.pointer (some ⟨g, 0, none⟩)) rfl rfl rfl (fun za zC zh zk => wp_move rfl (zh.ev rfl) zk) ?_
                refine WL.val (.int .i64 (((st.length : Nat) : Int))) rfl rfl rfl (fun za zC zh zk => wp_move rfl (zh.ev rfl) zk) ?_
                have hb210 : Below w92.heap.size w92 w206 := (bstep hb119 hb207)
                have ho209 := hts.below hb210
                have hB211 := hB127.below hb207
                have ho212 := ho129.below hb207
                have hma := ho209.mat hB211 ho212 hTs0
                refine WL.call rfl rfl rfl (fun za zh zC => wp_call (by kernel_rfl) rfl (hv2 (zh.ev rfl) (zh.ev rfl))) (back_any (st.length : Nat) _ hma) ?_
                rintro _ w213 ⟨hmb, hcb⟩
                refine WL.nil (WE.sub (K' := [(0, .pointer (some ⟨g, 0, none⟩)), (1, .agg #[.int .i64 p.f, .slice pa0 p.args.length pc0]), (2, .agg #[.int .i64 t.f, .slice ta0 t.args.length tc0]), (4, .pointer (some ⟨g2, 0, none⟩)), (5, .pointer (some ⟨g11, 0, none⟩)), (7, .int .i64 (((st.length : Nat) : Int))), (8, .pointer (some ⟨g44, 0, none⟩)), (9, .slice x.ta L.length x.tc), (10, .pointer (some ⟨g104, 0, none⟩)), (23, .bool (((!(p.plain)) || (!(t.plain))))), (32, .bool ((decide ((0 : Int) < (((x.L.length : Nat) : Int) : Int))))), (49, .bool ((decide ((f : Int) < (0 : Int))))), (118, .bool ((((f : Int) != (tt.f : Int)) || ((((l.length : Nat) : Int) : Int) != (((tt.args.length : Nat) : Int) : Int)))))]) ⟨rfl, rfl, rfl, rfl, rfl, rfl, rfl, rfl, rfl, rfl, rfl, rfl, rfl, trivial⟩ ?_)
                refine WE.next ?_
                refine WC.seq ?_
                refine WC.region ?_
                refine WL.val (.bool false) rfl rfl rfl (fun za zC zh zk => wp_assign rfl (zh.ev rfl) zk) ?_
                refine WL.nil (WE.sub (K' := [(0, .pointer (some ⟨g, 0, none⟩)), (1, .agg #[.int .i64 p.f, .slice pa0 p.args.length pc0]), (2, .agg #[.int .i64 t.f, .slice ta0 t.args.length tc0]), (4, .pointer (some ⟨g2, 0, none⟩)), (5, .pointer (some ⟨g11, 0, none⟩)), (6, .bool false), (7, .int .i64 (((st.length : Nat) : Int))), (8, .pointer (some ⟨g44, 0, none⟩)), (9, .slice x.ta L.length x.tc), (10, .pointer (some ⟨g104, 0, none⟩)), (23, .bool (((!(p.plain)) || (!(t.plain))))), (32, .bool ((decide ((0 : Int) < (((x.L.length : Nat) : Int) : Int))))), (49, .bool ((decide ((f : Int) < (0 : Int))))), (118, .bool ((((f : Int) != (tt.f : Int)) || ((((l.length : Nat) : Int) : Int) != (((tt.args.length : Nat) : Int) : Int)))))]) ⟨rfl, rfl, rfl, rfl, rfl, rfl, rfl, rfl, rfl, rfl, rfl, rfl, rfl, rfl, trivial⟩ ?_)
                refine WE.next ?_
                refine WC.ret ?_
                refine WE.thenRet ?_
                refine WE.blockRet ?_
                refine WE.thenRet ?_
                refine WE.blockRet ?_
                refine WE.thenRet ?_
                refine WE.scopeRet ?_
                refine WE.ret1 rfl rfl ?_
                have hfin := fin_no (p := p) (t := t) (st := st) hpl1 hpl2 (ans_off hans hL h130 (fun hh => by have z := h208; simp [hh.1, hh.2] at z))
                have hpre : x.st.take st.length = st := ho209.pre
                have hlp : st.length ≤ x.st.length := by have z := congrArg List.length hpre; simp at z; omega
                refine ⟨_, rfl, ⟨(fun b => C b ∨ (w.heap.size ≤ b ∧ b < w206.heap.size)), congrArg Value.bool hfin.1.symm, ?_, fun b q => q.imp id (fun q => q.1)⟩, ho209.chg.trans2 hcb (by rintro b hb (q | q); exact q; omega)⟩
                rw [hfin.2]
                rw [backTo_nat hlp, hpre] at hmb; exact hmb
              · have h208 : ¬ (((f : Int) ≠ (tt.f : Int)) ∨ ((((l.length : Nat) : Int) : Int) ≠ (((tt.args.length : Nat) : Int) : Int))) := by simpa using h208
                (try simp at h208)
                refine WC.skip ?_
                refine WE.next ?_
                refine WC.seq ?_
                have hl1 := len_le_sizeL l
                have hz1b := hz1
                simp only [T.size] at hz1b
                refine WC.region ?_
                refine WL.val (.pointer (some ⟨g104, 0, none⟩)) rfl rfl rfl (fun za zC zh zk => fld_69_0 rfl (zh.ev rfl) zk) ?_
                have hB214 := hB117.below hb207
                refine WL.val (.pointer (some ⟨pb, po, none⟩)) rfl rfl rfl (fun za zC zh zk => ld_66 rfl (zh.ev rfl) ((hB214.cell 0).trans rfl) zk) ?_
                refine WL.val (.pointer (some ⟨pb, po, none⟩)) rfl rfl rfl (fun za zC zh zk => nilCheck_ rfl (zh.ev rfl) zk) ?_
                refine WL.val (.pointer (some ⟨pb, po + 1, none⟩)) rfl rfl rfl (fun za zC zh zk => fld_24_1 rfl (zh.ev rfl) zk) ?_
                have hb215 : Below w92.heap.size w92 w206 := (bstep hb119 hb207)
                refine WL.val (.slice pa l.length pc) rfl rfl rfl (fun za zC zh zk => ld_22 rfl (zh.ev rfl) (bkeeps hb215 _ _ hp2) zk) ?_
                refine WL.val (.int .i64 (((l.length : Nat) : Int))) rfl rfl rfl (fun za zC zh zk => len_22 rfl (zh.ev rfl) zk) ?_
                refine WL.val (.int .i64 (((l.length : Int) - 1))) rfl rfl rfl (fun za zC zh zk => subb_3 rfl (zh.ev rfl) (zh.ev rfl) (wrap_eq rfl (by omega) (by omega)) zk) ?_
                refine WL.val (.int .i64 (((l.length : Int) - 1))) rfl rfl rfl (fun za zC zh zk => wp_assign rfl (zh.ev rfl) zk) ?_
                refine WL.nil (WE.sub (K' := [(0, .pointer (some ⟨g, 0, none⟩)), (1, .agg #[.int .i64 p.f, .slice pa0 p.args.length pc0]), (2, .agg #[.int .i64 t.f, .slice ta0 t.args.length tc0]), (4, .pointer (some ⟨g2, 0, none⟩)), (5, .pointer (some ⟨g11, 0, none⟩)), (7, .int .i64 (((st.length : Nat) : Int))), (8, .pointer (some ⟨g44, 0, none⟩)), (9, .slice x.ta L.length x.tc), (10, .pointer (some ⟨g104, 0, none⟩)), (13, .int .i64 (((l.length : Int) - 1))), (23, .bool (((!(p.plain)) || (!(t.plain))))), (32, .bool ((decide ((0 : Int) < (((x.L.length : Nat) : Int) : Int))))), (49, .bool ((decide ((f : Int) < (0 : Int))))), (118, .bool ((((f : Int) != (tt.f : Int)) || ((((l.length : Nat) : Int) : Int) != (((tt.args.length : Nat) : Int) : Int)))))]) ⟨rfl, rfl, rfl, rfl, rfl, rfl, rfl, rfl, rfl, rfl, rfl, rfl, rfl, rfl, trivial⟩ ?_)
                refine WE.next ?_
                refine WC.block ?_
                have ho216 := hts.below hb215
                have hp2s : (TS w g mb g75 C Ps Ts st w206 { x with L := L, R := R } ∧ InTp Ps w206 (.mk f l) (.pointer (some ⟨pb, po, none⟩)) ∧ InTp Ts w206 tt (.pointer (some ⟨qb, qo, none⟩)) ∧ ∀ b, (Value.slice x.ta L.length x.tc).ownBlock = some b → b ≠ g104) := ⟨ho216, hpP.below hb215, hqP.below hb215, fun b e => by have z := (hts.trow.lt b e).2; omega⟩
                have hsl : f = tt.f ∧ l.length = tt.args.length := by have z := h208; (try simp at z); exact ⟨z.1, by omega⟩
                refine WC.loop (X := Option Addr × Nat × List (Addr × Addr) × List (T × T) × Nat) (fun y => y.2.2.2.2) (fun y => [(0, .pointer (some ⟨g, 0, none⟩)), (1, .agg #[.int .i64 p.f, .slice pa0 p.args.length pc0]), (2, .agg #[.int .i64 t.f, .slice ta0 t.args.length tc0]), (4, .pointer (some ⟨g2, 0, none⟩)), (5, .pointer (some ⟨g11, 0, none⟩)), (7, .int .i64 (((st.length : Nat) : Int))), (8, .pointer (some ⟨g44, 0, none⟩)), (9, .slice y.1 y.2.2.2.1.length y.2.1), (10, .pointer (some ⟨g104, 0, none⟩)), (13, .int .i64 (((y.2.2.2.2 : Int) - 1))), (23, .bool (((!(p.plain)) || (!(t.plain))))), (32, .bool ((decide ((0 : Int) < (((x.L.length : Nat) : Int) : Int))))), (49, .bool ((decide ((f : Int) < (0 : Int))))), (118, .bool ((((f : Int) != (tt.f : Int)) || ((((l.length : Nat) : Int) : Int) != (((tt.args.length : Nat) : Int) : Int)))))]) (fun y w217 => y.2.2.2.2 ≤ l.length ∧ y.2.2.2.1.reverse = (l.zip tt.args).drop y.2.2.2.2 ++ L.reverse ∧ Blk w217 g2 24 #[.int .i64 p.f, .slice pa0 p.args.length pc0] ∧ Blk w217 g11 24 #[.int .i64 t.f, .slice ta0 t.args.length tc0] ∧ Blk w217 g44 24 #[.int .i64 t.f, .slice a41 t.args.length c42] ∧ Blk w217 g 64 #[.map ((some mb)), .slice x.ra x.st.length x.rc] ∧ Blk w217 g104 69 #[.pointer (some ⟨pb, po, none⟩), .pointer (some ⟨qb, qo, none⟩)] ∧ ObjAt (w217) mb (.map x.es x.cl) ∧ (TS w g mb g75 C Ps Ts st (w217) { x with ta := y.1, tc := y.2.1, R := y.2.2.1, L := y.2.2.2.1 } ∧ InTp Ps (w217) (.mk f l) (.pointer (some ⟨pb, po, none⟩)) ∧ InTp Ts (w217) tt (.pointer (some ⟨qb, qo, none⟩)) ∧ ∀ b, (Value.slice y.1 y.2.2.2.1.length y.2.1).ownBlock = some b → b ≠ g104)) ((x.ta, x.tc, R, L, l.length)) ⟨rfl, rfl, rfl, rfl, rfl, rfl, rfl, rfl, rfl, rfl, rfl, rfl, rfl, rfl, trivial⟩ ?_ ?_
                · have hB218 := hB121.below hb207
                  have hB219 := hB123.below hb207
                  have hB220 := hB125.below hb207
                  have hB221 := hB127.below hb207
                  have ho222 := ho129.below hb207
                  exact ⟨Nat.le_refl _, (by dsimp only; rw [List.drop_of_length_le (by simp; omega), List.nil_append]), hB218, hB219, hB220, hB221, hB214, ho222, hp2s⟩
                · rintro y w217 ⟨hk0, hrev, hB223, hB224, hB225, hB226, hB227, ho228, ho229⟩
                  obtain ⟨hts2, hpp, hqq, hn10⟩ := id ho229
                  obtain ⟨pa2, pc2, hpp1, hpp2, hppT⟩ := hpp.at
                  obtain ⟨qa2, qc2, hqq1, hqq2, hqqT⟩ := hqq.at
                  simp only [T.f_mk, T.args_mk] at hpp1 hpp2 hppT
                  refine WC.seq ?_
                  refine WC.seq ?_
                  refine WC.region ?_
                  refine WL.val (.int .i64 (((y.2.2.2.2 : Int) - 1))) rfl rfl rfl (fun za zC zh zk => wp_move rfl (zh.ev rfl) zk) ?_
                  refine WL.val (.bool ((decide ((0 : Int) ≤ (((y.2.2.2.2 : Int) - 1) : Int))))) rfl rfl rfl (fun za zC zh zk => geq_3 rfl (zh.ev rfl) (zh.ev rfl) zk) ?_
                  refine WL.nil (WE.sub (K' := [(0, .pointer (some ⟨g, 0, none⟩)), (1, .agg #[.int .i64 p.f, .slice pa0 p.args.length pc0]), (2, .agg #[.int .i64 t.f, .slice ta0 t.args.length tc0]), (4, .pointer (some ⟨g2, 0, none⟩)), (5, .pointer (some ⟨g11, 0, none⟩)), (7, .int .i64 (((st.length : Nat) : Int))), (8, .pointer (some ⟨g44, 0, none⟩)), (9, .slice y.1 y.2.2.2.1.length y.2.1), (10, .pointer (some ⟨g104, 0, none⟩)), (13, .int .i64 (((y.2.2.2.2 : Int) - 1))), (23, .bool (((!(p.plain)) || (!(t.plain))))), (32, .bool ((decide ((0 : Int) < (((x.L.length : Nat) : Int) : Int))))), (49, .bool ((decide ((f : Int) < (0 : Int))))), (118, .bool ((((f : Int) != (tt.f : Int)) || ((((l.length : Nat) : Int) : Int) != (((tt.args.length : Nat) : Int) : Int))))), (130, .bool ((decide ((0 : Int) ≤ (((y.2.2.2.2 : Int) - 1) : Int)))))]) ⟨rfl, rfl, rfl, rfl, rfl, rfl, rfl, rfl, rfl, rfl, rfl, rfl, rfl, rfl, rfl, trivial⟩ ?_)
                  refine WE.next ?_
                  refine WC.cond rfl (fun h230 => ?_) (fun h230 => ?_)
                  · have h230 : (0 : Int) ≤ (((y.2.2.2.2 : Int) - 1) : Int) := by simpa using h230
                    refine WC.skip ?_
                    refine WE.next ?_
                    refine WC.seq ?_
                    refine WC.block ?_
                    obtain ⟨k, hk⟩ : ∃ k, y.2.2.2.2 = k + 1 := ⟨y.2.2.2.2 - 1, by omega⟩
                    obtain ⟨ab, ao, hab, hAp⟩ := InTp.arg (b := 0) (o := 0) hppT k (by simp; omega)
                    obtain ⟨bb, bo, hbb, hBp⟩ := InTp.arg (b := 0) (o := 0) hqqT k (by omega)
                    have hlL := congrArg List.length hrev
                    simp only [List.length_reverse, List.length_append, List.length_drop, List.length_zip] at hlL
                    have hl1 := len_le_sizeL l
                    have hl2 := len_le_ssz L
                    have hl3 := ssz_top hL
                    have hSlt : ∀ b, (fun b => (Value.slice y.1 y.2.2.2.1.length y.2.1).ownBlock = some b) b → b < w217.heap.size := fun b h => ((hts2.below (Below.refl _ _)).trow.lt b h).2
                    have h10l : g104 < w217.heap.size := hB227.lt
                    refine WC.tail3 (S := ((fun b => (Value.slice y.1 y.2.2.2.1.length y.2.1).ownBlock = some b))) [(true, .val (.slice y.1 y.2.2.2.1.length y.2.1)), (true, .val (.pointer (some ⟨g104, 0, none⟩))), (true, .val (.pointer (some ⟨pb, po, none⟩))), (true, .val (.pointer (some ⟨pb, po, none⟩))), (true, .val (.pointer (some ⟨pb, po + 1, none⟩))), (true, .val (.slice pa2 l.length pc2)), (true, .val (.int .i64 (((y.2.2.2.2 : Int) - 1)))), (true, .val (.pointer (some ⟨ab, ao + k * 2, none⟩))), (true, .val (.pointer (some ⟨g104, 1, none⟩))), (true, .val (.pointer (some ⟨qb, qo, none⟩))), (true, .val (.pointer (some ⟨qb, qo, none⟩))), (true, .val (.pointer (some ⟨qb, qo + 1, none⟩))), (true, .val (.slice qa2 tt.args.length qc2)), (true, .val (.int .i64 (((y.2.2.2.2 : Int) - 1)))), (true, .val (.pointer (some ⟨bb, bo + k * 2, none⟩))), (true, .val (.agg #[.pointer (some ⟨ab, ao + k * 2, none⟩), .pointer (some ⟨bb, bo + k * 2, none⟩)])), (true, .mem (fun v w' => OneRow eltV2 w217 69 ((⟨ab, ao + k * 2, none⟩, ⟨bb, bo + k * 2, none⟩) : Addr × Addr) v w') (fun v w w' hc h => h.chg hc hSlt)), (true, .val undef), (true, .val undef)] [(0, .pointer (some ⟨g, 0, none⟩)), (1, .agg #[.int .i64 p.f, .slice pa0 p.args.length pc0]), (2, .agg #[.int .i64 t.f, .slice ta0 t.args.length tc0]), (4, .pointer (some ⟨g2, 0, none⟩)), (5, .pointer (some ⟨g11, 0, none⟩)), (7, .int .i64 (((st.length : Nat) : Int))), (8, .pointer (some ⟨g44, 0, none⟩)), (10, .pointer (some ⟨g104, 0, none⟩)), (13, .int .i64 (((y.2.2.2.2 : Int) - 1))), (23, .bool (((!(p.plain)) || (!(t.plain))))), (32, .bool ((decide ((0 : Int) < (((x.L.length : Nat) : Int) : Int))))), (49, .bool ((decide ((f : Int) < (0 : Int))))), (118, .bool ((((f : Int) != (tt.f : Int)) || ((((l.length : Nat) : Int) : Int) != (((tt.args.length : Nat) : Int) : Int))))), (130, .bool ((decide ((0 : Int) ≤ (((y.2.2.2.2 : Int) - 1) : Int)))))] 17 18 ((y.2.2.2.1 ++ [(tget l k, tget tt.args k)]).length) 150 9 (fun ra rc wz => (TS w g mb g75 C Ps Ts st wz { x with ta := ra, tc := rc, R := y.2.2.1 ++ [(⟨ab, ao + k * 2, none⟩, ⟨bb, bo + k * 2, none⟩)], L := y.2.2.2.1 ++ [(tget l k, tget tt.args k)] } ∧ InTp Ps wz (.mk f l) (.pointer (some ⟨pb, po, none⟩)) ∧ InTp Ts wz tt (.pointer (some ⟨qb, qo, none⟩)) ∧ ∀ b, (Value.slice ra (y.2.2.2.1 ++ [(tget l k, tget tt.args k)]).length rc).ownBlock = some b → b ≠ g104)) (by decide) (fun ra rc w w' hb h => ⟨h.1.below hb, h.2.1.below hb, h.2.2.1.below hb, h.2.2.2⟩) ⟨rfl, rfl, rfl, rfl, rfl, rfl, rfl, rfl, rfl, rfl, rfl, rfl, rfl, rfl, trivial⟩ (by kernel_rfl) (by kernel_rfl) (by kernel_rfl) (by kernel_rfl) (by kernel_rfl) (by kernel_rfl) ?_ ?_
                    · refine ⟨.inl ⟨rfl, true, .none rfl, (fun gg b h => by cases h), fun h w => optUndef h, fun zβ za zw zc => ?_⟩, ?_⟩
                      · exact wp_move rfl ((show za.eval (.tmp 9) = za.tmps.getD 9 undef from rfl).trans (zc.old 9 _ rfl (by kernel_rfl))) ⟨_, rfl, Below.refl _ _, optDef zβ rfl⟩
                      refine ⟨.inl ⟨rfl, true, .none rfl, (fun gg b h => by cases h), fun h w => optUndef h, fun zβ za zw zc => ?_⟩, ?_⟩
                      · exact fld_69_0 rfl (zc.kn.ev rfl) ⟨_, rfl, Below.refl _ _, optDef zβ rfl⟩
                      refine ⟨.inl ⟨rfl, true, .none rfl, (fun gg b h => by cases h), fun h w => optUndef h, fun zβ za zw zc => ?_⟩, ?_⟩
                      · exact ld_66 rfl ((show za.eval (.tmp 134) = za.tmps.getD 134 undef from rfl).trans (optSVal (zc.dep 1 134 (by kernel_rfl) (by decide)) rfl rfl)) (bkeeps (zc.early (by kernel_rfl)) _ _ ((hB227.cell 0).trans rfl)) ⟨_, rfl, Below.refl _ _, optDef zβ rfl⟩
                      refine ⟨.inl ⟨rfl, true, .none rfl, (fun gg b h => by cases h), fun h w => optUndef h, fun zβ za zw zc => ?_⟩, ?_⟩
                      · exact nilCheck_ rfl ((show za.eval (.tmp 135) = za.tmps.getD 135 undef from rfl).trans (optSVal (zc.dep 2 135 (by kernel_rfl) (by decide)) rfl rfl)) ⟨_, rfl, Below.refl _ _, optDef zβ rfl⟩
                      refine ⟨.inl ⟨rfl, true, .none rfl, (fun gg b h => by cases h), fun h w => optUndef h, fun zβ za zw zc => ?_⟩, ?_⟩
                      · exact fld_24_1 rfl ((show za.eval (.tmp 136) = za.tmps.getD 136 undef from rfl).trans (optSVal (zc.dep 3 136 (by kernel_rfl) (by decide)) rfl rfl)) ⟨_, rfl, Below.refl _ _, optDef zβ rfl⟩
                      refine ⟨.inl ⟨rfl, true, .none rfl, (fun gg b h => by cases h), fun h w => optUndef h, fun zβ za zw zc => ?_⟩, ?_⟩
                      · exact ld_22 rfl ((show za.eval (.tmp 137) = za.tmps.getD 137 undef from rfl).trans (optSVal (zc.dep 4 137 (by kernel_rfl) (by decide)) rfl rfl)) (bkeeps (zc.early (by kernel_rfl)) _ _ hpp2) ⟨_, rfl, Below.refl _ _, optDef zβ rfl⟩
                      refine ⟨.inl ⟨rfl, true, .none rfl, (fun gg b h => by cases h), fun h w => optUndef h, fun zβ za zw zc => ?_⟩, ?_⟩
                      · exact wp_move rfl (zc.kn.ev rfl) ⟨_, rfl, Below.refl _ _, optDef zβ rfl⟩
                      refine ⟨.inl ⟨rfl, true, .none rfl, (fun gg b h => by cases h), fun h w => optUndef h, fun zβ za zw zc => ?_⟩, ?_⟩
                      · exact ix_22 (k := k) rfl ((show za.eval (.tmp 138) = za.tmps.getD 138 undef from rfl).trans (optSVal (zc.dep 5 138 (by kernel_rfl) (by decide)) rfl rfl)) hab (((show za.eval (.tmp 139) = za.tmps.getD 139 undef from rfl).trans (optSVal (zc.dep 6 139 (by kernel_rfl) (by decide)) rfl rfl)).trans (congrArg (Value.int .i64) (by omega))) (by first | omega | (simp; omega)) ⟨_, rfl, Below.refl _ _, optDef zβ rfl⟩
                      refine ⟨.inl ⟨rfl, true, .none rfl, (fun gg b h => by cases h), fun h w => optUndef h, fun zβ za zw zc => ?_⟩, ?_⟩
                      · exact fld_69_1 rfl (zc.kn.ev rfl) ⟨_, rfl, Below.refl _ _, optDef zβ rfl⟩
                      refine ⟨.inl ⟨rfl, true, .none rfl, (fun gg b h => by cases h), fun h w => optUndef h, fun zβ za zw zc => ?_⟩, ?_⟩
                      · exact ld_66 rfl ((show za.eval (.tmp 141) = za.tmps.getD 141 undef from rfl).trans (optSVal (zc.dep 8 141 (by kernel_rfl) (by decide)) rfl rfl)) (bkeeps (zc.early (by kernel_rfl)) _ _ ((hB227.cell 1).trans rfl)) ⟨_, rfl, Below.refl _ _, optDef zβ rfl⟩
                      refine ⟨.inl ⟨rfl, true, .none rfl, (fun gg b h => by cases h), fun h w => optUndef h, fun zβ za zw zc => ?_⟩, ?_⟩
                      · exact nilCheck_ rfl ((show za.eval (.tmp 142) = za.tmps.getD 142 undef from rfl).trans (optSVal (zc.dep 9 142 (by kernel_rfl) (by decide)) rfl rfl)) ⟨_, rfl, Below.refl _ _, optDef zβ rfl⟩
                      refine ⟨.inl ⟨rfl, true, .none rfl, (fun gg b h => by cases h), fun h w => optUndef h, fun zβ za zw zc => ?_⟩, ?_⟩
                      · exact fld_24_1 rfl ((show za.eval (.tmp 143) = za.tmps.getD 143 undef from rfl).trans (optSVal (zc.dep 10 143 (by kernel_rfl) (by decide)) rfl rfl)) ⟨_, rfl, Below.refl _ _, optDef zβ rfl⟩
                      refine ⟨.inl ⟨rfl, true, .none rfl, (fun gg b h => by cases h), fun h w => optUndef h, fun zβ za zw zc => ?_⟩, ?_⟩
                      · exact ld_22 rfl ((show za.eval (.tmp 144) = za.tmps.getD 144 undef from rfl).trans (optSVal (zc.dep 11 144 (by kernel_rfl) (by decide)) rfl rfl)) (bkeeps (zc.early (by kernel_rfl)) _ _ hqq2) ⟨_, rfl, Below.refl _ _, optDef zβ rfl⟩
                      refine ⟨.inl ⟨rfl, true, .none rfl, (fun gg b h => by cases h), fun h w => optUndef h, fun zβ za zw zc => ?_⟩, ?_⟩
                      · exact wp_move rfl (zc.kn.ev rfl) ⟨_, rfl, Below.refl _ _, optDef zβ rfl⟩
                      refine ⟨.inl ⟨rfl, true, .none rfl, (fun gg b h => by cases h), fun h w => optUndef h, fun zβ za zw zc => ?_⟩, ?_⟩
                      · exact ix_22 (k := k) rfl ((show za.eval (.tmp 145) = za.tmps.getD 145 undef from rfl).trans (optSVal (zc.dep 12 145 (by kernel_rfl) (by decide)) rfl rfl)) hbb (((show za.eval (.tmp 146) = za.tmps.getD 146 undef from rfl).trans (optSVal (zc.dep 13 146 (by kernel_rfl) (by decide)) rfl rfl)).trans (congrArg (Value.int .i64) (by omega))) (by first | omega | (simp; omega)) ⟨_, rfl, Below.refl _ _, optDef zβ rfl⟩
                      refine ⟨.inl ⟨rfl, true, .none rfl, (fun gg b h => by cases h), fun h w => optUndef h, fun zβ za zw zc => ?_⟩, ?_⟩
                      · exact build_69_0_1 rfl ((show za.eval (.tmp 140) = za.tmps.getD 140 undef from rfl).trans (optSVal (zc.dep 7 140 (by kernel_rfl) (by decide)) rfl rfl)) ((show za.eval (.tmp 147) = za.tmps.getD 147 undef from rfl).trans (optSVal (zc.dep 14 147 (by kernel_rfl) (by decide)) rfl rfl)) ⟨_, rfl, Below.refl _ _, optDef zβ rfl⟩
                      refine ⟨.inl ⟨rfl, true, .none rfl, (fun gg b h => by cases h), fun h w => optUndef h, fun zβ za zw zc => ?_⟩, ?_⟩
                      · exact row_70_1 rfl ((show za.eval (.tmp 148) = za.tmps.getD 148 undef from rfl).trans (optSVal (zc.dep 15 148 (by kernel_rfl) (by decide)) rfl rfl)) ⟨_, rfl, balloc _ _, optDef zβ ⟨_, [.pointer (some ⟨ab, ao + k * 2, none⟩), .pointer (some ⟨bb, bo + k * 2, none⟩)], rfl, zc.chg.size, Blk.new' rfl, rfl⟩⟩
                      refine ⟨.inr (.inl ⟨rfl, rfl, fun za zw zc => ?_⟩), ?_⟩
                      · obtain ⟨g1, cs, e1, hg1, hB1, hin⟩ := (optSMem (zc.dep 16 149 (by kernel_rfl) (by decide)) rfl rfl)
                        have hbz := bstep (Below.refl _ _) zc.below
                        have htz := hts2.below hbz
                        have hcs : cs = [.pointer (some ⟨ab, ao + k * 2, none⟩), .pointer (some ⟨bb, bo + k * 2, none⟩)] := hin
                        subst hcs
                        exact wp_appE2 (E := eltV2) (size := 2) (bytes := 16) (z := .agg #[.pointer none, .pointer none]) (y := ((⟨ab, ao + k * 2, none⟩, ⟨bb, bo + k * 2, none⟩) : Addr × Addr)) rfl Try.underlying70 (by kernel_rfl) rfl (by decide) rfl ((show za.eval (.tmp 133) = za.tmps.getD 133 undef from rfl).trans (optSVal (zc.dep 0 133 (by kernel_rfl) (by decide)) rfl rfl)) ((show za.eval (.tmp 149) = za.tmps.getD 149 undef from rfl).trans e1) htz.trow hB1 rfl (by omega) (by omega) (Nat.zero_le _) (fun ra rc w' h1 h2 _ h4 => ⟨ra, rc, by rw [List.length_append]; rfl, ⟨TS.push htz h1 h2 (fun b e => (h4 b e).imp id (fun e => by have z1 := htz.now; omega)) (hAp.below hbz) (hBp.below hbz) ⟨Nat.le_trans (T.size_le_sizeL (tget_mem (by omega))) (by simp only [T.size] at hz1; omega), Nat.le_trans (T.size_le_sizeL (tget_mem (by omega))) (by rw [T.size_eq] at hz2; omega)⟩, (hpp.below hbz).chg h2 (fun b q e => by have z1 := (htz.hP b q).1; have z2 := htz.tnew b e; omega), (hqq.below hbz).chg h2 (fun b q e => by have z1 := (htz.hT b q).1; have z2 := htz.tnew b e; omega), fun b e => by
                            rcases h4 b (own_len.trans e) with q | q
                            · exact hn10 b q
                            · have z1 := zc.below.size; omega⟩, h2⟩)
                      refine ⟨.inr (.inr ⟨rfl, rfl, 150, by kernel_rfl, rfl⟩), ?_⟩
                      exact trivial
                    · intro za w231 ra234 rc235 zh zv zv2 hG232 hc233 zu
                      have zh := zh.cons (d := 9) zv2
                      have hB236 := chg_blk hB223 hc233 (fun h => by have z1 := hts2.tnew _ h; have z2 := hn10 _ h; omega)
                      have hB237 := chg_blk hB224 hc233 (fun h => by have z1 := hts2.tnew _ h; have z2 := hn10 _ h; omega)
                      have hB238 := chg_blk hB225 hc233 (fun h => by have z1 := hts2.tnew _ h; have z2 := hn10 _ h; omega)
                      have hB239 := chg_blk hB226 hc233 (fun h => by have z1 := hts2.tnew _ h; have z2 := hn10 _ h; omega)
                      have hB240 := chg_blk hB227 hc233 (fun h => by have z1 := hts2.tnew _ h; have z2 := hn10 _ h; omega)
                      have ho241 := ho228.chg hc233 (fun h => by have z1 := hts2.tnew _ h; have z2 := hn10 _ h; omega)
                      clear zu
                      refine (show WE _ [(0, .pointer (some ⟨g, 0, none⟩)), (1, .agg #[.int .i64 p.f, .slice pa0 p.args.length pc0]), (2, .agg #[.int .i64 t.f, .slice ta0 t.args.length tc0]), (4, .pointer (some ⟨g2, 0, none⟩)), (5, .pointer (some ⟨g11, 0, none⟩)), (7, .int .i64 (((st.length : Nat) : Int))), (8, .pointer (some ⟨g44, 0, none⟩)), (9, .slice ra234 ((y.2.2.2.1 ++ [(tget l k, tget tt.args k)]).length) rc235), (10, .pointer (some ⟨g104, 0, none⟩)), (13, .int .i64 (((y.2.2.2.2 : Int) - 1))), (23, .bool (((!(p.plain)) || (!(t.plain))))), (32, .bool ((decide ((0 : Int) < (((x.L.length : Nat) : Int) : Int))))), (49, .bool ((decide ((f : Int) < (0 : Int))))), (118, .bool ((((f : Int) != (tt.f : Int)) || ((((l.length : Nat) : Int) : Int) != (((tt.args.length : Nat) : Int) : Int))))), (130, .bool ((decide ((0 : Int) ≤ (((y.2.2.2.2 : Int) - 1) : Int)))))] w231 _ .normal from ?_) za (zh.sub ⟨rfl, rfl, rfl, rfl, rfl, rfl, rfl, rfl, rfl, rfl, rfl, rfl, rfl, rfl, rfl, trivial⟩)
                      refine WE.blockNormal ?_
                      refine WE.next ?_
                      refine WC.region ?_
                      refine WL.val (.int .i64 (((y.2.2.2.2 : Int) - 1))) rfl rfl rfl (fun za zC zh zk => wp_move rfl (zh.ev rfl) zk) ?_
                      refine WL.val (.int .i64 (((k : Int) - 1))) rfl rfl rfl (fun za zC zh zk => subb_3 rfl (zh.ev rfl) (zh.ev rfl) (wrap_eq (by omega) (by omega) (by omega)) zk) ?_
                      refine WL.val (.int .i64 (((k : Int) - 1))) rfl rfl rfl (fun za zC zh zk => wp_assign rfl (zh.ev rfl) zk) ?_
                      refine WL.nil (WE.sub (K' := [(0, .pointer (some ⟨g, 0, none⟩)), (1, .agg #[.int .i64 p.f, .slice pa0 p.args.length pc0]), (2, .agg #[.int .i64 t.f, .slice ta0 t.args.length tc0]), (4, .pointer (some ⟨g2, 0, none⟩)), (5, .pointer (some ⟨g11, 0, none⟩)), (7, .int .i64 (((st.length : Nat) : Int))), (8, .pointer (some ⟨g44, 0, none⟩)), (9, .slice ra234 ((y.2.2.2.1 ++ [(tget l k, tget tt.args k)]).length) rc235), (10, .pointer (some ⟨g104, 0, none⟩)), (13, .int .i64 (((k : Int) - 1))), (23, .bool (((!(p.plain)) || (!(t.plain))))), (32, .bool ((decide ((0 : Int) < (((x.L.length : Nat) : Int) : Int))))), (49, .bool ((decide ((f : Int) < (0 : Int))))), (118, .bool ((((f : Int) != (tt.f : Int)) || ((((l.length : Nat) : Int) : Int) != (((tt.args.length : Nat) : Int) : Int))))), (130, .bool ((decide ((0 : Int) ≤ (((y.2.2.2.2 : Int) - 1) : Int)))))]) ⟨rfl, rfl, rfl, rfl, rfl, rfl, rfl, rfl, rfl, rfl, rfl, rfl, rfl, rfl, rfl, trivial⟩ ?_)
                      refine WE.round ((ra234, rc235, y.2.2.1 ++ [(⟨ab, ao + k * 2, none⟩, ⟨bb, bo + k * 2, none⟩)], y.2.2.2.1 ++ [(tget l k, tget tt.args k)], k)) ⟨rfl, rfl, rfl, rfl, rfl, rfl, rfl, rfl, rfl, rfl, rfl, rfl, rfl, rfl, trivial⟩ ?_ ?_
                      · exact ⟨by (try dsimp only); omega, by dsimp only; rw [List.reverse_append, List.reverse_singleton, List.singleton_append, hrev, hk, zip_drop (k := k) (by omega) hsl.2]; rfl, hB236, hB237, hB238, hB239, hB240, ho241, hG232⟩
                      · (try dsimp only); omega
                  · have h230 : ¬ ((0 : Int) ≤ (((y.2.2.2.2 : Int) - 1) : Int)) := by simpa using h230
                    refine WC.exit ?_
                    refine WE.thenExit ?_
                    refine WE.thenExit ?_
                    refine WE.blockIs rfl ?_
                    refine WE.blockNormal ?_
                    refine WE.round ({ x with ta := y.1, tc := y.2.1, R := y.2.2.1, L := y.2.2.2.1 }) ⟨rfl, rfl, rfl, rfl, rfl, rfl, rfl, rfl, rfl, trivial⟩ ?_ ?_
                    · exact ⟨ans_sym hans hL h130 hsl (by have z := hrev; rwa [show y.2.2.2.2 = 0 by omega] at z), by have z := ssz_top hL; have z2 := ssz_sym (L := L) (Y := y.2.2.2.1) (by have z := hrev; rwa [show y.2.2.2.2 = 0 by omega] at z); (try dsimp only); omega, hB223, hB224, hB225, hB226, ho228, (ho229).1⟩
                    · have z := ssz_top hL; have z2 := ssz_sym (L := L) (Y := y.2.2.2.1) (by have z := hrev; rwa [show y.2.2.2.2 = 0 by omega] at z); (try dsimp only); omega
        · have h102 : ¬ ((0 : Int) < (((x.L.length : Nat) : Int) : Int)) := by simpa using h102
          refine WC.exit ?_
          refine WE.thenExit ?_
          refine WE.thenExit ?_
          refine WE.blockIs rfl ?_
          refine WE.next ?_
          refine WC.seq ?_
          refine WC.region ?_
          refine WL.val (.bool true) rfl rfl rfl (fun za zC zh zk => wp_assign rfl (zh.ev rfl) zk) ?_
          refine WL.nil (WE.sub (K' := [(0, .pointer (some ⟨g, 0, none⟩)), (1, .agg #[.int .i64 p.f, .slice pa0 p.args.length pc0]), (2, .agg #[.int .i64 t.f, .slice ta0 t.args.length tc0]), (4, .pointer (some ⟨g2, 0, none⟩)), (5, .pointer (some ⟨g11, 0, none⟩)), (6, .bool true), (7, .int .i64 (((st.length : Nat) : Int))), (8, .pointer (some ⟨g44, 0, none⟩)), (9, .slice x.ta x.L.length x.tc), (23, .bool (((!(p.plain)) || (!(t.plain))))), (32, .bool ((decide ((0 : Int) < (((x.L.length : Nat) : Int) : Int)))))]) ⟨rfl, rfl, rfl, rfl, rfl, rfl, rfl, rfl, rfl, rfl, rfl, trivial⟩ ?_)
          refine WE.next ?_
          refine WC.ret ?_
          refine WE.scopeRet ?_
          refine WE.ret1 rfl rfl ?_
          have hnil : x.L = [] := List.length_eq_zero_iff.1 (by omega)
          have hfin := fin_ok (p := p) (t := t) (st := st) (s := x.st) hpl1 hpl2 (by rw [hans, hnil]; rfl)
          refine ⟨_, rfl, ⟨(fun b => C b ∨ (w.heap.size ≤ b ∧ b < w92.heap.size)), congrArg Value.bool hfin.1.symm, ?_, fun b q => q.imp id (fun q => q.1)⟩, ho101.chg⟩
          rw [hfin.2]; exact ho101.mat hB99 ho100 hTs0

end Go.Proofs.Ytcmfjnadjddboaa
