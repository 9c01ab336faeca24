/- Rows of one's own whose elements lie in blocks that are told. -/
import Derived.Test.YtcmfjnadjddboaaMNf
import Derived.Test.YtcmfjnadjddboaaMNd

/- The matcher matches terms. -/
namespace Go.Proofs.Ytcmfjnadjddboaa
open Go.RowKit Go
set_option linter.unusedVariables false
set_option linter.unusedSimpArgs false

theorem zeroPt (w : World) : (zeroValue 66).run Try.prog w = .ok (.pointer none) w := by kernel_rfl
set_option maxRecDepth 100000 in
theorem term_any {g : Nat} {st : List Bd} {C A : Nat → Prop} (p t : T) (w : World) (u v : Value) (h : MatAt w g st C) (hp : InT A w p u) (ht : IsT w t v) (hA : ∀ b, A b → ¬ C b) (hzp : p.size ≤ 4294967296) (hzt : t.size ≤ 4294967296) (hn : st.length + p.size ≤ 1099511627776) :
    Calls Try.prog 15 #[.pointer (some ⟨g, 0, none⟩), u, v] w (Ret fun v' w' => (∃ C', v' = .bool (mOk p t st) ∧ MatAt w' g (mTo p t st) C' ∧ ∀ b, C' b → C b ∨ w.heap.size ≤ b) ∧ Chg C w w') := by
  have h0 := h
  obtain ⟨mb, es, cl, a, c, ps, hM⟩ := h
  have hgm := hM.gmb
  have hgl := hM.blk.lt
  have hml := hM.map.lt
  obtain ⟨hcap1, hcap2⟩ := hM.cap
  obtain ⟨hfp, pa0, pc0, rfl, _, _, _⟩ := hp.form
  obtain ⟨hft, ta0, tc0, rfl, _, _, _⟩ := ht.form
  refine Calls.walk (l := [.pointer (some ⟨g, 0, none⟩), .agg #[.int .i64 p.f, .slice pa0 p.args.length pc0], .agg #[.int .i64 t.f, .slice ta0 t.args.length tc0]]) Try.func15 rfl (by kernel_rfl) ?_
  refine WC.sub (K' := [(0, .pointer (some ⟨g, 0, none⟩)), (1, .agg #[.int .i64 p.f, .slice pa0 p.args.length pc0]), (2, .agg #[.int .i64 t.f, .slice ta0 t.args.length tc0])]) ⟨rfl, rfl, rfl, trivial⟩ ?_
  refine WC.seq ?_
  refine WC.region ?_
  refine WL.step (post := NewBlk w 24 #[.int .i64 p.f, .slice pa0 p.args.length pc0]) rfl rfl rfl (fun za zC zh zk => box_24 rfl (zh.ev rfl) (zk _ _ (newBlk _ _ _))) ?_
  rintro _ w1 ⟨g2, rfl, hg3, hB4, hb5, hz6⟩
  have hl7 : g < g2 := by have z1 := hM.blk.lt; omega
  have hl8 : mb < g2 := by have z1 := hM.map.lt; omega
  have hl9 : w.heap.size ≤ g2 := by omega
  refine WL.step (post := NewBlk w1 24 #[.int .i64 t.f, .slice ta0 t.args.length tc0]) rfl rfl rfl (fun za zC zh zk => box_24 rfl (zh.ev rfl) (zk _ _ (newBlk _ _ _))) ?_
  rintro _ w10 ⟨g11, rfl, hg12, hB13, hb14, hz15⟩
  have hl16 : g < g11 := by have z1 := hM.blk.lt; have z2 := (hb5).size; omega
  have hl17 : g2 < g11 := by have z1 := hB4.lt; omega
  have hl18 : mb < g11 := by have z1 := hM.map.lt; have z2 := (hb5).size; omega
  have hl19 : w.heap.size ≤ g11 := by have z2 := (hb5).size; omega
  refine WL.val (.bool false) rfl rfl rfl (fun za zC zh zk => wp_assign rfl (zh.ev rfl) zk) ?_
  refine WL.nil (WE.sub (K' := [(0, .pointer (some ⟨g, 0, none⟩)), (1, .agg #[.int .i64 p.f, .slice pa0 p.args.length pc0]), (2, .agg #[.int .i64 t.f, .slice ta0 t.args.length tc0]), (4, .pointer (some ⟨g2, 0, none⟩)), (5, .pointer (some ⟨g11, 0, none⟩)), (6, .bool false)]) ⟨rfl, rfl, rfl, rfl, rfl, rfl, trivial⟩ ?_)
  refine WE.next ?_
  refine WC.scope rfl ?_
  refine WC.seq ?_
  refine WC.seq ?_
  have hB20 := hB4.below hb14
  have hb21 : Below w.heap.size w w10 := (bstep hb5 hb14)
  refine WC.opt [(true, .val (.pointer (some ⟨g, 0, none⟩))), (true, .val (.bool false)), (true, .val (.bool false)), ((true && !false), .val (.bool ((p.plain)))), ((true && !false), .val (.bool ((!(p.plain))))), (true, .val (.bool ((!(p.plain))))), (true, .val (.bool ((!(p.plain))))), ((true && !(!(p.plain))), .val (.bool ((t.plain)))), ((true && !(!(p.plain))), .val (.bool ((!(t.plain))))), (true, .val (.bool (((!(p.plain)) || (!(t.plain))))))] [(0, .pointer (some ⟨g, 0, none⟩)), (1, .agg #[.int .i64 p.f, .slice pa0 p.args.length pc0]), (2, .agg #[.int .i64 t.f, .slice ta0 t.args.length tc0]), (4, .pointer (some ⟨g2, 0, none⟩)), (5, .pointer (some ⟨g11, 0, none⟩)), (6, .bool false)] ⟨rfl, rfl, rfl, rfl, rfl, rfl, trivial⟩ (by kernel_rfl) (by kernel_rfl) (by kernel_rfl) ?_ ?_
  · refine ⟨⟨true, .none rfl, fun h w => optUndef h, fun zβ za zw zc => ?_⟩, ?_⟩
    · exact wp_move rfl (zc.kn.ev rfl) ⟨_, rfl, Below.refl _ _, optDef zβ rfl⟩
    refine ⟨⟨true, .none rfl, fun h w => optUndef h, fun zβ za zw zc => ?_⟩, ?_⟩
    · exact eqlp_33 rfl ((show za.eval (.tmp 14) = za.tmps.getD 14 undef from rfl).trans (optVal (zc.dep 0 14 (by kernel_rfl)) rfl rfl)) (zc.kn.ev rfl) ⟨_, rfl, Below.refl _ _, optDef zβ rfl⟩
    refine ⟨⟨true, .none rfl, fun h w => optUndef h, fun zβ za zw zc => ?_⟩, ?_⟩
    · exact wp_move rfl ((show za.eval (.tmp 15) = za.tmps.getD 15 undef from rfl).trans (optVal (zc.dep 1 15 (by kernel_rfl)) rfl rfl)) ⟨_, rfl, Below.refl _ _, optDef zβ rfl⟩
    refine ⟨⟨(true && !false), .no (c := false) (d := true) rfl (fun v w h => h), fun h w => optUndef h, fun zβ za zw zc => ?_⟩, ?_⟩
    · exact wp_call (by kernel_rfl) rfl (hv1 (zc.kn.ev rfl)) (plainp_any p _ _ hzp (IsTp.of (bkeeps zc.below _ _ ((hB20.cell 0).trans rfl)) (bkeeps zc.below _ _ ((hB20.cell 1).trans rfl)) (IsT.below (bstep hb21 zc.below) (InT.isT hp)))) (fun v w' h => ⟨v, rfl, h.2, optDef zβ h.1⟩)
    refine ⟨⟨(true && !false), .no (c := false) (d := true) rfl (fun v w h => h), fun h w => optUndef h, fun zβ za zw zc => ?_⟩, ?_⟩
    · exact wp_not rfl ((show za.eval (.tmp 17) = za.tmps.getD 17 undef from rfl).trans (optVal (zc.dep 3 17 (by kernel_rfl)) rfl rfl)) ⟨_, rfl, Below.refl _ _, optDef zβ rfl⟩
    refine ⟨⟨true, .none rfl, fun h w => optUndef h, fun zβ za zw zc => ?_⟩, ?_⟩
    · exact wp_pickF rfl ((show za.eval (.tmp 16) = za.tmps.getD 16 undef from rfl).trans (optVal (zc.dep 2 16 (by kernel_rfl)) rfl rfl)) ((show za.eval (.tmp 18) = za.tmps.getD 18 undef from rfl).trans (optVal (zc.dep 4 18 (by kernel_rfl)) rfl rfl)) ⟨_, rfl, Below.refl _ _, optDef zβ rfl⟩
    refine ⟨⟨true, .none rfl, fun h w => optUndef h, fun zβ za zw zc => ?_⟩, ?_⟩
    · exact wp_move rfl ((show za.eval (.tmp 19) = za.tmps.getD 19 undef from rfl).trans (optVal (zc.dep 5 19 (by kernel_rfl)) rfl rfl)) ⟨_, rfl, Below.refl _ _, optDef zβ rfl⟩
    refine ⟨⟨(true && !(!(p.plain))), .no (c := (!(p.plain))) (d := true) rfl (fun v w h => h), fun h w => optUndef h, fun zβ za zw zc => ?_⟩, ?_⟩
    · exact wp_call (by kernel_rfl) rfl (hv1 (zc.kn.ev rfl)) (plainp_any t _ _ hzt (IsTp.of (bkeeps zc.below _ _ ((hB13.cell 0).trans rfl)) (bkeeps zc.below _ _ ((hB13.cell 1).trans rfl)) (IsT.below (bstep hb21 zc.below) ht))) (fun v w' h => ⟨v, rfl, h.2, optDef zβ h.1⟩)
    refine ⟨⟨(true && !(!(p.plain))), .no (c := (!(p.plain))) (d := true) rfl (fun v w h => h), fun h w => optUndef h, fun zβ za zw zc => ?_⟩, ?_⟩
    · exact wp_not rfl ((show za.eval (.tmp 21) = za.tmps.getD 21 undef from rfl).trans (optVal (zc.dep 7 21 (by kernel_rfl)) rfl zβ)) ⟨_, rfl, Below.refl _ _, optDef zβ rfl⟩
    refine ⟨⟨true, .none rfl, fun h w => optUndef h, fun zβ za zw zc => ?_⟩, ?_⟩
    · exact wp_or rfl ((show za.eval (.tmp 20) = za.tmps.getD 20 undef from rfl).trans (optVal (zc.dep 6 20 (by kernel_rfl)) rfl rfl)) (fun hp => ((show za.eval (.tmp 22) = za.tmps.getD 22 undef from rfl).trans (optVal (zc.dep 8 22 (by kernel_rfl)) rfl (bMkN zβ hp)))) ⟨_, rfl, Below.refl _ _, optDef zβ rfl⟩
    exact trivial
  · intro za w22 zh hb23 zu
    have zh := zh.cons (d := 23) (v := .bool (((!(p.plain)) || (!(t.plain))))) (optVal (zu 9 23 (by kernel_rfl)) rfl rfl)
    clear zu
    refine (show WE _ [(0, .pointer (some ⟨g, 0, none⟩)), (1, .agg #[.int .i64 p.f, .slice pa0 p.args.length pc0]), (2, .agg #[.int .i64 t.f, .slice ta0 t.args.length tc0]), (4, .pointer (some ⟨g2, 0, none⟩)), (5, .pointer (some ⟨g11, 0, none⟩)), (6, .bool false), (23, .bool (((!(p.plain)) || (!(t.plain)))))] w22 _ .normal from ?_) za (zh.sub ⟨rfl, rfl, rfl, rfl, rfl, rfl, rfl, trivial⟩)
    refine WE.next ?_
    refine WC.cond rfl (fun h24 => ?_) (fun h24 => ?_)
    · have h24 : (¬ ((p.plain) = true)) ∨ (¬ ((t.plain) = true)) := by simpa using h24
      (try simp at h24)
      refine WC.seq ?_
      refine WC.region ?_
      refine WL.val (.bool false) rfl rfl rfl (fun za zC zh zk => wp_assign rfl (zh.ev rfl) zk) ?_
      refine WL.nil (WE.sub (K' := [(0, .pointer (some ⟨g, 0, none⟩)), (1, .agg #[.int .i64 p.f, .slice pa0 p.args.length pc0]), (2, .agg #[.int .i64 t.f, .slice ta0 t.args.length tc0]), (4, .pointer (some ⟨g2, 0, none⟩)), (5, .pointer (some ⟨g11, 0, none⟩)), (6, .bool false), (23, .bool (((!(p.plain)) || (!(t.plain)))))]) ⟨rfl, rfl, rfl, rfl, rfl, rfl, rfl, trivial⟩ ?_)
      refine WE.next ?_
      refine WC.ret ?_
      refine WE.thenRet ?_
      refine WE.scopeRet ?_
      refine WE.ret1 rfl rfl ?_
      have hfin := fin_np (p := p) (t := t) (st := st) (fun hh => by rw [hh.1, hh.2] at h24; simp at h24)
      have hb25 : Below w.heap.size w w22 := (bstep hb21 hb23)
      refine ⟨_, rfl, ⟨C, congrArg Value.bool hfin.1.symm, ?_, fun b q => .inl q⟩, .ofBelow hb25⟩
      rw [hfin.2]; exact h0.below hb25
    · have h24 : ¬ ((¬ ((p.plain) = true)) ∨ (¬ ((t.plain) = true))) := by simpa using h24
      (try simp at h24)
      have hpl1 : p.plain = true := by simpa using h24.1
      have hpl2 : t.plain = true := by simpa using h24.2
      refine WC.skip ?_
      refine WE.next ?_
      refine WC.seq ?_
      refine WC.region ?_
      refine WL.val (.pointer (some ⟨g, 0, none⟩)) rfl rfl rfl (fun za zC zh zk => wp_move rfl (zh.ev rfl) zk) ?_
      have hb26 : Below w.heap.size w w22 := (bstep hb21 hb23)
      refine WL.call rfl rfl rfl (fun za zh zC => wp_call (by kernel_rfl) rfl (hv1 (zh.ev rfl))) (mark_any _ (h0.below hb26)) ?_
      rintro _ w28 ⟨rfl, hq27⟩
      refine WL.val (.int .i64 (((st.length : Nat) : Int))) rfl rfl rfl (fun za zC zh zk => wp_assign rfl (zh.ev rfl) zk) ?_
      refine WL.nil (WE.sub (K' := [(0, .pointer (some ⟨g, 0, none⟩)), (1, .agg #[.int .i64 p.f, .slice pa0 p.args.length pc0]), (2, .agg #[.int .i64 t.f, .slice ta0 t.args.length tc0]), (4, .pointer (some ⟨g2, 0, none⟩)), (5, .pointer (some ⟨g11, 0, none⟩)), (6, .bool false), (7, .int .i64 (((st.length : Nat) : Int))), (23, .bool (((!(p.plain)) || (!(t.plain)))))]) ⟨rfl, rfl, rfl, rfl, rfl, rfl, rfl, rfl, trivial⟩ ?_)
      refine WE.next ?_
      refine WC.seq ?_
      refine WC.region ?_
      have hb30 : Below w10.heap.size w10 w28 := (bstep hb23 hq27)
      have hB29 := hB13.below hb30
      refine WL.val (.agg #[.int .i64 t.f, .slice ta0 t.args.length tc0]) rfl rfl rfl (fun za zC zh zk => ld_24 rfl (zh.ev rfl) ((hB29.cell 0).trans rfl) ((hB29.cell 1).trans rfl) zk) ?_
      have hb31 : Below w.heap.size w w28 := (bstep hb21 hb30)
      have hl35 : g < w28.heap.size := by have z1 := hM.blk.lt; have z2 := (hb31).size; omega
      have hl36 : g2 < w28.heap.size := by have z1 := hB20.lt; have z2 := (hb30).size; omega
      have hl37 : g11 < w28.heap.size := by have z1 := hB29.lt; omega
      have hl38 : mb < w28.heap.size := by have z1 := hM.map.lt; have z2 := (hb31).size; omega
      have hl39 : w.heap.size ≤ w28.heap.size := (hb31).size
      refine WL.call rfl rfl rfl (fun za zh zC => wp_call (by kernel_rfl) rfl (hv1 (zh.ev rfl))) (copy_any t _ _ hzt (IsT.below hb31 ht)) ?_
      rintro v32 w40 ⟨hn33, hb34⟩
      obtain ⟨_, a41, c42, rfl, _, _, _⟩ := hn33.form
      refine WL.step (post := NewBlk w40 24 #[.int .i64 0, .slice none 0 0]) rfl rfl rfl (fun za zC zh zk => alloc_24 rfl (zk _ _ (newBlk _ _ _))) ?_
      rintro _ w43 ⟨g44, rfl, hg45, hB46, hb47, hz48⟩
      have hb49 : Below w.heap.size w w40 := (bstep hb31 hb34)
      have hl50 : g < g44 := by have z1 := hM.blk.lt; have z2 := (hb49).size; omega
      have hb51 : Below w10.heap.size w10 w40 := (bstep hb30 hb34)
      have hl52 : g2 < g44 := by have z1 := hB20.lt; have z2 := (hb51).size; omega
      have hl53 : g11 < g44 := by have z1 := hB29.lt; have z2 := (hb34).size; omega
      have hl54 : mb < g44 := by have z1 := hM.map.lt; have z2 := (hb49).size; omega
      have hl55 : w.heap.size ≤ g44 := by have z2 := (hb49).size; omega
      have hl56 : w40.heap.size ≤ g44 := by omega
      refine WL.step (post := fun _ w' => Upd g44 w43 w' ∧ Blk w' g44 24 #[.int .i64 t.f, .slice a41 t.args.length c42]) rfl rfl rfl (fun za zC zh zk => st_24 rfl (zh.ev rfl) (zh.ev rfl) rfl rfl hB46 (by first | decide | simp) (fun v => zk v _ ⟨(Upd.at_ _ _ _ _).trans (Upd.at_ _ _ _ _), (hB46.set_ 0 _).set_ 1 _⟩)) ?_
      rintro v60 w57 ⟨hu58, hB59⟩
      have hb61 : Below w.heap.size w w43 := (bstep hb49 hb47)
      have hb62 := upd_below hb61 hu58 (by omega)
      have hb63 := upd_below hb47 hu58 (by omega)
      have hB64 := hM.blk.below hb61
      have hB65 := upd_blk hB64 hu58 (by omega)
      have hb67 : Below w10.heap.size w10 w43 := (bstep hb51 hb47)
      have hB66 := hB20.below hb67
      have hB68 := upd_blk hB66 hu58 (by omega)
      have hb70 : Below w28.heap.size w28 w43 := (bstep hb34 hb47)
      have hB69 := hB29.below hb70
      have hB71 := upd_blk hB69 hu58 (by omega)
      have ho72 := hM.map.below hb61
      have ho73 := ho72.upd hu58 (by omega)
      refine WL.nil (WE.sub (K' := [(0, .pointer (some ⟨g, 0, none⟩)), (1, .agg #[.int .i64 p.f, .slice pa0 p.args.length pc0]), (2, .agg #[.int .i64 t.f, .slice ta0 t.args.length tc0]), (4, .pointer (some ⟨g2, 0, none⟩)), (5, .pointer (some ⟨g11, 0, none⟩)), (6, .bool false), (7, .int .i64 (((st.length : Nat) : Int))), (8, .pointer (some ⟨g44, 0, none⟩)), (23, .bool (((!(p.plain)) || (!(t.plain)))))]) ⟨rfl, rfl, rfl, rfl, rfl, rfl, rfl, rfl, rfl, trivial⟩ ?_)
      refine WE.next ?_
      refine WC.seq ?_
      refine WC.region ?_
      refine WL.val (.agg #[.pointer (some ⟨g2, 0, none⟩), .pointer (some ⟨g44, 0, none⟩)]) rfl rfl rfl (fun za zC zh zk => build_69_0_1 rfl (zh.ev rfl) (zh.ev rfl) zk) ?_
      refine WL.step (post := NewRow w57 69 #[.pointer (some ⟨g2, 0, none⟩), .pointer (some ⟨g44, 0, none⟩)] 1) rfl rfl rfl (fun za zC zh zk => row_70_1 rfl (zh.ev rfl) (zk _ _ (newRow _ _ _ _))) ?_
      rintro _ w74 ⟨g75, rfl, hg76, hB77, hb78, hz79⟩
      have hl80 : g < g75 := by have z1 := hB65.lt; omega
      have hl81 : g2 < g75 := by have z1 := hB68.lt; omega
      have hl82 : g11 < g75 := by have z1 := hB71.lt; omega
      have hl83 : g44 < g75 := by have z1 := hB59.lt; omega
      have hl84 : mb < g75 := by have z1 := ho73.lt; omega
      have hl85 : w.heap.size ≤ g75 := by have z2 := (hb62).size; omega
      have hl86 : w40.heap.size ≤ g75 := by have z2 := (hb63).size; omega
      have hl87 : w57.heap.size ≤ g75 := by omega
      refine WL.val (.slice ((some ⟨g75, 0, none⟩)) 1 1) rfl rfl rfl (fun za zC zh zk => wp_assign rfl (zh.ev rfl) zk) ?_
      refine WL.nil (WE.sub (K' := [(0, .pointer (some ⟨g, 0, none⟩)), (1, .agg #[.int .i64 p.f, .slice pa0 p.args.length pc0]), (2, .agg #[.int .i64 t.f, .slice ta0 t.args.length tc0]), (4, .pointer (some ⟨g2, 0, none⟩)), (5, .pointer (some ⟨g11, 0, none⟩)), (6, .bool false), (7, .int .i64 (((st.length : Nat) : Int))), (8, .pointer (some ⟨g44, 0, none⟩)), (9, .slice ((some ⟨g75, 0, none⟩)) 1 1), (23, .bool (((!(p.plain)) || (!(t.plain)))))]) ⟨rfl, rfl, rfl, rfl, rfl, rfl, rfl, rfl, rfl, rfl, trivial⟩ ?_)
      refine WE.next ?_
      refine WC.seq ?_
      refine WC.label ?_
      refine WE.next ?_
      refine WC.seq ?_
      refine WC.block ?_
      have hB88 := hB68.below hb78
      have hB89 := hB59.below hb78
      have ho90 := hn33.below hb63
      have hb91 : Below w.heap.size w w74 := (bstep hb62 hb78)
      obtain ⟨Ps, Ts, hTs0, hts0⟩ := TS.start (wc := w28) (wj := w57) (wk := w74) (g4 := g2) (g8 := g44) (g9 := g75) (p := p) (t := t) hM hp hA hb91 hB88 (by omega) (by omega) (by have z := hb31.size; omega) (by have z := hb34.size; omega) (by omega) hB89 ho90 (by omega) hb78 hB77 hzp hzt
      refine WC.loop (X := MX) (fun x => ssz x.L) (fun x => [(0, .pointer (some ⟨g, 0, none⟩)), (1, .agg #[.int .i64 p.f, .slice pa0 p.args.length pc0]), (2, .agg #[.int .i64 t.f, .slice ta0 t.args.length tc0]), (4, .pointer (some ⟨g2, 0, none⟩)), (5, .pointer (some ⟨g11, 0, none⟩)), (7, .int .i64 (((st.length : Nat) : Int))), (8, .pointer (some ⟨g44, 0, none⟩)), (9, .slice x.ta x.L.length x.tc), (23, .bool (((!(p.plain)) || (!(t.plain)))))]) (fun x w92 => p.mt st t = mts x.st x.L.reverse ∧ x.st.length + ssz x.L ≤ 1099511627776 ∧ Blk w92 g2 24 #[.int .i64 p.f, .slice pa0 p.args.length pc0] ∧ Blk w92 g11 24 #[.int .i64 t.f, .slice ta0 t.args.length tc0] ∧ Blk w92 g44 24 #[.int .i64 t.f, .slice a41 t.args.length c42] ∧ Blk w92 g 64 #[.map ((some mb)), .slice x.ra x.st.length x.rc] ∧ ObjAt (w92) mb (.map x.es x.cl) ∧ TS w g mb g75 C Ps Ts st (w92) x) (⟨some ⟨g75, 0, none⟩, 1, [(⟨g2, 0, none⟩, ⟨g44, 0, none⟩)], [(p, t)], a, c, st, ps, es, cl⟩) ⟨rfl, rfl, rfl, rfl, rfl, rfl, rfl, rfl, rfl, trivial⟩ ?_ ?_
      · have hB93 := hB71.below hb78
        have hB94 := hB65.below hb78
        have ho95 := ho73.below hb78
        exact ⟨(mts_one p t st).symm, (by simp only [ssz]; omega), hB88, hB93, hB89, hB94, ho95, hts0⟩
      · rintro x w92 ⟨hans, hbnd, hB96, hB97, hB98, hB99, ho100, ho101⟩
        refine WC.seq ?_
        refine WC.seq ?_
        refine WC.region ?_
        refine WL.val (.slice x.ta x.L.length x.tc) rfl rfl rfl (fun za zC zh zk => wp_move rfl (zh.ev rfl) zk) ?_
        refine WL.val (.int .i64 (((x.L.length : Nat) : Int))) rfl rfl rfl (fun za zC zh zk => len_70 rfl (zh.ev rfl) zk) ?_
        refine WL.val (.bool ((decide ((0 : Int) < (((x.L.length : Nat) : Int) : Int))))) rfl rfl rfl (fun za zC zh zk => gtr_3 rfl (zh.ev rfl) (zh.ev rfl) zk) ?_
        refine WL.nil (WE.sub (K' := [(0, .pointer (some ⟨g, 0, none⟩)), (1, .agg #[.int .i64 p.f, .slice pa0 p.args.length pc0]), (2, .agg #[.int .i64 t.f, .slice ta0 t.args.length tc0]), (4, .pointer (some ⟨g2, 0, none⟩)), (5, .pointer (some ⟨g11, 0, none⟩)), (7, .int .i64 (((st.length : Nat) : Int))), (8, .pointer (some ⟨g44, 0, none⟩)), (9, .slice x.ta x.L.length x.tc), (23, .bool (((!(p.plain)) || (!(t.plain))))), (32, .bool ((decide ((0 : Int) < (((x.L.length : Nat) : Int) : Int)))))]) ⟨rfl, rfl, rfl, rfl, rfl, rfl, rfl, rfl, rfl, rfl, trivial⟩ ?_)
        refine WE.next ?_
        refine WC.cond rfl (fun h102 => ?_) (fun h102 => ?_)
        · have h102 : (0 : Int) < (((x.L.length : Nat) : Int) : Int) := by simpa using h102
          refine WC.skip ?_
          refine WE.next ?_
          refine WC.block ?_
          refine WC.seq ?_
          obtain ⟨f, l, tt, L, R, tb, to_, pb, po, qb, qo, pa, qa, pc, qc, hL, hLn, hta, hc1, hc2, hp1, hp2, hpT, hq1, hq2, hqT, hqP, hpP, hcp1, hcp2, hz1, hz2, hts⟩ := ho101.top (by omega)
          unfold maxLen at hcp2
          have hIf := hpT.form.1
          rw [T.f_mk] at hIf
          unfold I64 at hIf
          refine WC.region ?_
          refine WL.val (.slice x.ta x.L.length x.tc) rfl rfl rfl (fun za zC zh zk => wp_move rfl (zh.ev rfl) zk) ?_
          refine WL.val (.slice x.ta x.L.length x.tc) rfl rfl rfl (fun za zC zh zk => wp_move rfl (zh.ev rfl) zk) ?_
          refine WL.val (.int .i64 (((x.L.length : Nat) : Int))) rfl rfl rfl (fun za zC zh zk => len_70 rfl (zh.ev rfl) zk) ?_
          refine WL.val (.int .i64 (((L.length : Nat) : Int))) rfl rfl rfl (fun za zC zh zk => subb_3 rfl (zh.ev rfl) (zh.ev rfl) (wrap_eq (by omega) (by omega) (by omega)) zk) ?_
          refine WL.val (.pointer (some ⟨tb, to_ + L.length * 2, none⟩)) rfl rfl rfl (fun za zC zh zk => ix_70 (k := L.length) rfl (zh.ev rfl) hta (zh.ev rfl) (by first | omega | (simp; omega)) zk) ?_
          refine WL.val (.agg #[.pointer (some ⟨pb, po, none⟩), .pointer (some ⟨qb, qo, none⟩)]) rfl rfl rfl (fun za zC zh zk => ld_69 rfl (zh.ev rfl) hc1 hc2 zk) ?_
          refine WL.step (post := NewBlk w92 69 #[.pointer none, .pointer none]) rfl rfl rfl (fun za zC zh zk => alloc_69 rfl (zk _ _ (newBlk _ _ _))) ?_
          rintro _ w103 ⟨g104, rfl, hg105, hB106, hb107, hz108⟩
          have hl109 : g2 < g104 := by have z1 := hB96.lt; omega
          have hl110 : g11 < g104 := by have z1 := hB97.lt; omega
          have hl111 : g44 < g104 := by have z1 := hB98.lt; omega
          have hl112 : g < g104 := by have z1 := hB99.lt; omega
          have hl113 : mb < g104 := by have z1 := ho100.lt; omega
          have hl114 : w92.heap.size ≤ g104 := by omega
          refine WL.step (post := fun _ w' => Upd g104 w103 w' ∧ Blk w' g104 69 #[.pointer (some ⟨pb, po, none⟩), .pointer (some ⟨qb, qo, none⟩)]) rfl rfl rfl (fun za zC zh zk => st_69 rfl (zh.ev rfl) (zh.ev rfl) rfl rfl hB106 (by first | decide | simp) (fun v => zk v _ ⟨(Upd.at_ _ _ _ _).trans (Upd.at_ _ _ _ _), (hB106.set_ 0 _).set_ 1 _⟩)) ?_
          rintro v118 w115 ⟨hu116, hB117⟩
          have hb119 := upd_below hb107 hu116 (by omega)
          have hB120 := hB96.below hb107
          have hB121 := upd_blk hB120 hu116 (by omega)
          have hB122 := hB97.below hb107
          have hB123 := upd_blk hB122 hu116 (by omega)
          have hB124 := hB98.below hb107
          have hB125 := upd_blk hB124 hu116 (by omega)
          have hB126 := hB99.below hb107
          have hB127 := upd_blk hB126 hu116 (by omega)
          have ho128 := ho100.below hb107
          have ho129 := ho128.upd hu116 (by omega)
          refine WL.nil (WE.sub (K' := [(0, .pointer (some ⟨g, 0, none⟩)), (1, .agg #[.int .i64 p.f, .slice pa0 p.args.length pc0]), (2, .agg #[.int .i64 t.f, .slice ta0 t.args.length tc0]), (4, .pointer (some ⟨g2, 0, none⟩)), (5, .pointer (some ⟨g11, 0, none⟩)), (7, .int .i64 (((st.length : Nat) : Int))), (8, .pointer (some ⟨g44, 0, none⟩)), (9, .slice x.ta x.L.length x.tc), (10, .pointer (some ⟨g104, 0, none⟩)), (23, .bool (((!(p.plain)) || (!(t.plain))))), (32, .bool ((decide ((0 : Int) < (((x.L.length : Nat) : Int) : Int)))))]) ⟨rfl, rfl, rfl, rfl, rfl, rfl, rfl, rfl, rfl, rfl, rfl, trivial⟩ ?_)
          refine WE.next ?_
          refine WC.seq ?_
          refine WC.region ?_
          refine WL.val (.slice x.ta x.L.length x.tc) rfl rfl rfl (fun za zC zh zk => wp_move rfl (zh.ev rfl) zk) ?_
          refine WL.val (.slice x.ta x.L.length x.tc) rfl rfl rfl (fun za zC zh zk => wp_move rfl (zh.ev rfl) zk) ?_
          refine WL.val (.int .i64 (((x.L.length : Nat) : Int))) rfl rfl rfl (fun za zC zh zk => len_70 rfl (zh.ev rfl) zk) ?_
          refine WL.val (.int .i64 (((L.length : Nat) : Int))) rfl rfl rfl (fun za zC zh zk => subb_3 rfl (zh.ev rfl) (zh.ev rfl) (wrap_eq (by omega) (by omega) (by omega)) zk) ?_
          refine WL.val (.slice x.ta L.length x.tc) rfl rfl rfl (fun za zC zh zk => shi_70 (k := L.length) rfl (zh.ev rfl) (zh.ev rfl) (by omega) zk) ?_
          refine WL.val (.slice x.ta L.length x.tc) rfl rfl rfl (fun za zC zh zk => wp_assign rfl (zh.ev rfl) zk) ?_
          refine WL.nil (WE.sub (K' := [(0, .pointer (some ⟨g, 0, none⟩)), (1, .agg #[.int .i64 p.f, .slice pa0 p.args.length pc0]), (2, .agg #[.int .i64 t.f, .slice ta0 t.args.length tc0]), (4, .pointer (some ⟨g2, 0, none⟩)), (5, .pointer (some ⟨g11, 0, none⟩)), (7, .int .i64 (((st.length : Nat) : Int))), (8, .pointer (some ⟨g44, 0, none⟩)), (9, .slice x.ta L.length x.tc), (10, .pointer (some ⟨g104, 0, none⟩)), (23, .bool (((!(p.plain)) || (!(t.plain))))), (32, .bool ((decide ((0 : Int) < (((x.L.length : Nat) : Int) : Int)))))]) ⟨rfl, rfl, rfl, rfl, rfl, rfl, rfl, rfl, rfl, rfl, rfl, trivial⟩ ?_)
          refine WE.next ?_
          refine WC.seq ?_
          refine WC.seq ?_
          refine WC.region ?_
          refine WL.val (.pointer (some ⟨g104, 0, none⟩)) rfl rfl rfl (fun za zC zh zk => fld_69_0 rfl (zh.ev rfl) zk) ?_
          refine WL.val (.pointer (some ⟨pb, po, none⟩)) rfl rfl rfl (fun za zC zh zk => ld_66 rfl (zh.ev rfl) ((hB117.cell 0).trans rfl) zk) ?_
          refine WL.val (.pointer (some ⟨pb, po, none⟩)) rfl rfl rfl (fun za zC zh zk => nilCheck_ rfl (zh.ev rfl) zk) ?_
          refine WL.val (.pointer (some ⟨pb, po, none⟩)) rfl rfl rfl (fun za zC zh zk => fld_24_0 rfl (zh.ev rfl) zk) ?_
          refine WL.val (.int .i64 f) rfl rfl rfl (fun za zC zh zk => ld_3 rfl (zh.ev rfl) (bkeeps hb119 _ _ hp1) zk) ?_
          refine WL.val (.bool ((decide ((f : Int) < (0 : Int))))) rfl rfl rfl (fun za zC zh zk => lss_3 rfl (zh.ev rfl) (zh.ev rfl) zk) ?_
          refine WL.nil (WE.sub (K' := [(0, .pointer (some ⟨g, 0, none⟩)), (1, .agg #[.int .i64 p.f, .slice pa0 p.args.length pc0]), (2, .agg #[.int .i64 t.f, .slice ta0 t.args.length tc0]), (4, .pointer (some ⟨g2, 0, none⟩)), (5, .pointer (some ⟨g11, 0, none⟩)), (7, .int .i64 (((st.length : Nat) : Int))), (8, .pointer (some ⟨g44, 0, none⟩)), (9, .slice x.ta L.length x.tc), (10, .pointer (some ⟨g104, 0, none⟩)), (23, .bool (((!(p.plain)) || (!(t.plain))))), (32, .bool ((decide ((0 : Int) < (((x.L.length : Nat) : Int) : Int))))), (49, .bool ((decide ((f : Int) < (0 : Int)))))]) ⟨rfl, rfl, rfl, rfl, rfl, rfl, rfl, rfl, rfl, rfl, rfl, rfl, trivial⟩ ?_)
          refine WE.next ?_
          refine WC.cond rfl (fun h130 => ?_) (fun h130 => ?_)
          · have h130 : (f : Int) < (0 : Int) := by simpa using h130
            refine WC.seq ?_
            refine WC.region ?_
            refine WL.val (.pointer (some ⟨g104, 0, none⟩)) rfl rfl rfl (fun za zC zh zk => fld_69_0 rfl (zh.ev rfl) zk) ?_
            refine WL.val (.pointer (some ⟨pb, po, none⟩)) rfl rfl rfl (fun za zC zh zk => ld_66 rfl (zh.ev rfl) ((hB117.cell 0).trans rfl) zk) ?_
            refine WL.val (.pointer (some ⟨pb, po, none⟩)) rfl rfl rfl (fun za zC zh zk => nilCheck_ rfl (zh.ev rfl) zk) ?_
            refine WL.val (.pointer (some ⟨pb, po, none⟩)) rfl rfl rfl (fun za zC zh zk => fld_24_0 rfl (zh.ev rfl) zk) ?_
            refine WL.val (.int .i64 f) rfl rfl rfl (fun za zC zh zk => ld_3 rfl (zh.ev rfl) (bkeeps hb119 _ _ hp1) zk) ?_
            refine WL.val (.int .i64 ((-1 - f))) rfl rfl rfl (fun za zC zh zk => subb_3 rfl (zh.ev rfl) (zh.ev rfl) (wrap_eq rfl (by omega) (by omega)) zk) ?_
            refine WL.val (.int .i64 ((-1 - f))) rfl rfl rfl (fun za zC zh zk => wp_assign rfl (zh.ev rfl) zk) ?_
            refine WL.nil (WE.sub (K' := [(0, .pointer (some ⟨g, 0, none⟩)), (1, .agg #[.int .i64 p.f, .slice pa0 p.args.length pc0]), (2, .agg #[.int .i64 t.f, .slice ta0 t.args.length tc0]), (4, .pointer (some ⟨g2, 0, none⟩)), (5, .pointer (some ⟨g11, 0, none⟩)), (7, .int .i64 (((st.length : Nat) : Int))), (8, .pointer (some ⟨g44, 0, none⟩)), (9, .slice x.ta L.length x.tc), (10, .pointer (some ⟨g104, 0, none⟩)), (11, .int .i64 ((-1 - f))), (23, .bool (((!(p.plain)) || (!(t.plain))))), (32, .bool ((decide ((0 : Int) < (((x.L.length : Nat) : Int) : Int))))), (49, .bool ((decide ((f : Int) < (0 : Int)))))]) ⟨rfl, rfl, rfl, rfl, rfl, rfl, rfl, rfl, rfl, rfl, rfl, rfl, rfl, trivial⟩ ?_)
            refine WE.next ?_
            refine WC.seq ?_
            refine WC.seq ?_
            refine WC.region ?_
            refine WL.val (.pointer (some ⟨g, 0, none⟩)) rfl rfl rfl (fun za zC zh zk => wp_move rfl (zh.ev rfl) zk) ?_
            refine WL.val (.pointer (some ⟨g, 0, none⟩)) rfl rfl rfl (fun za zC zh zk => nilCheck_ rfl (zh.ev rfl) zk) ?_
            refine WL.val (.pointer (some ⟨g, 0, none⟩)) rfl rfl rfl (fun za zC zh zk => fld_64_0 rfl (zh.ev rfl) zk) ?_
            refine WL.val (.map ((some mb))) rfl rfl rfl (fun za zC zh zk => ld_62 rfl (zh.ev rfl) ((hB127.cell 0).trans rfl) zk) ?_
            refine WL.val (.int .i64 ((-1 - f))) rfl rfl rfl (fun za zC zh zk => wp_move rfl (zh.ev rfl) zk) ?_
            have ho131 := hts.below hb119
            rcases ho131.look (-1 - f) with ⟨hf, hlk⟩ | ⟨o, ob, oo, oa, oc, hf, hlk, ho1, ho2, ho3⟩
            · refine WL.val (.pointer none) rfl rfl rfl (fun za zC zh zk => wp_look_im Try.underlying62 Try.underlying3 (zeroPt _) ho129 ho131.ent rfl (zh.ev rfl) (zh.ev rfl) (by rw [hlk]; exact zk)) ?_
              refine WL.val (.pointer none) rfl rfl rfl (fun za zC zh zk => wp_assign rfl (zh.ev rfl) zk) ?_
              refine WL.nil (WE.sub (K' := [(0, .pointer (some ⟨g, 0, none⟩)), (1, .agg #[.int .i64 p.f, .slice pa0 p.args.length pc0]), (2, .agg #[.int .i64 t.f, .slice ta0 t.args.length tc0]), (4, .pointer (some ⟨g2, 0, none⟩)), (5, .pointer (some ⟨g11, 0, none⟩)), (7, .int .i64 (((st.length : Nat) : Int))), (8, .pointer (some ⟨g44, 0, none⟩)), (9, .slice x.ta L.length x.tc), (10, .pointer (some ⟨g104, 0, none⟩)), (11, .int .i64 ((-1 - f))), (12, .pointer none), (23, .bool (((!(p.plain)) || (!(t.plain))))), (32, .bool ((decide ((0 : Int) < (((x.L.length : Nat) : Int) : Int))))), (49, .bool ((decide ((f : Int) < (0 : Int)))))]) ⟨rfl, rfl, rfl, rfl, rfl, rfl, rfl, rfl, rfl, rfl, rfl, rfl, rfl, rfl, trivial⟩ ?_)
              refine WE.next ?_
              refine WC.seq ?_
              refine WC.region ?_
              refine WL.val (.pointer none) rfl rfl rfl (fun za zC zh zk => wp_move rfl (zh.ev rfl) zk) ?_
              refine WL.val (.bool true) rfl rfl rfl (fun za zC zh zk => eqln_66 rfl (zh.ev rfl) (zh.ev rfl) zk) ?_
              refine WL.nil (WE.sub (K' := [(0, .pointer (some ⟨g, 0, none⟩)), (1, .agg #[.int .i64 p.f, .slice pa0 p.args.length pc0]), (2, .agg #[.int .i64 t.f, .slice ta0 t.args.length tc0]), (4, .pointer (some ⟨g2, 0, none⟩)), (5, .pointer (some ⟨g11, 0, none⟩)), (7, .int .i64 (((st.length : Nat) : Int))), (8, .pointer (some ⟨g44, 0, none⟩)), (9, .slice x.ta L.length x.tc), (10, .pointer (some ⟨g104, 0, none⟩)), (11, .int .i64 ((-1 - f))), (12, .pointer none), (23, .bool (((!(p.plain)) || (!(t.plain))))), (32, .bool ((decide ((0 : Int) < (((x.L.length : Nat) : Int) : Int))))), (49, .bool ((decide ((f : Int) < (0 : Int))))), (63, .bool true)]) ⟨rfl, rfl, rfl, rfl, rfl, rfl, rfl, rfl, rfl, rfl, rfl, rfl, rfl, rfl, rfl, trivial⟩ ?_)
              refine WE.next ?_
              refine WC.condT rfl rfl ?_
              refine WC.seq ?_
              have hgB := hB127
              have hmB := ho129
              have hgm2 : g ≠ mb := hgm
              refine WC.tail1 (S := ((fun b => b = mb))) [(true, .val (.pointer (some ⟨g, 0, none⟩))), (true, .val (.pointer (some ⟨g, 0, none⟩))), (true, .val (.pointer (some ⟨g, 0, none⟩))), (true, .val (.map ((some mb)))), (true, .val (.int .i64 ((-1 - f)))), (true, .val (.pointer (some ⟨g104, 1, none⟩))), (true, .val (.pointer (some ⟨qb, qo, none⟩))), (true, .val undef)] [(0, .pointer (some ⟨g, 0, none⟩)), (1, .agg #[.int .i64 p.f, .slice pa0 p.args.length pc0]), (2, .agg #[.int .i64 t.f, .slice ta0 t.args.length tc0]), (4, .pointer (some ⟨g2, 0, none⟩)), (5, .pointer (some ⟨g11, 0, none⟩)), (7, .int .i64 (((st.length : Nat) : Int))), (8, .pointer (some ⟨g44, 0, none⟩)), (9, .slice x.ta L.length x.tc), (10, .pointer (some ⟨g104, 0, none⟩)), (11, .int .i64 ((-1 - f))), (12, .pointer none), (23, .bool (((!(p.plain)) || (!(t.plain))))), (32, .bool ((decide ((0 : Int) < (((x.L.length : Nat) : Int) : Int))))), (49, .bool ((decide ((f : Int) < (0 : Int))))), (63, .bool true)] 7 (fun wz => ∃ es' cl', ObjAt wz mb (.map es' cl') ∧ ImE es' cl' ((x.st.map (·.var)).zip x.ps ++ [(-1 - f, .pointer (some ⟨qb, qo, none⟩))])) (fun w w' hb ⟨es', cl', h1, h2⟩ => ⟨es', cl', h1.below hb, h2⟩) ⟨rfl, rfl, rfl, rfl, rfl, rfl, rfl, rfl, rfl, rfl, rfl, rfl, rfl, rfl, rfl, trivial⟩ (by kernel_rfl) (by kernel_rfl) (by kernel_rfl) (by kernel_rfl) ?_ ?_
              · refine ⟨.inl ⟨rfl, true, .none rfl, (fun gg b h => by cases h), fun h w => optUndef h, fun zβ za zw zc => ?_⟩, ?_⟩
                · exact wp_move rfl (zc.kn.ev rfl) ⟨_, rfl, Below.refl _ _, optDef zβ rfl⟩
                refine ⟨.inl ⟨rfl, true, .none rfl, (fun gg b h => by cases h), fun h w => optUndef h, fun zβ za zw zc => ?_⟩, ?_⟩
                · exact nilCheck_ rfl ((show za.eval (.tmp 64) = za.tmps.getD 64 undef from rfl).trans (optSVal (zc.dep 0 64 (by kernel_rfl) (by decide)) rfl rfl)) ⟨_, rfl, Below.refl _ _, optDef zβ rfl⟩
                refine ⟨.inl ⟨rfl, true, .none rfl, (fun gg b h => by cases h), fun h w => optUndef h, fun zβ za zw zc => ?_⟩, ?_⟩
                · exact fld_64_0 rfl ((show za.eval (.tmp 65) = za.tmps.getD 65 undef from rfl).trans (optSVal (zc.dep 1 65 (by kernel_rfl) (by decide)) rfl rfl)) ⟨_, rfl, Below.refl _ _, optDef zβ rfl⟩
                refine ⟨.inl ⟨rfl, true, .none rfl, (fun gg b h => by cases h), fun h w => optUndef h, fun zβ za zw zc => ?_⟩, ?_⟩
                · exact ld_62 rfl ((show za.eval (.tmp 66) = za.tmps.getD 66 undef from rfl).trans (optSVal (zc.dep 2 66 (by kernel_rfl) (by decide)) rfl rfl)) (bkeeps (zc.early (by kernel_rfl)) _ _ ((hB127.cell 0).trans rfl)) ⟨_, rfl, Below.refl _ _, optDef zβ rfl⟩
                refine ⟨.inl ⟨rfl, true, .none rfl, (fun gg b h => by cases h), fun h w => optUndef h, fun zβ za zw zc => ?_⟩, ?_⟩
                · exact wp_move rfl (zc.kn.ev rfl) ⟨_, rfl, Below.refl _ _, optDef zβ rfl⟩
                refine ⟨.inl ⟨rfl, true, .none rfl, (fun gg b h => by cases h), fun h w => optUndef h, fun zβ za zw zc => ?_⟩, ?_⟩
                · exact fld_69_1 rfl (zc.kn.ev rfl) ⟨_, rfl, Below.refl _ _, optDef zβ rfl⟩
                refine ⟨.inl ⟨rfl, true, .none rfl, (fun gg b h => by cases h), fun h w => optUndef h, fun zβ za zw zc => ?_⟩, ?_⟩
                · exact ld_66 rfl ((show za.eval (.tmp 69) = za.tmps.getD 69 undef from rfl).trans (optSVal (zc.dep 5 69 (by kernel_rfl) (by decide)) rfl rfl)) (bkeeps (zc.early (by kernel_rfl)) _ _ ((hB117.cell 1).trans rfl)) ⟨_, rfl, Below.refl _ _, optDef zβ rfl⟩
                refine ⟨.inr ⟨rfl, rfl, fun za zw zc => ?_⟩, ?_⟩
                · exact wp_put_im Try.underlying62 Try.underlying3 (ho129.below zc.below) ho131.ent rfl ((show za.eval (.tmp 67) = za.tmps.getD 67 undef from rfl).trans (optSVal (zc.dep 3 67 (by kernel_rfl) (by decide)) rfl rfl)) ((show za.eval (.tmp 68) = za.tmps.getD 68 undef from rfl).trans (optSVal (zc.dep 4 68 (by kernel_rfl) (by decide)) rfl rfl)) ((show za.eval (.tmp 70) = za.tmps.getD 70 undef from rfl).trans (optSVal (zc.dep 6 70 (by kernel_rfl) (by decide)) rfl rfl)) (fun y hy => by obtain ⟨q, hq, e⟩ := List.mem_map.1 (List.of_mem_zip hy).1; rw [← e]; exact subFind_none' hf q hq) (fun w' es' cl' h1 h2 h3 => ⟨undef, rfl, ⟨es', cl', h1, h2⟩, .ofUpd h3 rfl⟩)
                exact trivial
              · intro za w132 zh hG133 hc134 zu
                have hB135 := chg_blk hB121 hc134 (by (try dsimp only at *); omega)
                have hB136 := chg_blk hB123 hc134 (by (try dsimp only at *); omega)
                have hB137 := chg_blk hB125 hc134 (by (try dsimp only at *); omega)
                have hB138 := chg_blk hB127 hc134 (by (try dsimp only at *); omega)
                have hB139 := chg_blk hB117 hc134 (by (try dsimp only at *); omega)
                obtain ⟨es140, cl141, hM142, hE143⟩ := hG133
                clear zu
                refine (show WE _ [(0, .pointer (some ⟨g, 0, none⟩)), (1, .agg #[.int .i64 p.f, .slice pa0 p.args.length pc0]), (2, .agg #[.int .i64 t.f, .slice ta0 t.args.length tc0]), (4, .pointer (some ⟨g2, 0, none⟩)), (5, .pointer (some ⟨g11, 0, none⟩)), (7, .int .i64 (((st.length : Nat) : Int))), (8, .pointer (some ⟨g44, 0, none⟩)), (9, .slice x.ta L.length x.tc), (10, .pointer (some ⟨g104, 0, none⟩)), (11, .int .i64 ((-1 - f))), (12, .pointer none), (23, .bool (((!(p.plain)) || (!(t.plain))))), (32, .bool ((decide ((0 : Int) < (((x.L.length : Nat) : Int) : Int))))), (49, .bool ((decide ((f : Int) < (0 : Int))))), (63, .bool true)] w132 _ .normal from ?_) za (zh.sub ⟨rfl, rfl, rfl, rfl, rfl, rfl, rfl, rfl, rfl, rfl, rfl, rfl, rfl, rfl, rfl, trivial⟩)
                refine WE.next ?_
                refine WC.region ?_
                refine WL.val (.pointer (some ⟨g, 0, none⟩)) rfl rfl rfl (fun za zC zh zk => wp_move rfl (zh.ev rfl) zk) ?_
                refine WL.val (.pointer (some ⟨g, 0, none⟩)) rfl rfl rfl (fun za zC zh zk => wp_move rfl (zh.ev rfl) zk) ?_
                refine WL.val (.pointer (some ⟨g, 0, none⟩)) rfl rfl rfl (fun za zC zh zk => nilCheck_ rfl (zh.ev rfl) zk) ?_
                refine WL.val (.pointer (some ⟨g, 1, none⟩)) rfl rfl rfl (fun za zC zh zk => fld_64_1 rfl (zh.ev rfl) zk) ?_
                refine WL.val (.slice x.ra x.st.length x.rc) rfl rfl rfl (fun za zC zh zk => ld_59 rfl (zh.ev rfl) ((hB138.cell 1).trans rfl) zk) ?_
                refine WL.val (.int .i64 ((-1 - f))) rfl rfl rfl (fun za zC zh zk => wp_move rfl (zh.ev rfl) zk) ?_
                refine WL.step (post := NewRow w132 3 #[.int .i64 ((-1 - f))] 1) rfl rfl rfl (fun za zC zh zk => row_59_1 rfl (zh.ev rfl) (zk _ _ (newRow _ _ _ _))) ?_
                rintro _ w144 ⟨g145, rfl, hg146, hB147, hb148, hz149⟩
                have hl150 : g2 < g145 := by have z1 := hB135.lt; omega
                have hl151 : g11 < g145 := by have z1 := hB136.lt; omega
                have hl152 : g44 < g145 := by have z1 := hB137.lt; omega
                have hl153 : g < g145 := by have z1 := hB138.lt; omega
                have hl154 : g104 < g145 := by have z1 := hB139.lt; omega
                have hl155 : mb < g145 := by have z1 := hM142.lt; omega
                have hs156 : Chg ((fun b => b = mb)) w115 w144 := (Chg.trans2 (Chg.trans2 (Chg.refl ((fun b => b = mb)) _) hc134 (fun i h1 h2 => by first | exact h2 | exact .inl h2 | exact .inr h2 | exact .inr (.inl h2) | exact .inr (.inr h2) | ((try dsimp only at *); omega))) (Chg.ofBelow (S := fun k => k < 0) hb148) (fun i h1 h2 => by first | exact h2 | exact .inl h2 | exact .inr h2 | exact .inr (.inl h2) | exact .inr (.inr h2) | ((try dsimp only at *); omega)))
                have hrw : RowE eltI w144 0 3 x.ra x.rc x.st.length (x.st.map (·.var)) := ho131.mrow.chgOwn (fun _ _ _ _ _ q => q) hs156 (fun b q e => by subst e; exact ho131.mrow.neMap hmB q)
                have hB157 := hB135.below hb148
                have hne158 : ¬ (Value.slice x.ra x.st.length x.rc).ownBlock = some g2 := hrw.neBlk hB157 (by decide)
                have hB159 := hB136.below hb148
                have hne160 : ¬ (Value.slice x.ra x.st.length x.rc).ownBlock = some g11 := hrw.neBlk hB159 (by decide)
                have hB161 := hB137.below hb148
                have hne162 : ¬ (Value.slice x.ra x.st.length x.rc).ownBlock = some g44 := hrw.neBlk hB161 (by decide)
                have hB163 := hB138.below hb148
                have hne164 : ¬ (Value.slice x.ra x.st.length x.rc).ownBlock = some g := hrw.neBlk hB163 (by decide)
                have hB165 := hB139.below hb148
                have hne166 : ¬ (Value.slice x.ra x.st.length x.rc).ownBlock = some g104 := hrw.neBlk hB165 (by decide)
                have ho168 := hM142.below hb148
                have hne167 : ¬ (Value.slice x.ra x.st.length x.rc).ownBlock = some mb := hrw.neMap ho168
                have hlst := len_le_ssz x.L
                refine WL.step (post := fun v w' => ∃ ra rc, v = .slice ra (x.st.length + 1) rc ∧ RowE eltI w' 0 3 ra rc (x.st.length + 1) (x.st.map (·.var) ++ [-1 - f]) ∧ Chg (fun b => (Value.slice x.ra x.st.length x.rc).ownBlock = some b) w144 w' ∧ ∀ b, (Value.slice ra (x.st.length + 1) rc).ownBlock = some b → (Value.slice x.ra x.st.length x.rc).ownBlock = some b ∨ b = w144.heap.size) rfl rfl rfl (fun za zC zh zk => wp_appE2 (E := eltI) (size := 1) (bytes := 8) (z := .int .i64 0) (cs := [.int .i64 (-1 - f)]) rfl Try.underlying59 (by kernel_rfl) rfl (by decide) rfl (zh.ev rfl) (zh.ev rfl) hrw hB147 rfl (by omega) (by omega) (Nat.zero_le _) (fun ra rc w' h1 h2 _ h4 => zk _ _ ⟨ra, rc, rfl, h1, h2, h4⟩)) ?_
                rintro _ w169 ⟨ra170, rc171, rfl, hR172, hc173, ho174⟩
                have hB175 := chg_blk hB157 hc173 (by assumption)
                have hB176 := chg_blk hB159 hc173 (by assumption)
                have hB177 := chg_blk hB161 hc173 (by assumption)
                have hB178 := chg_blk hB163 hc173 (by assumption)
                have hB179 := chg_blk hB165 hc173 (by assumption)
                have ho180 := ho168.chg hc173 (by assumption)
                refine WL.val (.pointer (some ⟨g, 0, none⟩)) rfl rfl rfl (fun za zC zh zk => nilCheck_ rfl (zh.ev rfl) zk) ?_
                refine WL.val (.pointer (some ⟨g, 1, none⟩)) rfl rfl rfl (fun za zC zh zk => fld_64_1 rfl (zh.ev rfl) zk) ?_
                refine WL.step (post := fun _ w' => Upd g w169 w' ∧ Blk w' g 64 #[.map ((some mb)), .slice ra170 ((x.st.length + 1)) rc171]) rfl rfl rfl (fun za zC zh zk => st_59 rfl (zh.ev rfl) (zh.ev rfl) hB178 (by first | decide | simp) (fun v => zk v _ ⟨Upd.at_ _ _ _ _, hB178.set_ 1 _⟩)) ?_
                rintro v184 w181 ⟨hu182, hB183⟩
                have hB185 := upd_blk hB175 hu182 (by omega)
                have hB186 := upd_blk hB176 hu182 (by omega)
                have hB187 := upd_blk hB177 hu182 (by omega)
                have hB188 := upd_blk hB179 hu182 (by omega)
                have ho189 := ho180.upd hu182 (by omega)
                refine WL.nil (WE.sub (K' := [(0, .pointer (some ⟨g, 0, none⟩)), (1, .agg #[.int .i64 p.f, .slice pa0 p.args.length pc0]), (2, .agg #[.int .i64 t.f, .slice ta0 t.args.length tc0]), (4, .pointer (some ⟨g2, 0, none⟩)), (5, .pointer (some ⟨g11, 0, none⟩)), (7, .int .i64 (((st.length : Nat) : Int))), (8, .pointer (some ⟨g44, 0, none⟩)), (9, .slice x.ta L.length x.tc), (10, .pointer (some ⟨g104, 0, none⟩)), (11, .int .i64 ((-1 - f))), (12, .pointer none), (23, .bool (((!(p.plain)) || (!(t.plain))))), (32, .bool ((decide ((0 : Int) < (((x.L.length : Nat) : Int) : Int))))), (49, .bool ((decide ((f : Int) < (0 : Int))))), (63, .bool true)]) ⟨rfl, rfl, rfl, rfl, rfl, rfl, rfl, rfl, rfl, rfl, rfl, rfl, rfl, rfl, rfl, trivial⟩ ?_)
                refine WE.next ?_
                refine WC.exit ?_
                refine WE.thenExit ?_
                refine WE.blockIs rfl ?_
                have hs190 : Chg ((fun b => b = g ∨ b = mb ∨ (Value.slice x.ra x.st.length x.rc).ownBlock = some b)) w115 w181 := (Chg.trans2 (Chg.trans2 (Chg.trans2 (Chg.trans2 (Chg.refl ((fun b => b = g ∨ b = mb ∨ (Value.slice x.ra x.st.length x.rc).ownBlock = some b)) _) hc134 (fun i h1 h2 => by first | exact h2 | exact .inl h2 | exact .inr h2 | exact .inr (.inl h2) | exact .inr (.inr h2) | ((try dsimp only at *); omega))) (Chg.ofBelow (S := fun k => k < 0) hb148) (fun i h1 h2 => by first | exact h2 | exact .inl h2 | exact .inr h2 | exact .inr (.inl h2) | exact .inr (.inr h2) | ((try dsimp only at *); omega))) hc173 (fun i h1 h2 => by first | exact h2 | exact .inl h2 | exact .inr h2 | exact .inr (.inl h2) | exact .inr (.inr h2) | ((try dsimp only at *); omega))) (Chg.ofUpd (S := fun k => k = g) hu182 rfl) (fun i h1 h2 => by first | exact h2 | exact .inl h2 | exact .inr h2 | exact .inr (.inl h2) | exact .inr (.inr h2) | ((try dsimp only at *); omega)))
                have hRg : ¬ (Value.slice ra170 (x.st.length + 1) rc171).ownBlock = some g := hR172.neBlk (w := w169) hB178 (by decide)
                have hs192 : Chg ((fun b => b = g)) w169 w181 := (Chg.trans2 (Chg.refl ((fun b => b = g)) _) (Chg.ofUpd (S := fun k => k = g) hu182 rfl) (fun i h1 h2 => by first | exact h2 | exact .inl h2 | exact .inr h2 | exact .inr (.inl h2) | exact .inr (.inr h2) | ((try dsimp only at *); omega)))
                have hts191 : TS w g mb g75 C Ps Ts st w181 { x with L := L, R := R, ra := ra170, rc := rc171, st := x.st ++ [⟨-1 - f, tt⟩], ps := x.ps ++ [.pointer (some ⟨qb, qo, none⟩)], es := es140, cl := cl141 } := TS.bind ho131 (hR172.chgOwn (fun _ _ _ _ _ q => q) hs192 (fun b q e => hRg (by subst e; exact q))) hs190 ⟨_, hgB⟩ ⟨_, _, hmB⟩ (fun b e => (ho174 b e).imp id (fun e => by have z := (Nat.le_trans hc134.size hb148.size); omega)) hE143 hf (hqP.below hb119) (by unfold I64; omega) hz2
                refine WE.round ({ x with L := L, R := R, ra := ra170, rc := rc171, st := x.st ++ [⟨-1 - f, tt⟩], ps := x.ps ++ [.pointer (some ⟨qb, qo, none⟩)], es := es140, cl := cl141 }) ⟨rfl, rfl, rfl, rfl, rfl, rfl, rfl, rfl, rfl, trivial⟩ ?_ ?_
                · exact ⟨ans_new hans hL h130 hf, by have z := ssz_top hL; (try dsimp only); simp only [List.length_append, List.length_singleton]; omega, hB185, hB186, hB187, (by have z := hB183; simpa using z), ho189, hts191⟩
                · have z := ssz_top hL; (try dsimp only); omega
            · refine WL.val (.pointer (some ⟨ob, oo, none⟩)) rfl rfl rfl (fun za zC zh zk => wp_look_im Try.underlying62 Try.underlying3 (zeroPt _) ho129 ho131.ent rfl (zh.ev rfl) (zh.ev rfl) (by rw [hlk]; exact zk)) ?_
              refine WL.val (.pointer (some ⟨ob, oo, none⟩)) rfl rfl rfl (fun za zC zh zk => wp_assign rfl (zh.ev rfl) zk) ?_
              refine WL.nil (WE.sub (K' := [(0, .pointer (some ⟨g, 0, none⟩)), (1, .agg #[.int .i64 p.f, .slice pa0 p.args.length pc0]), (2, .agg #[.int .i64 t.f, .slice ta0 t.args.length tc0]), (4, .pointer (some ⟨g2, 0, none⟩)), (5, .pointer (some ⟨g11, 0, none⟩)), (7, .int .i64 (((st.length : Nat) : Int))), (8, .pointer (some ⟨g44, 0, none⟩)), (9, .slice x.ta L.length x.tc), (10, .pointer (some ⟨g104, 0, none⟩)), (11, .int .i64 ((-1 - f))), (12, .pointer (some ⟨ob, oo, none⟩)), (23, .bool (((!(p.plain)) || (!(t.plain))))), (32, .bool ((decide ((0 : Int) < (((x.L.length : Nat) : Int) : Int))))), (49, .bool ((decide ((f : Int) < (0 : Int)))))]) ⟨rfl, rfl, rfl, rfl, rfl, rfl, rfl, rfl, rfl, rfl, rfl, rfl, rfl, rfl, trivial⟩ ?_)
              refine WE.next ?_
              refine WC.seq ?_
              refine WC.region ?_
              refine WL.val (.pointer (some ⟨ob, oo, none⟩)) rfl rfl rfl (fun za zC zh zk => wp_move rfl (zh.ev rfl) zk) ?_
              refine WL.val (.bool false) rfl rfl rfl (fun za zC zh zk => eqlp_66 rfl (zh.ev rfl) (zh.ev rfl) zk) ?_
              refine WL.nil (WE.sub (K' := [(0, .pointer (some ⟨g, 0, none⟩)), (1, .agg #[.int .i64 p.f, .slice pa0 p.args.length pc0]), (2, .agg #[.int .i64 t.f, .slice ta0 t.args.length tc0]), (4, .pointer (some ⟨g2, 0, none⟩)), (5, .pointer (some ⟨g11, 0, none⟩)), (7, .int .i64 (((st.length : Nat) : Int))), (8, .pointer (some ⟨g44, 0, none⟩)), (9, .slice x.ta L.length x.tc), (10, .pointer (some ⟨g104, 0, none⟩)), (11, .int .i64 ((-1 - f))), (12, .pointer (some ⟨ob, oo, none⟩)), (23, .bool (((!(p.plain)) || (!(t.plain))))), (32, .bool ((decide ((0 : Int) < (((x.L.length : Nat) : Int) : Int))))), (49, .bool ((decide ((f : Int) < (0 : Int))))), (63, .bool false)]) ⟨rfl, rfl, rfl, rfl, rfl, rfl, rfl, rfl, rfl, rfl, rfl, rfl, rfl, rfl, rfl, trivial⟩ ?_)
              refine WE.next ?_
              refine WC.condF rfl rfl ?_
              refine WC.seq ?_
              refine WC.opt [(true, .val (.pointer (some ⟨ob, oo, none⟩))), (true, .val (.pointer (some ⟨ob, oo, none⟩))), (true, .val (.agg #[.int .i64 o.f, .slice oa o.args.length oc])), (true, .val (.pointer (some ⟨g104, 1, none⟩))), (true, .val (.pointer (some ⟨qb, qo, none⟩))), (true, .val (.pointer (some ⟨qb, qo, none⟩))), (true, .val (.agg #[.int .i64 tt.f, .slice qa tt.args.length qc])), (true, .val (.bool ((T.same o tt)))), (true, .val (.bool ((!(T.same o tt)))))] [(0, .pointer (some ⟨g, 0, none⟩)), (1, .agg #[.int .i64 p.f, .slice pa0 p.args.length pc0]), (2, .agg #[.int .i64 t.f, .slice ta0 t.args.length tc0]), (4, .pointer (some ⟨g2, 0, none⟩)), (5, .pointer (some ⟨g11, 0, none⟩)), (7, .int .i64 (((st.length : Nat) : Int))), (8, .pointer (some ⟨g44, 0, none⟩)), (9, .slice x.ta L.length x.tc), (10, .pointer (some ⟨g104, 0, none⟩)), (11, .int .i64 ((-1 - f))), (12, .pointer (some ⟨ob, oo, none⟩)), (23, .bool (((!(p.plain)) || (!(t.plain))))), (32, .bool ((decide ((0 : Int) < (((x.L.length : Nat) : Int) : Int))))), (49, .bool ((decide ((f : Int) < (0 : Int))))), (63, .bool false)] ⟨rfl, rfl, rfl, rfl, rfl, rfl, rfl, rfl, rfl, rfl, rfl, rfl, rfl, rfl, rfl, trivial⟩ (by kernel_rfl) (by kernel_rfl) (by kernel_rfl) ?_ ?_
              · refine ⟨⟨true, .none rfl, fun h w => optUndef h, fun zβ za zw zc => ?_⟩, ?_⟩
                · exact wp_move rfl (zc.kn.ev rfl) ⟨_, rfl, Below.refl _ _, optDef zβ rfl⟩
                refine ⟨⟨true, .none rfl, fun h w => optUndef h, fun zβ za zw zc => ?_⟩, ?_⟩
                · exact nilCheck_ rfl ((show za.eval (.tmp 81) = za.tmps.getD 81 undef from rfl).trans (optVal (zc.dep 0 81 (by kernel_rfl)) rfl rfl)) ⟨_, rfl, Below.refl _ _, optDef zβ rfl⟩
                refine ⟨⟨true, .none rfl, fun h w => optUndef h, fun zβ za zw zc => ?_⟩, ?_⟩
                · exact ld_24 rfl ((show za.eval (.tmp 82) = za.tmps.getD 82 undef from rfl).trans (optVal (zc.dep 1 82 (by kernel_rfl)) rfl rfl)) (bkeeps zc.below _ _ ho1) (bkeeps zc.below _ _ ho2) ⟨_, rfl, Below.refl _ _, optDef zβ rfl⟩
                refine ⟨⟨true, .none rfl, fun h w => optUndef h, fun zβ za zw zc => ?_⟩, ?_⟩
                · exact fld_69_1 rfl (zc.kn.ev rfl) ⟨_, rfl, Below.refl _ _, optDef zβ rfl⟩
                refine ⟨⟨true, .none rfl, fun h w => optUndef h, fun zβ za zw zc => ?_⟩, ?_⟩
                · exact ld_66 rfl ((show za.eval (.tmp 84) = za.tmps.getD 84 undef from rfl).trans (optVal (zc.dep 3 84 (by kernel_rfl)) rfl rfl)) (bkeeps zc.below _ _ ((hB117.cell 1).trans rfl)) ⟨_, rfl, Below.refl _ _, optDef zβ rfl⟩
                refine ⟨⟨true, .none rfl, fun h w => optUndef h, fun zβ za zw zc => ?_⟩, ?_⟩
                · exact nilCheck_ rfl ((show za.eval (.tmp 85) = za.tmps.getD 85 undef from rfl).trans (optVal (zc.dep 4 85 (by kernel_rfl)) rfl rfl)) ⟨_, rfl, Below.refl _ _, optDef zβ rfl⟩
                refine ⟨⟨true, .none rfl, fun h w => optUndef h, fun zβ za zw zc => ?_⟩, ?_⟩
                · exact ld_24 rfl ((show za.eval (.tmp 86) = za.tmps.getD 86 undef from rfl).trans (optVal (zc.dep 5 86 (by kernel_rfl)) rfl rfl)) (bkeeps (bstep hb119 zc.below) _ _ hq1) (bkeeps (bstep hb119 zc.below) _ _ hq2) ⟨_, rfl, Below.refl _ _, optDef zβ rfl⟩
                refine ⟨⟨true, .none rfl, fun h w => optUndef h, fun zβ za zw zc => ?_⟩, ?_⟩
                · exact wp_call (by kernel_rfl) rfl (hv2 ((show za.eval (.tmp 83) = za.tmps.getD 83 undef from rfl).trans (optVal (zc.dep 2 83 (by kernel_rfl)) rfl rfl)) ((show za.eval (.tmp 87) = za.tmps.getD 87 undef from rfl).trans (optVal (zc.dep 6 87 (by kernel_rfl)) rfl rfl))) (ret_of (same_any o tt _ _ _ (IsT.below zc.below ho3) (IsT.below (bstep hb119 zc.below) (InT.isT hqT)))) (fun v w' h => ⟨v, rfl, h.2, optDef zβ h.1⟩)
                refine ⟨⟨true, .none rfl, fun h w => optUndef h, fun zβ za zw zc => ?_⟩, ?_⟩
                · exact wp_not rfl ((show za.eval (.tmp 88) = za.tmps.getD 88 undef from rfl).trans (optVal (zc.dep 7 88 (by kernel_rfl)) rfl rfl)) ⟨_, rfl, Below.refl _ _, optDef zβ rfl⟩
                exact trivial
              · intro za w193 zh hb194 zu
                have zh := zh.cons (d := 89) (v := .bool ((!(T.same o tt)))) (optVal (zu 8 89 (by kernel_rfl)) rfl rfl)
                clear zu
                refine (show WE _ [(0, .pointer (some ⟨g, 0, none⟩)), (1, .agg #[.int .i64 p.f, .slice pa0 p.args.length pc0]), (2, .agg #[.int .i64 t.f, .slice ta0 t.args.length tc0]), (4, .pointer (some ⟨g2, 0, none⟩)), (5, .pointer (some ⟨g11, 0, none⟩)), (7, .int .i64 (((st.length : Nat) : Int))), (8, .pointer (some ⟨g44, 0, none⟩)), (9, .slice x.ta L.length x.tc), (10, .pointer (some ⟨g104, 0, none⟩)), (11, .int .i64 ((-1 - f))), (12, .pointer (some ⟨ob, oo, none⟩)), (23, .bool (((!(p.plain)) || (!(t.plain))))), (32, .bool ((decide ((0 : Int) < (((x.L.length : Nat) : Int) : Int))))), (49, .bool ((decide ((f : Int) < (0 : Int))))), (63, .bool false), (89, .bool ((!(T.same o tt))))] w193 _ .normal from ?_) za (zh.sub ⟨rfl, rfl, rfl, rfl, rfl, rfl, rfl, rfl, rfl, rfl, rfl, rfl, rfl, rfl, rfl, rfl, trivial⟩)
                refine WE.next ?_
                refine WC.cond rfl (fun h195 => ?_) (fun h195 => ?_)
                · have h195 : ¬ ((T.same o tt) = true) := by simpa using h195
                  refine WC.seq ?_
                  refine WC.region ?_
                  refine WL.val (.pointer (some ⟨g, 0, none⟩)) rfl rfl rfl (fun za zC zh zk => wp_move rfl (zh.ev rfl) zk) ?_
                  refine WL.val (.int .i64 (((st.length : Nat) : Int))) rfl rfl rfl (fun za zC zh zk => wp_move rfl (zh.ev rfl) zk) ?_
                  have ho196 := ho131.below hb194
                  have hB197 := hB127.below hb194
                  have ho198 := ho129.below hb194
                  have hma := ho196.mat hB197 ho198 hTs0
                  refine WL.call rfl rfl rfl (fun za zh zC => wp_call (by kernel_rfl) rfl (hv2 (zh.ev rfl) (zh.ev rfl))) (back_any (st.length : Nat) _ hma) ?_
                  rintro _ w199 ⟨hmb, hcb⟩
                  refine WL.nil (WE.sub (K' := [(0, .pointer (some ⟨g, 0, none⟩)), (1, .agg #[.int .i64 p.f, .slice pa0 p.args.length pc0]), (2, .agg #[.int .i64 t.f, .slice ta0 t.args.length tc0]), (4, .pointer (some ⟨g2, 0, none⟩)), (5, .pointer (some ⟨g11, 0, none⟩)), (7, .int .i64 (((st.length : Nat) : Int))), (8, .pointer (some ⟨g44, 0, none⟩)), (9, .slice x.ta L.length x.tc), (10, .pointer (some ⟨g104, 0, none⟩)), (11, .int .i64 ((-1 - f))), (12, .pointer (some ⟨ob, oo, none⟩)), (23, .bool (((!(p.plain)) || (!(t.plain))))), (32, .bool ((decide ((0 : Int) < (((x.L.length : Nat) : Int) : Int))))), (49, .bool ((decide ((f : Int) < (0 : Int))))), (63, .bool false), (89, .bool ((!(T.same o tt))))]) ⟨rfl, rfl, rfl, rfl, rfl, rfl, rfl, rfl, rfl, rfl, rfl, rfl, rfl, rfl, rfl, rfl, trivial⟩ ?_)
                  refine WE.next ?_
                  refine WC.seq ?_
                  refine WC.region ?_
                  refine WL.val (.bool false) rfl rfl rfl (fun za zC zh zk => wp_assign rfl (zh.ev rfl) zk) ?_
                  refine WL.nil (WE.sub (K' := [(0, .pointer (some ⟨g, 0, none⟩)), (1, .agg #[.int .i64 p.f, .slice pa0 p.args.length pc0]), (2, .agg #[.int .i64 t.f, .slice ta0 t.args.length tc0]), (4, .pointer (some ⟨g2, 0, none⟩)), (5, .pointer (some ⟨g11, 0, none⟩)), (6, .bool false), (7, .int .i64 (((st.length : Nat) : Int))), (8, .pointer (some ⟨g44, 0, none⟩)), (9, .slice x.ta L.length x.tc), (10, .pointer (some ⟨g104, 0, none⟩)), (11, .int .i64 ((-1 - f))), (12, .pointer (some ⟨ob, oo, none⟩)), (23, .bool (((!(p.plain)) || (!(t.plain))))), (32, .bool ((decide ((0 : Int) < (((x.L.length : Nat) : Int) : Int))))), (49, .bool ((decide ((f : Int) < (0 : Int))))), (63, .bool false), (89, .bool ((!(T.same o tt))))]) ⟨rfl, rfl, rfl, rfl, rfl, rfl, rfl, rfl, rfl, rfl, rfl, rfl, rfl, rfl, rfl, rfl, rfl, trivial⟩ ?_)
                  refine WE.next ?_
                  refine WC.ret ?_
                  refine WE.thenRet ?_
                  refine WE.thenRet ?_
                  refine WE.blockRet ?_
                  refine WE.thenRet ?_
                  refine WE.blockRet ?_
                  refine WE.thenRet ?_
                  refine WE.scopeRet ?_
                  refine WE.ret1 rfl rfl ?_
                  have hfin := fin_no (p := p) (t := t) (st := st) hpl1 hpl2 (ans_bad hans hL h130 hf (by simpa using h195))
                  have hpre : x.st.take st.length = st := ho196.pre
                  have hlp : st.length ≤ x.st.length := by have z := congrArg List.length hpre; simp at z; omega
                  refine ⟨_, rfl, ⟨(fun b => C b ∨ (w.heap.size ≤ b ∧ b < w193.heap.size)), congrArg Value.bool hfin.1.symm, ?_, fun b q => q.imp id (fun q => q.1)⟩, ho196.chg.trans2 hcb (by rintro b hb (q | q); exact q; omega)⟩
                  rw [hfin.2]
                  rw [backTo_nat hlp, hpre] at hmb; exact hmb
                · have h195 : ¬ (¬ ((T.same o tt) = true)) := by simpa using h195
                  refine WC.skip ?_
                  refine WE.next ?_
                  refine WC.exit ?_
                  refine WE.thenExit ?_
                  refine WE.blockIs rfl ?_
                  refine WE.round ({ x with L := L, R := R }) ⟨rfl, rfl, rfl, rfl, rfl, rfl, rfl, rfl, rfl, trivial⟩ ?_ ?_
                  · have hB200 := hB121.below hb194
                    have hB201 := hB123.below hb194
                    have hB202 := hB125.below hb194
                    have hB203 := hB127.below hb194
                    have ho204 := ho129.below hb194
                    have ho205 := ho131.below hb194
                    exact ⟨ans_old hans hL h130 hf (by simpa using h195), by have z := ssz_top hL; (try dsimp only); omega, hB200, hB201, hB202, hB203, ho204, ho205⟩
                  · have z := ssz_top hL; (try dsimp only); omega
          · have h130 : ¬ ((f : Int) < (0 : Int)) := by simpa using h130
            refine WC.skip ?_
            refine WE.next ?_
            refine WC.seq ?_
            refine WC.seq ?_
            refine WC.opt [(true, .val (.pointer (some ⟨g104, 0, none⟩))), (true, .val (.pointer (some ⟨pb, po, none⟩))), (true, .val (.pointer (some ⟨pb, po, none⟩))), (true, .val (.pointer (some ⟨pb, po, none⟩))), (true, .val (.int .i64 f)), (true, .val (.pointer (some ⟨g104, 1, none⟩))), (true, .val (.pointer (some ⟨qb, qo, none⟩))), (true, .val (.pointer (some ⟨qb, qo, none⟩))), (true, .val (.pointer (some ⟨qb, qo, none⟩))), (true, .val (.int .i64 tt.f)), (true, .val (.bool (((f : Int) != (tt.f : Int))))), (true, .val (.bool (((f : Int) != (tt.f : Int))))), ((true && !((f : Int) != (tt.f : Int))), .val (.pointer (some ⟨g104, 0, none⟩))), ((true && !((f : Int) != (tt.f : Int))), .val (.pointer (some ⟨pb, po, none⟩))), ((true && !((f : Int) != (tt.f : Int))), .val (.pointer (some ⟨pb, po, none⟩))), ((true && !((f : Int) != (tt.f : Int))), .val (.pointer (some ⟨pb, po + 1, none⟩))), ((true && !((f : Int) != (tt.f : Int))), .val (.slice pa l.length pc)), ((true && !((f : Int) != (tt.f : Int))), .val (.int .i64 (((l.length : Nat) : Int)))), ((true && !((f : Int) != (tt.f : Int))), .val (.pointer (some ⟨g104, 1, none⟩))), ((true && !((f : Int) != (tt.f : Int))), .val (.pointer (some ⟨qb, qo, none⟩))), ((true && !((f : Int) != (tt.f : Int))), .val (.pointer (some ⟨qb, qo, none⟩))), ((true && !((f : Int) != (tt.f : Int))), .val (.pointer (some ⟨qb, qo + 1, none⟩))), ((true && !((f : Int) != (tt.f : Int))), .val (.slice qa tt.args.length qc)), ((true && !((f : Int) != (tt.f : Int))), .val (.int .i64 (((tt.args.length : Nat) : Int)))), ((true && !((f : Int) != (tt.f : Int))), .val (.bool (((((l.length : Nat) : Int) : Int) != (((tt.args.length : Nat) : Int) : Int))))), (true, .val (.bool ((((f : Int) != (tt.f : Int)) || ((((l.length : Nat) : Int) : Int) != (((tt.args.length : Nat) : Int) : Int))))))] [(0, .pointer (some ⟨g, 0, none⟩)), (1, .agg #[.int .i64 p.f, .slice pa0 p.args.length pc0]), (2, .agg #[.int .i64 t.f, .slice ta0 t.args.length tc0]), (4, .pointer (some ⟨g2, 0, none⟩)), (5, .pointer (some ⟨g11, 0, none⟩)), (7, .int .i64 (((st.length : Nat) : Int))), (8, .pointer (some ⟨g44, 0, none⟩)), (9, .slice x.ta L.length x.tc), (10, .pointer (some ⟨g104, 0, none⟩)), (23, .bool (((!(p.plain)) || (!(t.plain))))), (32, .bool ((decide ((0 : Int) < (((x.L.length : Nat) : Int) : Int))))), (49, .bool ((decide ((f : Int) < (0 : Int)))))] ⟨rfl, rfl, rfl, rfl, rfl, rfl, rfl, rfl, rfl, rfl, rfl, rfl, trivial⟩ (by kernel_rfl) (by kernel_rfl) (by kernel_rfl) ?_ ?_
            · refine ⟨⟨true, .none rfl, fun h w => optUndef h, fun zβ za zw zc => ?_⟩, ?_⟩
              · exact fld_69_0 rfl (zc.kn.ev rfl) ⟨_, rfl, Below.refl _ _, optDef zβ rfl⟩
              refine ⟨⟨true, .none rfl, fun h w => optUndef h, fun zβ za zw zc => ?_⟩, ?_⟩
              · exact ld_66 rfl ((show za.eval (.tmp 93) = za.tmps.getD 93 undef from rfl).trans (optVal (zc.dep 0 93 (by kernel_rfl)) rfl rfl)) (bkeeps zc.below _ _ ((hB117.cell 0).trans rfl)) ⟨_, rfl, Below.refl _ _, optDef zβ rfl⟩
              refine ⟨⟨true, .none rfl, fun h w => optUndef h, fun zβ za zw zc => ?_⟩, ?_⟩
              · exact nilCheck_ rfl ((show za.eval (.tmp 94) = za.tmps.getD 94 undef from rfl).trans (optVal (zc.dep 1 94 (by kernel_rfl)) rfl rfl)) ⟨_, rfl, Below.refl _ _, optDef zβ rfl⟩
              refine ⟨⟨true, .none rfl, fun h w => optUndef h, fun zβ za zw zc => ?_⟩, ?_⟩
              · exact fld_24_0 rfl ((show za.eval (.tmp 95) = za.tmps.getD 95 undef from rfl).trans (optVal (zc.dep 2 95 (by kernel_rfl)) rfl rfl)) ⟨_, rfl, Below.refl _ _, optDef zβ rfl⟩
              refine ⟨⟨true, .none rfl, fun h w => optUndef h, fun zβ za zw zc => ?_⟩, ?_⟩
              · exact ld_3 rfl ((show za.eval (.tmp 96) = za.tmps.getD 96 undef from rfl).trans (optVal (zc.dep 3 96 (by kernel_rfl)) rfl rfl)) (bkeeps (bstep hb119 zc.below) _ _ hp1) ⟨_, rfl, Below.refl _ _, optDef zβ rfl⟩
              refine ⟨⟨true, .none rfl, fun h w => optUndef h, fun zβ za zw zc => ?_⟩, ?_⟩
              · exact fld_69_1 rfl (zc.kn.ev rfl) ⟨_, rfl, Below.refl _ _, optDef zβ rfl⟩
              refine ⟨⟨true, .none rfl, fun h w => optUndef h, fun zβ za zw zc => ?_⟩, ?_⟩
              · exact ld_66 rfl ((show za.eval (.tmp 98) = za.tmps.getD 98 undef from rfl).trans (optVal (zc.dep 5 98 (by kernel_rfl)) rfl rfl)) (bkeeps zc.below _ _ ((hB117.cell 1).trans rfl)) ⟨_, rfl, Below.refl _ _, optDef zβ rfl⟩
              refine ⟨⟨true, .none rfl, fun h w => optUndef h, fun zβ za zw zc => ?_⟩, ?_⟩
              · exact nilCheck_ rfl ((show za.eval (.tmp 99) = za.tmps.getD 99 undef from rfl).trans (optVal (zc.dep 6 99 (by kernel_rfl)) rfl rfl)) ⟨_, rfl, Below.refl _ _, optDef zβ rfl⟩
              refine ⟨⟨true, .none rfl, fun h w => optUndef h, fun zβ za zw zc => ?_⟩, ?_⟩
              · exact fld_24_0 rfl ((show za.eval (.tmp 100) = za.tmps.getD 100 undef from rfl).trans (optVal (zc.dep 7 100 (by kernel_rfl)) rfl rfl)) ⟨_, rfl, Below.refl _ _, optDef zβ rfl⟩
              refine ⟨⟨true, .none rfl, fun h w => optUndef h, fun zβ za zw zc => ?_⟩, ?_⟩
              · exact ld_3 rfl ((show za.eval (.tmp 101) = za.tmps.getD 101 undef from rfl).trans (optVal (zc.dep 8 101 (by kernel_rfl)) rfl rfl)) (bkeeps (bstep hb119 zc.below) _ _ hq1) ⟨_, rfl, Below.refl _ _, optDef zβ rfl⟩
              refine ⟨⟨true, .none rfl, fun h w => optUndef h, fun zβ za zw zc => ?_⟩, ?_⟩
              · exact neq_3 rfl ((show za.eval (.tmp 97) = za.tmps.getD 97 undef from rfl).trans (optVal (zc.dep 4 97 (by kernel_rfl)) rfl rfl)) ((show za.eval (.tmp 102) = za.tmps.getD 102 undef from rfl).trans (optVal (zc.dep 9 102 (by kernel_rfl)) rfl rfl)) ⟨_, rfl, Below.refl _ _, optDef zβ rfl⟩
              refine ⟨⟨true, .none rfl, fun h w => optUndef h, fun zβ za zw zc => ?_⟩, ?_⟩
              · exact wp_move rfl ((show za.eval (.tmp 103) = za.tmps.getD 103 undef from rfl).trans (optVal (zc.dep 10 103 (by kernel_rfl)) rfl rfl)) ⟨_, rfl, Below.refl _ _, optDef zβ rfl⟩
              refine ⟨⟨(true && !((f : Int) != (tt.f : Int))), .no (c := ((f : Int) != (tt.f : Int))) (d := true) rfl (fun v w h => h), fun h w => optUndef h, fun zβ za zw zc => ?_⟩, ?_⟩
              · exact fld_69_0 rfl (zc.kn.ev rfl) ⟨_, rfl, Below.refl _ _, optDef zβ rfl⟩
              refine ⟨⟨(true && !((f : Int) != (tt.f : Int))), .no (c := ((f : Int) != (tt.f : Int))) (d := true) rfl (fun v w h => h), fun h w => optUndef h, fun zβ za zw zc => ?_⟩, ?_⟩
              · exact ld_66 rfl ((show za.eval (.tmp 105) = za.tmps.getD 105 undef from rfl).trans (optVal (zc.dep 12 105 (by kernel_rfl)) rfl zβ)) (bkeeps zc.below _ _ ((hB117.cell 0).trans rfl)) ⟨_, rfl, Below.refl _ _, optDef zβ rfl⟩
              refine ⟨⟨(true && !((f : Int) != (tt.f : Int))), .no (c := ((f : Int) != (tt.f : Int))) (d := true) rfl (fun v w h => h), fun h w => optUndef h, fun zβ za zw zc => ?_⟩, ?_⟩
              · exact nilCheck_ rfl ((show za.eval (.tmp 106) = za.tmps.getD 106 undef from rfl).trans (optVal (zc.dep 13 106 (by kernel_rfl)) rfl zβ)) ⟨_, rfl, Below.refl _ _, optDef zβ rfl⟩
              refine ⟨⟨(true && !((f : Int) != (tt.f : Int))), .no (c := ((f : Int) != (tt.f : Int))) (d := true) rfl (fun v w h => h), fun h w => optUndef h, fun zβ za zw zc => ?_⟩, ?_⟩
              · exact fld_24_1 rfl ((show za.eval (.tmp 107) = za.tmps.getD 107 undef from rfl).trans (optVal (zc.dep 14 107 (by kernel_rfl)) rfl zβ)) ⟨_, rfl, Below.refl _ _, optDef zβ rfl⟩
              refine ⟨⟨(true && !((f : Int) != (tt.f : Int))), .no (c := ((f : Int) != (tt.f : Int))) (d := true) rfl (fun v w h => h), fun h w => optUndef h, fun zβ za zw zc => ?_⟩, ?_⟩
              · exact ld_22 rfl ((show za.eval (.tmp 108) = za.tmps.getD 108 undef from rfl).trans (optVal (zc.dep 15 108 (by kernel_rfl)) rfl zβ)) (bkeeps (bstep hb119 zc.below) _ _ hp2) ⟨_, rfl, Below.refl _ _, optDef zβ rfl⟩
              refine ⟨⟨(true && !((f : Int) != (tt.f : Int))), .no (c := ((f : Int) != (tt.f : Int))) (d := true) rfl (fun v w h => h), fun h w => optUndef h, fun zβ za zw zc => ?_⟩, ?_⟩
              · exact len_22 rfl ((show za.eval (.tmp 109) = za.tmps.getD 109 undef from rfl).trans (optVal (zc.dep 16 109 (by kernel_rfl)) rfl zβ)) ⟨_, rfl, Below.refl _ _, optDef zβ rfl⟩
              refine ⟨⟨(true && !((f : Int) != (tt.f : Int))), .no (c := ((f : Int) != (tt.f : Int))) (d := true) rfl (fun v w h => h), fun h w => optUndef h, fun zβ za zw zc => ?_⟩, ?_⟩
              · exact fld_69_1 rfl (zc.kn.ev rfl) ⟨_, rfl, Below.refl _ _, optDef zβ rfl⟩
              refine ⟨⟨(true && !((f : Int) != (tt.f : Int))), .no (c := ((f : Int) != (tt.f : Int))) (d := true) rfl (fun v w h => h), fun h w => optUndef h, fun zβ za zw zc => ?_⟩, ?_⟩
              · exact ld_66 rfl ((show za.eval (.tmp 111) = za.tmps.getD 111 undef from rfl).trans (optVal (zc.dep 18 111 (by kernel_rfl)) rfl zβ)) (bkeeps zc.below _ _ ((hB117.cell 1).trans rfl)) ⟨_, rfl, Below.refl _ _, optDef zβ rfl⟩
              refine ⟨⟨(true && !((f : Int) != (tt.f : Int))), .no (c := ((f : Int) != (tt.f : Int))) (d := true) rfl (fun v w h => h), fun h w => optUndef h, fun zβ za zw zc => ?_⟩, ?_⟩
              · exact nilCheck_ rfl ((show za.eval (.tmp 112) = za.tmps.getD 112 undef from rfl).trans (optVal (zc.dep 19 112 (by kernel_rfl)) rfl zβ)) ⟨_, rfl, Below.refl _ _, optDef zβ rfl⟩
              refine ⟨⟨(true && !((f : Int) != (tt.f : Int))), .no (c := ((f : Int) != (tt.f : Int))) (d := true) rfl (fun v w h => h), fun h w => optUndef h, fun zβ za zw zc => ?_⟩, ?_⟩
              · exact fld_24_1 rfl ((show za.eval (.tmp 113) = za.tmps.getD 113 undef from rfl).trans (optVal (zc.dep 20 113 (by kernel_rfl)) rfl zβ)) ⟨_, rfl, Below.refl _ _, optDef zβ rfl⟩
              refine ⟨⟨(true && !((f : Int) != (tt.f : Int))), .no (c := ((f : Int) != (tt.f : Int))) (d := true) rfl (fun v w h => h), fun h w => optUndef h, fun zβ za zw zc => ?_⟩, ?_⟩
              · exact ld_22 rfl ((show za.eval (.tmp 114) = za.tmps.getD 114 undef from rfl).trans (optVal (zc.dep 21 114 (by kernel_rfl)) rfl zβ)) (bkeeps (bstep hb119 zc.below) _ _ hq2) ⟨_, rfl, Below.refl _ _, optDef zβ rfl⟩
              refine ⟨⟨(true && !((f : Int) != (tt.f : Int))), .no (c := ((f : Int) != (tt.f : Int))) (d := true) rfl (fun v w h => h), fun h w => optUndef h, fun zβ za zw zc => ?_⟩, ?_⟩
              · exact len_22 rfl ((show za.eval (.tmp 115) = za.tmps.getD 115 undef from rfl).trans (optVal (zc.dep 22 115 (by kernel_rfl)) rfl zβ)) ⟨_, rfl, Below.refl _ _, optDef zβ rfl⟩
              refine ⟨⟨(true && !((f : Int) != (tt.f : Int))), .no (c := ((f : Int) != (tt.f : Int))) (d := true) rfl (fun v w h => h), fun h w => optUndef h, fun zβ za zw zc => ?_⟩, ?_⟩
              · exact neq_3 rfl ((show za.eval (.tmp 110) = za.tmps.getD 110 undef from rfl).trans (optVal (zc.dep 17 110 (by kernel_rfl)) rfl zβ)) ((show za.eval (.tmp 116) = za.tmps.getD 116 undef from rfl).trans (optVal (zc.dep 23 116 (by kernel_rfl)) rfl zβ)) ⟨_, rfl, Below.refl _ _, optDef zβ rfl⟩
              refine ⟨⟨true, .none rfl, fun h w => optUndef h, fun zβ za zw zc => ?_⟩, ?_⟩
              · exact wp_or rfl ((show za.eval (.tmp 104) = za.tmps.getD 104 undef from rfl).trans (optVal (zc.dep 11 104 (by kernel_rfl)) rfl rfl)) (fun hp => ((show za.eval (.tmp 117) = za.tmps.getD 117 undef from rfl).trans (optVal (zc.dep 24 117 (by kernel_rfl)) rfl (bMkN zβ hp)))) ⟨_, rfl, Below.refl _ _, optDef zβ rfl⟩
              exact trivial
            · intro za w206 zh hb207 zu
              have zh := zh.cons (d := 118) (v := .bool ((((f : Int) != (tt.f : Int)) || ((((l.length : Nat) : Int) : Int) != (((tt.args.length : Nat) : Int) : Int))))) (optVal (zu 25 118 (by kernel_rfl)) rfl rfl)
              clear zu
              refine (show WE _ [(0, .pointer (some ⟨g, 0, none⟩)), (1, .agg #[.int .i64 p.f, .slice pa0 p.args.length pc0]), (2, .agg #[.int .i64 t.f, .slice ta0 t.args.length tc0]), (4, .pointer (some ⟨g2, 0, none⟩)), (5, .pointer (some ⟨g11, 0, none⟩)), (7, .int .i64 (((st.length : Nat) : Int))), (8, .pointer (some ⟨g44, 0, none⟩)), (9, .slice x.ta L.length x.tc), (10, .pointer (some ⟨g104, 0, none⟩)), (23, .bool (((!(p.plain)) || (!(t.plain))))), (32, .bool ((decide ((0 : Int) < (((x.L.length : Nat) : Int) : Int))))), (49, .bool ((decide ((f : Int) < (0 : Int))))), (118, .bool ((((f : Int) != (tt.f : Int)) || ((((l.length : Nat) : Int) : Int) != (((tt.args.length : Nat) : Int) : Int)))))] w206 _ .normal from ?_) za (zh.sub ⟨rfl, rfl, rfl, rfl, rfl, rfl, rfl, rfl, rfl, rfl, rfl, rfl, rfl, trivial⟩)
              refine WE.next ?_
              refine WC.cond rfl (fun h208 => ?_) (fun h208 => ?_)
              · have h208 : ((f : Int) ≠ (tt.f : Int)) ∨ ((((l.length : Nat) : Int) : Int) ≠ (((tt.args.length : Nat) : Int) : Int)) := by simpa using h208
                (try simp at h208)
                refine WC.seq ?_
                refine WC.region ?_
                refine WL.val (.pointer (some ⟨g, 0, none⟩)) rfl rfl rfl (fun za zC zh zk => wp_move rfl (zh.ev rfl) zk) ?_
                refine WL.val (.int .i64 (((st.length : Nat) : Int))) rfl rfl rfl (fun za zC zh zk => wp_move rfl (zh.ev rfl) zk) ?_
                have hb210 : Below w92.heap.size w92 w206 := (bstep hb119 hb207)
                have ho209 := hts.below hb210
                have hB211 := hB127.below hb207
                have ho212 := ho129.below hb207
                have hma := ho209.mat hB211 ho212 hTs0
                refine WL.call rfl rfl rfl (fun za zh zC => wp_call (by kernel_rfl) rfl (hv2 (zh.ev rfl) (zh.ev rfl))) (back_any (st.length : Nat) _ hma) ?_
                rintro _ w213 ⟨hmb, hcb⟩
                refine WL.nil (WE.sub (K' := [(0, .pointer (some ⟨g, 0, none⟩)), (1, .agg #[.int .i64 p.f, .slice pa0 p.args.length pc0]), (2, .agg #[.int .i64 t.f, .slice ta0 t.args.length tc0]), (4, .pointer (some ⟨g2, 0, none⟩)), (5, .pointer (some ⟨g11, 0, none⟩)), (7, .int .i64 (((st.length : Nat) : Int))), (8, .pointer (some ⟨g44, 0, none⟩)), (9, .slice x.ta L.length x.tc), (10, .pointer (some ⟨g104, 0, none⟩)), (23, .bool (((!(p.plain)) || (!(t.plain))))), (32, .bool ((decide ((0 : Int) < (((x.L.length : Nat) : Int) : Int))))), (49, .bool ((decide ((f : Int) < (0 : Int))))), (118, .bool ((((f : Int) != (tt.f : Int)) || ((((l.length : Nat) : Int) : Int) != (((tt.args.length : Nat) : Int) : Int)))))]) ⟨rfl, rfl, rfl, rfl, rfl, rfl, rfl, rfl, rfl, rfl, rfl, rfl, rfl, trivial⟩ ?_)
                refine WE.next ?_
                refine WC.seq ?_
                refine WC.region ?_
                refine WL.val (.bool false) rfl rfl rfl (fun za zC zh zk => wp_assign rfl (zh.ev rfl) zk) ?_
                refine WL.nil (WE.sub (K' := [(0, .pointer (some ⟨g, 0, none⟩)), (1, .agg #[.int .i64 p.f, .slice pa0 p.args.length pc0]), (2, .agg #[.int .i64 t.f, .slice ta0 t.args.length tc0]), (4, .pointer (some ⟨g2, 0, none⟩)), (5, .pointer (some ⟨g11, 0, none⟩)), (6, .bool false), (7, .int .i64 (((st.length : Nat) : Int))), (8, .pointer (some ⟨g44, 0, none⟩)), (9, .slice x.ta L.length x.tc), (10, .pointer (some ⟨g104, 0, none⟩)), (23, .bool (((!(p.plain)) || (!(t.plain))))), (32, .bool ((decide ((0 : Int) < (((x.L.length : Nat) : Int) : Int))))), (49, .bool ((decide ((f : Int) < (0 : Int))))), (118, .bool ((((f : Int) != (tt.f : Int)) || ((((l.length : Nat) : Int) : Int) != (((tt.args.length : Nat) : Int) : Int)))))]) ⟨rfl, rfl, rfl, rfl, rfl, rfl, rfl, rfl, rfl, rfl, rfl, rfl, rfl, rfl, trivial⟩ ?_)
                refine WE.next ?_
                refine WC.ret ?_
                refine WE.thenRet ?_
                refine WE.blockRet ?_
                refine WE.thenRet ?_
                refine WE.blockRet ?_
                refine WE.thenRet ?_
                refine WE.scopeRet ?_
                refine WE.ret1 rfl rfl ?_
                have hfin := fin_no (p := p) (t := t) (st := st) hpl1 hpl2 (ans_off hans hL h130 (fun hh => by have z := h208; simp [hh.1, hh.2] at z))
                have hpre : x.st.take st.length = st := ho209.pre
                have hlp : st.length ≤ x.st.length := by have z := congrArg List.length hpre; simp at z; omega
                refine ⟨_, rfl, ⟨(fun b => C b ∨ (w.heap.size ≤ b ∧ b < w206.heap.size)), congrArg Value.bool hfin.1.symm, ?_, fun b q => q.imp id (fun q => q.1)⟩, ho209.chg.trans2 hcb (by rintro b hb (q | q); exact q; omega)⟩
                rw [hfin.2]
                rw [backTo_nat hlp, hpre] at hmb; exact hmb
              · have h208 : ¬ (((f : Int) ≠ (tt.f : Int)) ∨ ((((l.length : Nat) : Int) : Int) ≠ (((tt.args.length : Nat) : Int) : Int))) := by simpa using h208
                (try simp at h208)
                refine WC.skip ?_
                refine WE.next ?_
                refine WC.seq ?_
                have hl1 := len_le_sizeL l
                have hz1b := hz1
                simp only [T.size] at hz1b
                refine WC.region ?_
                refine WL.val (.pointer (some ⟨g104, 0, none⟩)) rfl rfl rfl (fun za zC zh zk => fld_69_0 rfl (zh.ev rfl) zk) ?_
                have hB214 := hB117.below hb207
                refine WL.val (.pointer (some ⟨pb, po, none⟩)) rfl rfl rfl (fun za zC zh zk => ld_66 rfl (zh.ev rfl) ((hB214.cell 0).trans rfl) zk) ?_
                refine WL.val (.pointer (some ⟨pb, po, none⟩)) rfl rfl rfl (fun za zC zh zk => nilCheck_ rfl (zh.ev rfl) zk) ?_
                refine WL.val (.pointer (some ⟨pb, po + 1, none⟩)) rfl rfl rfl (fun za zC zh zk => fld_24_1 rfl (zh.ev rfl) zk) ?_
                have hb215 : Below w92.heap.size w92 w206 := (bstep hb119 hb207)
                refine WL.val (.slice pa l.length pc) rfl rfl rfl (fun za zC zh zk => ld_22 rfl (zh.ev rfl) (bkeeps hb215 _ _ hp2) zk) ?_
                refine WL.val (.int .i64 (((l.length : Nat) : Int))) rfl rfl rfl (fun za zC zh zk => len_22 rfl (zh.ev rfl) zk) ?_
                refine WL.val (.int .i64 (((l.length : Int) - 1))) rfl rfl rfl (fun za zC zh zk => subb_3 rfl (zh.ev rfl) (zh.ev rfl) (wrap_eq rfl (by omega) (by omega)) zk) ?_
                refine WL.val (.int .i64 (((l.length : Int) - 1))) rfl rfl rfl (fun za zC zh zk => wp_assign rfl (zh.ev rfl) zk) ?_
                refine WL.nil (WE.sub (K' := [(0, .pointer (some ⟨g, 0, none⟩)), (1, .agg #[.int .i64 p.f, .slice pa0 p.args.length pc0]), (2, .agg #[.int .i64 t.f, .slice ta0 t.args.length tc0]), (4, .pointer (some ⟨g2, 0, none⟩)), (5, .pointer (some ⟨g11, 0, none⟩)), (7, .int .i64 (((st.length : Nat) : Int))), (8, .pointer (some ⟨g44, 0, none⟩)), (9, .slice x.ta L.length x.tc), (10, .pointer (some ⟨g104, 0, none⟩)), (13, .int .i64 (((l.length : Int) - 1))), (23, .bool (((!(p.plain)) || (!(t.plain))))), (32, .bool ((decide ((0 : Int) < (((x.L.length : Nat) : Int) : Int))))), (49, .bool ((decide ((f : Int) < (0 : Int))))), (118, .bool ((((f : Int) != (tt.f : Int)) || ((((l.length : Nat) : Int) : Int) != (((tt.args.length : Nat) : Int) : Int)))))]) ⟨rfl, rfl, rfl, rfl, rfl, rfl, rfl, rfl, rfl, rfl, rfl, rfl, rfl, rfl, trivial⟩ ?_)
                refine WE.next ?_
                refine WC.block ?_
                have ho216 := hts.below hb215
                have hp2s : (TS w g mb g75 C Ps Ts st w206 { x with L := L, R := R } ∧ InTp Ps w206 (.mk f l) (.pointer (some ⟨pb, po, none⟩)) ∧ InTp Ts w206 tt (.pointer (some ⟨qb, qo, none⟩)) ∧ ∀ b, (Value.slice x.ta L.length x.tc).ownBlock = some b → b ≠ g104) := ⟨ho216, hpP.below hb215, hqP.below hb215, fun b e => by have z := (hts.trow.lt b e).2; omega⟩
                have hsl : f = tt.f ∧ l.length = tt.args.length := by have z := h208; (try simp at z); exact ⟨z.1, by omega⟩
                refine WC.loop (X := Option Addr × Nat × List (Addr × Addr) × List (T × T) × Nat) (fun y => y.2.2.2.2) (fun y => [(0, .pointer (some ⟨g, 0, none⟩)), (1, .agg #[.int .i64 p.f, .slice pa0 p.args.length pc0]), (2, .agg #[.int .i64 t.f, .slice ta0 t.args.length tc0]), (4, .pointer (some ⟨g2, 0, none⟩)), (5, .pointer (some ⟨g11, 0, none⟩)), (7, .int .i64 (((st.length : Nat) : Int))), (8, .pointer (some ⟨g44, 0, none⟩)), (9, .slice y.1 y.2.2.2.1.length y.2.1), (10, .pointer (some ⟨g104, 0, none⟩)), (13, .int .i64 (((y.2.2.2.2 : Int) - 1))), (23, .bool (((!(p.plain)) || (!(t.plain))))), (32, .bool ((decide ((0 : Int) < (((x.L.length : Nat) : Int) : Int))))), (49, .bool ((decide ((f : Int) < (0 : Int))))), (118, .bool ((((f : Int) != (tt.f : Int)) || ((((l.length : Nat) : Int) : Int) != (((tt.args.length : Nat) : Int) : Int)))))]) (fun y w217 => y.2.2.2.2 ≤ l.length ∧ y.2.2.2.1.reverse = (l.zip tt.args).drop y.2.2.2.2 ++ L.reverse ∧ Blk w217 g2 24 #[.int .i64 p.f, .slice pa0 p.args.length pc0] ∧ Blk w217 g11 24 #[.int .i64 t.f, .slice ta0 t.args.length tc0] ∧ Blk w217 g44 24 #[.int .i64 t.f, .slice a41 t.args.length c42] ∧ Blk w217 g 64 #[.map ((some mb)), .slice x.ra x.st.length x.rc] ∧ Blk w217 g104 69 #[.pointer (some ⟨pb, po, none⟩), .pointer (some ⟨qb, qo, none⟩)] ∧ ObjAt (w217) mb (.map x.es x.cl) ∧ (TS w g mb g75 C Ps Ts st (w217) { x with ta := y.1, tc := y.2.1, R := y.2.2.1, L := y.2.2.2.1 } ∧ InTp Ps (w217) (.mk f l) (.pointer (some ⟨pb, po, none⟩)) ∧ InTp Ts (w217) tt (.pointer (some ⟨qb, qo, none⟩)) ∧ ∀ b, (Value.slice y.1 y.2.2.2.1.length y.2.1).ownBlock = some b → b ≠ g104)) ((x.ta, x.tc, R, L, l.length)) ⟨rfl, rfl, rfl, rfl, rfl, rfl, rfl, rfl, rfl, rfl, rfl, rfl, rfl, rfl, trivial⟩ ?_ ?_
                · have hB218 := hB121.below hb207
                  have hB219 := hB123.below hb207
                  have hB220 := hB125.below hb207
                  have hB221 := hB127.below hb207
                  have ho222 := ho129.below hb207
                  exact ⟨Nat.le_refl _, (by dsimp only; rw [List.drop_of_length_le (by simp; omega), List.nil_append]), hB218, hB219, hB220, hB221, hB214, ho222, hp2s⟩
                · rintro y w217 ⟨hk0, hrev, hB223, hB224, hB225, hB226, hB227, ho228, ho229⟩
                  obtain ⟨hts2, hpp, hqq, hn10⟩ := id ho229
                  obtain ⟨pa2, pc2, hpp1, hpp2, hppT⟩ := hpp.at
                  obtain ⟨qa2, qc2, hqq1, hqq2, hqqT⟩ := hqq.at
                  simp only [T.f_mk, T.args_mk] at hpp1 hpp2 hppT
                  refine WC.seq ?_
                  refine WC.seq ?_
                  refine WC.region ?_
                  refine WL.val (.int .i64 (((y.2.2.2.2 : Int) - 1))) rfl rfl rfl (fun za zC zh zk => wp_move rfl (zh.ev rfl) zk) ?_
                  refine WL.val (.bool ((decide ((0 : Int) ≤ (((y.2.2.2.2 : Int) - 1) : Int))))) rfl rfl rfl (fun za zC zh zk => geq_3 rfl (zh.ev rfl) (zh.ev rfl) zk) ?_
                  refine WL.nil (WE.sub (K' := [(0, .pointer (some ⟨g, 0, none⟩)), (1, .agg #[.int .i64 p.f, .slice pa0 p.args.length pc0]), (2, .agg #[.int .i64 t.f, .slice ta0 t.args.length tc0]), (4, .pointer (some ⟨g2, 0, none⟩)), (5, .pointer (some ⟨g11, 0, none⟩)), (7, .int .i64 (((st.length : Nat) : Int))), (8, .pointer (some ⟨g44, 0, none⟩)), (9, .slice y.1 y.2.2.2.1.length y.2.1), (10, .pointer (some ⟨g104, 0, none⟩)), (13, .int .i64 (((y.2.2.2.2 : Int) - 1))), (23, .bool (((!(p.plain)) || (!(t.plain))))), (32, .bool ((decide ((0 : Int) < (((x.L.length : Nat) : Int) : Int))))), (49, .bool ((decide ((f : Int) < (0 : Int))))), (118, .bool ((((f : Int) != (tt.f : Int)) || ((((l.length : Nat) : Int) : Int) != (((tt.args.length : Nat) : Int) : Int))))), (130, .bool ((decide ((0 : Int) ≤ (((y.2.2.2.2 : Int) - 1) : Int)))))]) ⟨rfl, rfl, rfl, rfl, rfl, rfl, rfl, rfl, rfl, rfl, rfl, rfl, rfl, rfl, rfl, trivial⟩ ?_)
                  refine WE.next ?_
                  refine WC.cond rfl (fun h230 => ?_) (fun h230 => ?_)
                  · have h230 : (0 : Int) ≤ (((y.2.2.2.2 : Int) - 1) : Int) := by simpa using h230
                    refine WC.skip ?_
                    refine WE.next ?_
                    refine WC.seq ?_
                    refine WC.block ?_
                    obtain ⟨k, hk⟩ : ∃ k, y.2.2.2.2 = k + 1 := ⟨y.2.2.2.2 - 1, by omega⟩
                    obtain ⟨ab, ao, hab, hAp⟩ := InTp.arg (b := 0) (o := 0) hppT k (by simp; omega)
                    obtain ⟨bb, bo, hbb, hBp⟩ := InTp.arg (b := 0) (o := 0) hqqT k (by omega)
                    have hlL := congrArg List.length hrev
                    simp only [List.length_reverse, List.length_append, List.length_drop, List.length_zip] at hlL
                    have hl1 := len_le_sizeL l
                    have hl2 := len_le_ssz L
                    have hl3 := ssz_top hL
                    have hSlt : ∀ b, (fun b => (Value.slice y.1 y.2.2.2.1.length y.2.1).ownBlock = some b) b → b < w217.heap.size := fun b h => ((hts2.below (Below.refl _ _)).trow.lt b h).2
                    have h10l : g104 < w217.heap.size := hB227.lt
                    refine WC.tail3 (S := ((fun b => (Value.slice y.1 y.2.2.2.1.length y.2.1).ownBlock = some b))) [(true, .val (.slice y.1 y.2.2.2.1.length y.2.1)), (true, .val (.pointer (some ⟨g104, 0, none⟩))), (true, .val (.pointer (some ⟨pb, po, none⟩))), (true, .val (.pointer (some ⟨pb, po, none⟩))), (true, .val (.pointer (some ⟨pb, po + 1, none⟩))), (true, .val (.slice pa2 l.length pc2)), (true, .val (.int .i64 (((y.2.2.2.2 : Int) - 1)))), (true, .val (.pointer (some ⟨ab, ao + k * 2, none⟩))), (true, .val (.pointer (some ⟨g104, 1, none⟩))), (true, .val (.pointer (some ⟨qb, qo, none⟩))), (true, .val (.pointer (some ⟨qb, qo, none⟩))), (true, .val (.pointer (some ⟨qb, qo + 1, none⟩))), (true, .val (.slice qa2 tt.args.length qc2)), (true, .val (.int .i64 (((y.2.2.2.2 : Int) - 1)))), (true, .val (.pointer (some ⟨bb, bo + k * 2, none⟩))), (true, .val (.agg #[.pointer (some ⟨ab, ao + k * 2, none⟩), .pointer (some ⟨bb, bo + k * 2, none⟩)])), (true, .mem (fun v w' => OneRow eltV2 w217 69 ((⟨ab, ao + k * 2, none⟩, ⟨bb, bo + k * 2, none⟩) : Addr × Addr) v w') (fun v w w' hc h => h.chg hc hSlt)), (true, .val undef), (true, .val undef)] [(0, .pointer (some ⟨g, 0, none⟩)), (1, .agg #[.int .i64 p.f, .slice pa0 p.args.length pc0]), (2, .agg #[.int .i64 t.f, .slice ta0 t.args.length tc0]), (4, .pointer (some ⟨g2, 0, none⟩)), (5, .pointer (some ⟨g11, 0, none⟩)), (7, .int .i64 (((st.length : Nat) : Int))), (8, .pointer (some ⟨g44, 0, none⟩)), (10, .pointer (some ⟨g104, 0, none⟩)), (13, .int .i64 (((y.2.2.2.2 : Int) - 1))), (23, .bool (((!(p.plain)) || (!(t.plain))))), (32, .bool ((decide ((0 : Int) < (((x.L.length : Nat) : Int) : Int))))), (49, .bool ((decide ((f : Int) < (0 : Int))))), (118, .bool ((((f : Int) != (tt.f : Int)) || ((((l.length : Nat) : Int) : Int) != (((tt.args.length : Nat) : Int) : Int))))), (130, .bool ((decide ((0 : Int) ≤ (((y.2.2.2.2 : Int) - 1) : Int)))))] 17 18 ((y.2.2.2.1 ++ [(tget l k, tget tt.args k)]).length) 150 9 (fun ra rc wz => (TS w g mb g75 C Ps Ts st wz { x with ta := ra, tc := rc, R := y.2.2.1 ++ [(⟨ab, ao + k * 2, none⟩, ⟨bb, bo + k * 2, none⟩)], L := y.2.2.2.1 ++ [(tget l k, tget tt.args k)] } ∧ InTp Ps wz (.mk f l) (.pointer (some ⟨pb, po, none⟩)) ∧ InTp Ts wz tt (.pointer (some ⟨qb, qo, none⟩)) ∧ ∀ b, (Value.slice ra (y.2.2.2.1 ++ [(tget l k, tget tt.args k)]).length rc).ownBlock = some b → b ≠ g104)) (by decide) (fun ra rc w w' hb h => ⟨h.1.below hb, h.2.1.below hb, h.2.2.1.below hb, h.2.2.2⟩) ⟨rfl, rfl, rfl, rfl, rfl, rfl, rfl, rfl, rfl, rfl, rfl, rfl, rfl, rfl, trivial⟩ (by kernel_rfl) (by kernel_rfl) (by kernel_rfl) (by kernel_rfl) (by kernel_rfl) (by kernel_rfl) ?_ ?_
                    · refine ⟨.inl ⟨rfl, true, .none rfl, (fun gg b h => by cases h), fun h w => optUndef h, fun zβ za zw zc => ?_⟩, ?_⟩
                      · exact wp_move rfl ((show za.eval (.tmp 9) = za.tmps.getD 9 undef from rfl).trans (zc.old 9 _ rfl (by kernel_rfl))) ⟨_, rfl, Below.refl _ _, optDef zβ rfl⟩
                      refine ⟨.inl ⟨rfl, true, .none rfl, (fun gg b h => by cases h), fun h w => optUndef h, fun zβ za zw zc => ?_⟩, ?_⟩
                      · exact fld_69_0 rfl (zc.kn.ev rfl) ⟨_, rfl, Below.refl _ _, optDef zβ rfl⟩
                      refine ⟨.inl ⟨rfl, true, .none rfl, (fun gg b h => by cases h), fun h w => optUndef h, fun zβ za zw zc => ?_⟩, ?_⟩
                      · exact ld_66 rfl ((show za.eval (.tmp 134) = za.tmps.getD 134 undef from rfl).trans (optSVal (zc.dep 1 134 (by kernel_rfl) (by decide)) rfl rfl)) (bkeeps (zc.early (by kernel_rfl)) _ _ ((hB227.cell 0).trans rfl)) ⟨_, rfl, Below.refl _ _, optDef zβ rfl⟩
                      refine ⟨.inl ⟨rfl, true, .none rfl, (fun gg b h => by cases h), fun h w => optUndef h, fun zβ za zw zc => ?_⟩, ?_⟩
                      · exact nilCheck_ rfl ((show za.eval (.tmp 135) = za.tmps.getD 135 undef from rfl).trans (optSVal (zc.dep 2 135 (by kernel_rfl) (by decide)) rfl rfl)) ⟨_, rfl, Below.refl _ _, optDef zβ rfl⟩
                      refine ⟨.inl ⟨rfl, true, .none rfl, (fun gg b h => by cases h), fun h w => optUndef h, fun zβ za zw zc => ?_⟩, ?_⟩
                      · exact fld_24_1 rfl ((show za.eval (.tmp 136) = za.tmps.getD 136 undef from rfl).trans (optSVal (zc.dep 3 136 (by kernel_rfl) (by decide)) rfl rfl)) ⟨_, rfl, Below.refl _ _, optDef zβ rfl⟩
                      refine ⟨.inl ⟨rfl, true, .none rfl, (fun gg b h => by cases h), fun h w => optUndef h, fun zβ za zw zc => ?_⟩, ?_⟩
                      · exact ld_22 rfl ((show za.eval (.tmp 137) = za.tmps.getD 137 undef from rfl).trans (optSVal (zc.dep 4 137 (by kernel_rfl) (by decide)) rfl rfl)) (bkeeps (zc.early (by kernel_rfl)) _ _ hpp2) ⟨_, rfl, Below.refl _ _, optDef zβ rfl⟩
                      refine ⟨.inl ⟨rfl, true, .none rfl, (fun gg b h => by cases h), fun h w => optUndef h, fun zβ za zw zc => ?_⟩, ?_⟩
                      · exact wp_move rfl (zc.kn.ev rfl) ⟨_, rfl, Below.refl _ _, optDef zβ rfl⟩
                      refine ⟨.inl ⟨rfl, true, .none rfl, (fun gg b h => by cases h), fun h w => optUndef h, fun zβ za zw zc => ?_⟩, ?_⟩
                      · exact ix_22 (k := k) rfl ((show za.eval (.tmp 138) = za.tmps.getD 138 undef from rfl).trans (optSVal (zc.dep 5 138 (by kernel_rfl) (by decide)) rfl rfl)) hab (((show za.eval (.tmp 139) = za.tmps.getD 139 undef from rfl).trans (optSVal (zc.dep 6 139 (by kernel_rfl) (by decide)) rfl rfl)).trans (congrArg (Value.int .i64) (by omega))) (by first | omega | (simp; omega)) ⟨_, rfl, Below.refl _ _, optDef zβ rfl⟩
                      refine ⟨.inl ⟨rfl, true, .none rfl, (fun gg b h => by cases h), fun h w => optUndef h, fun zβ za zw zc => ?_⟩, ?_⟩
                      · exact fld_69_1 rfl (zc.kn.ev rfl) ⟨_, rfl, Below.refl _ _, optDef zβ rfl⟩
                      refine ⟨.inl ⟨rfl, true, .none rfl, (fun gg b h => by cases h), fun h w => optUndef h, fun zβ za zw zc => ?_⟩, ?_⟩
                      · exact ld_66 rfl ((show za.eval (.tmp 141) = za.tmps.getD 141 undef from rfl).trans (optSVal (zc.dep 8 141 (by kernel_rfl) (by decide)) rfl rfl)) (bkeeps (zc.early (by kernel_rfl)) _ _ ((hB227.cell 1).trans rfl)) ⟨_, rfl, Below.refl _ _, optDef zβ rfl⟩
                      refine ⟨.inl ⟨rfl, true, .none rfl, (fun gg b h => by cases h), fun h w => optUndef h, fun zβ za zw zc => ?_⟩, ?_⟩
                      · exact nilCheck_ rfl ((show za.eval (.tmp 142) = za.tmps.getD 142 undef from rfl).trans (optSVal (zc.dep 9 142 (by kernel_rfl) (by decide)) rfl rfl)) ⟨_, rfl, Below.refl _ _, optDef zβ rfl⟩
                      refine ⟨.inl ⟨rfl, true, .none rfl, (fun gg b h => by cases h), fun h w => optUndef h, fun zβ za zw zc => ?_⟩, ?_⟩
                      · exact fld_24_1 rfl ((show za.eval (.tmp 143) = za.tmps.getD 143 undef from rfl).trans (optSVal (zc.dep 10 143 (by kernel_rfl) (by decide)) rfl rfl)) ⟨_, rfl, Below.refl _ _, optDef zβ rfl⟩
                      refine ⟨.inl ⟨rfl, true, .none rfl, (fun gg b h => by cases h), fun h w => optUndef h, fun zβ za zw zc => ?_⟩, ?_⟩
                      · exact ld_22 rfl ((show za.eval (.tmp 144) = za.tmps.getD 144 undef from rfl).trans (optSVal (zc.dep 11 144 (by kernel_rfl) (by decide)) rfl rfl)) (bkeeps (zc.early (by kernel_rfl)) _ _ hqq2) ⟨_, rfl, Below.refl _ _, optDef zβ rfl⟩
                      refine ⟨.inl ⟨rfl, true, .none rfl, (fun gg b h => by cases h), fun h w => optUndef h, fun zβ za zw zc => ?_⟩, ?_⟩
                      · exact wp_move rfl (zc.kn.ev rfl) ⟨_, rfl, Below.refl _ _, optDef zβ rfl⟩
                      refine ⟨.inl ⟨rfl, true, .none rfl, (fun gg b h => by cases h), fun h w => optUndef h, fun zβ za zw zc => ?_⟩, ?_⟩
                      · exact ix_22 (k := k) rfl ((show za.eval (.tmp 145) = za.tmps.getD 145 undef from rfl).trans (optSVal (zc.dep 12 145 (by kernel_rfl) (by decide)) rfl rfl)) hbb (((show za.eval (.tmp 146) = za.tmps.getD 146 undef from rfl).trans (optSVal (zc.dep 13 146 (by kernel_rfl) (by decide)) rfl rfl)).trans (congrArg (Value.int .i64) (by omega))) (by first | omega | (simp; omega)) ⟨_, rfl, Below.refl _ _, optDef zβ rfl⟩
                      refine ⟨.inl ⟨rfl, true, .none rfl, (fun gg b h => by cases h), fun h w => optUndef h, fun zβ za zw zc => ?_⟩, ?_⟩
                      · exact build_69_0_1 rfl ((show za.eval (.tmp 140) = za.tmps.getD 140 undef from rfl).trans (optSVal (zc.dep 7 140 (by kernel_rfl) (by decide)) rfl rfl)) ((show za.eval (.tmp 147) = za.tmps.getD 147 undef from rfl).trans (optSVal (zc.dep 14 147 (by kernel_rfl) (by decide)) rfl rfl)) ⟨_, rfl, Below.refl _ _, optDef zβ rfl⟩
                      refine ⟨.inl ⟨rfl, true, .none rfl, (fun gg b h => by cases h), fun h w => optUndef h, fun zβ za zw zc => ?_⟩, ?_⟩
                      · exact row_70_1 rfl ((show za.eval (.tmp 148) = za.tmps.getD 148 undef from rfl).trans (optSVal (zc.dep 15 148 (by kernel_rfl) (by decide)) rfl rfl)) ⟨_, rfl, balloc _ _, optDef zβ ⟨_, [.pointer (some ⟨ab, ao + k * 2, none⟩), .pointer (some ⟨bb, bo + k * 2, none⟩)], rfl, zc.chg.size, Blk.new' rfl, rfl⟩⟩
                      refine ⟨.inr (.inl ⟨rfl, rfl, fun za zw zc => ?_⟩), ?_⟩
                      · obtain ⟨g1, cs, e1, hg1, hB1, hin⟩ := (optSMem (zc.dep 16 149 (by kernel_rfl) (by decide)) rfl rfl)
                        have hbz := bstep (Below.refl _ _) zc.below
                        have htz := hts2.below hbz
                        have hcs : cs = [.pointer (some ⟨ab, ao + k * 2, none⟩), .pointer (some ⟨bb, bo + k * 2, none⟩)] := hin
                        subst hcs
                        exact wp_appE2 (E := eltV2) (size := 2) (bytes := 16) (z := .agg #[.pointer none, .pointer none]) (y := ((⟨ab, ao + k * 2, none⟩, ⟨bb, bo + k * 2, none⟩) : Addr × Addr)) rfl Try.underlying70 (by kernel_rfl) rfl (by decide) rfl ((show za.eval (.tmp 133) = za.tmps.getD 133 undef from rfl).trans (optSVal (zc.dep 0 133 (by kernel_rfl) (by decide)) rfl rfl)) ((show za.eval (.tmp 149) = za.tmps.getD 149 undef from rfl).trans e1) htz.trow hB1 rfl (by omega) (by omega) (Nat.zero_le _) (fun ra rc w' h1 h2 _ h4 => ⟨ra, rc, by rw [List.length_append]; rfl, ⟨TS.push htz h1 h2 (fun b e => (h4 b e).imp id (fun e => by have z1 := htz.now; omega)) (hAp.below hbz) (hBp.below hbz) ⟨Nat.le_trans (T.size_le_sizeL (tget_mem (by omega))) (by simp only [T.size] at hz1; omega), Nat.le_trans (T.size_le_sizeL (tget_mem (by omega))) (by rw [T.size_eq] at hz2; omega)⟩, (hpp.below hbz).chg h2 (fun b q e => by have z1 := (htz.hP b q).1; have z2 := htz.tnew b e; omega), (hqq.below hbz).chg h2 (fun b q e => by have z1 := (htz.hT b q).1; have z2 := htz.tnew b e; omega), fun b e => by
                            rcases h4 b (own_len.trans e) with q | q
                            · exact hn10 b q
                            · have z1 := zc.below.size; omega⟩, h2⟩)
                      refine ⟨.inr (.inr ⟨rfl, rfl, 150, by kernel_rfl, rfl⟩), ?_⟩
                      exact trivial
                    · intro za w231 ra234 rc235 zh zv zv2 hG232 hc233 zu
                      have zh := zh.cons (d := 9) zv2
                      have hB236 := chg_blk hB223 hc233 (fun h => by have z1 := hts2.tnew _ h; have z2 := hn10 _ h; omega)
                      have hB237 := chg_blk hB224 hc233 (fun h => by have z1 := hts2.tnew _ h; have z2 := hn10 _ h; omega)
                      have hB238 := chg_blk hB225 hc233 (fun h => by have z1 := hts2.tnew _ h; have z2 := hn10 _ h; omega)
                      have hB239 := chg_blk hB226 hc233 (fun h => by have z1 := hts2.tnew _ h; have z2 := hn10 _ h; omega)
                      have hB240 := chg_blk hB227 hc233 (fun h => by have z1 := hts2.tnew _ h; have z2 := hn10 _ h; omega)
                      have ho241 := ho228.chg hc233 (fun h => by have z1 := hts2.tnew _ h; have z2 := hn10 _ h; omega)
                      clear zu
                      refine (show WE _ [(0, .pointer (some ⟨g, 0, none⟩)), (1, .agg #[.int .i64 p.f, .slice pa0 p.args.length pc0]), (2, .agg #[.int .i64 t.f, .slice ta0 t.args.length tc0]), (4, .pointer (some ⟨g2, 0, none⟩)), (5, .pointer (some ⟨g11, 0, none⟩)), (7, .int .i64 (((st.length : Nat) : Int))), (8, .pointer (some ⟨g44, 0, none⟩)), (9, .slice ra234 ((y.2.2.2.1 ++ [(tget l k, tget tt.args k)]).length) rc235), (10, .pointer (some ⟨g104, 0, none⟩)), (13, .int .i64 (((y.2.2.2.2 : Int) - 1))), (23, .bool (((!(p.plain)) || (!(t.plain))))), (32, .bool ((decide ((0 : Int) < (((x.L.length : Nat) : Int) : Int))))), (49, .bool ((decide ((f : Int) < (0 : Int))))), (118, .bool ((((f : Int) != (tt.f : Int)) || ((((l.length : Nat) : Int) : Int) != (((tt.args.length : Nat) : Int) : Int))))), (130, .bool ((decide ((0 : Int) ≤ (((y.2.2.2.2 : Int) - 1) : Int)))))] w231 _ .normal from ?_) za (zh.sub ⟨rfl, rfl, rfl, rfl, rfl, rfl, rfl, rfl, rfl, rfl, rfl, rfl, rfl, rfl, rfl, trivial⟩)
                      refine WE.blockNormal ?_
                      refine WE.next ?_
                      refine WC.region ?_
                      refine WL.val (.int .i64 (((y.2.2.2.2 : Int) - 1))) rfl rfl rfl (fun za zC zh zk => wp_move rfl (zh.ev rfl) zk) ?_
                      refine WL.val (.int .i64 (((k : Int) - 1))) rfl rfl rfl (fun za zC zh zk => subb_3 rfl (zh.ev rfl) (zh.ev rfl) (wrap_eq (by omega) (by omega) (by omega)) zk) ?_
                      refine WL.val (.int .i64 (((k : Int) - 1))) rfl rfl rfl (fun za zC zh zk => wp_assign rfl (zh.ev rfl) zk) ?_
                      refine WL.nil (WE.sub (K' := [(0, .pointer (some ⟨g, 0, none⟩)), (1, .agg #[.int .i64 p.f, .slice pa0 p.args.length pc0]), (2, .agg #[.int .i64 t.f, .slice ta0 t.args.length tc0]), (4, .pointer (some ⟨g2, 0, none⟩)), (5, .pointer (some ⟨g11, 0, none⟩)), (7, .int .i64 (((st.length : Nat) : Int))), (8, .pointer (some ⟨g44, 0, none⟩)), (9, .slice ra234 ((y.2.2.2.1 ++ [(tget l k, tget tt.args k)]).length) rc235), (10, .pointer (some ⟨g104, 0, none⟩)), (13, .int .i64 (((k : Int) - 1))), (23, .bool (((!(p.plain)) || (!(t.plain))))), (32, .bool ((decide ((0 : Int) < (((x.L.length : Nat) : Int) : Int))))), (49, .bool ((decide ((f : Int) < (0 : Int))))), (118, .bool ((((f : Int) != (tt.f : Int)) || ((((l.length : Nat) : Int) : Int) != (((tt.args.length : Nat) : Int) : Int))))), (130, .bool ((decide ((0 : Int) ≤ (((y.2.2.2.2 : Int) - 1) : Int)))))]) ⟨rfl, rfl, rfl, rfl, rfl, rfl, rfl, rfl, rfl, rfl, rfl, rfl, rfl, rfl, rfl, trivial⟩ ?_)
                      refine WE.round ((ra234, rc235, y.2.2.1 ++ [(⟨ab, ao + k * 2, none⟩, ⟨bb, bo + k * 2, none⟩)], y.2.2.2.1 ++ [(tget l k, tget tt.args k)], k)) ⟨rfl, rfl, rfl, rfl, rfl, rfl, rfl, rfl, rfl, rfl, rfl, rfl, rfl, rfl, trivial⟩ ?_ ?_
                      · exact ⟨by (try dsimp only); omega, by dsimp only; rw [List.reverse_append, List.reverse_singleton, List.singleton_append, hrev, hk, zip_drop (k := k) (by omega) hsl.2]; rfl, hB236, hB237, hB238, hB239, hB240, ho241, hG232⟩
                      · (try dsimp only); omega
                  · have h230 : ¬ ((0 : Int) ≤ (((y.2.2.2.2 : Int) - 1) : Int)) := by simpa using h230
                    refine WC.exit ?_
                    refine WE.thenExit ?_
                    refine WE.thenExit ?_
                    refine WE.blockIs rfl ?_
                    refine WE.blockNormal ?_
                    refine WE.round ({ x with ta := y.1, tc := y.2.1, R := y.2.2.1, L := y.2.2.2.1 }) ⟨rfl, rfl, rfl, rfl, rfl, rfl, rfl, rfl, rfl, trivial⟩ ?_ ?_
                    · exact ⟨ans_sym hans hL h130 hsl (by have z := hrev; rwa [show y.2.2.2.2 = 0 by omega] at z), by have z := ssz_top hL; have z2 := ssz_sym (L := L) (Y := y.2.2.2.1) (by have z := hrev; rwa [show y.2.2.2.2 = 0 by omega] at z); (try dsimp only); omega, hB223, hB224, hB225, hB226, ho228, (ho229).1⟩
                    · have z := ssz_top hL; have z2 := ssz_sym (L := L) (Y := y.2.2.2.1) (by have z := hrev; rwa [show y.2.2.2.2 = 0 by omega] at z); (try dsimp only); omega
        · have h102 : ¬ ((0 : Int) < (((x.L.length : Nat) : Int) : Int)) := by simpa using h102
          refine WC.exit ?_
          refine WE.thenExit ?_
          refine WE.thenExit ?_
          refine WE.blockIs rfl ?_
          refine WE.next ?_
          refine WC.seq ?_
          refine WC.region ?_
          refine WL.val (.bool true) rfl rfl rfl (fun za zC zh zk => wp_assign rfl (zh.ev rfl) zk) ?_
          refine WL.nil (WE.sub (K' := [(0, .pointer (some ⟨g, 0, none⟩)), (1, .agg #[.int .i64 p.f, .slice pa0 p.args.length pc0]), (2, .agg #[.int .i64 t.f, .slice ta0 t.args.length tc0]), (4, .pointer (some ⟨g2, 0, none⟩)), (5, .pointer (some ⟨g11, 0, none⟩)), (6, .bool true), (7, .int .i64 (((st.length : Nat) : Int))), (8, .pointer (some ⟨g44, 0, none⟩)), (9, .slice x.ta x.L.length x.tc), (23, .bool (((!(p.plain)) || (!(t.plain))))), (32, .bool ((decide ((0 : Int) < (((x.L.length : Nat) : Int) : Int)))))]) ⟨rfl, rfl, rfl, rfl, rfl, rfl, rfl, rfl, rfl, rfl, rfl, trivial⟩ ?_)
          refine WE.next ?_
          refine WC.ret ?_
          refine WE.scopeRet ?_
          refine WE.ret1 rfl rfl ?_
          have hnil : x.L = [] := List.length_eq_zero_iff.1 (by omega)
          have hfin := fin_ok (p := p) (t := t) (st := st) (s := x.st) hpl1 hpl2 (by rw [hans, hnil]; rfl)
          refine ⟨_, rfl, ⟨(fun b => C b ∨ (w.heap.size ≤ b ∧ b < w92.heap.size)), congrArg Value.bool hfin.1.symm, ?_, fun b q => q.imp id (fun q => q.1)⟩, ho101.chg⟩
          rw [hfin.2]; exact ho101.mat hB99 ho100 hTs0

end Go.Proofs.Ytcmfjnadjddboaa

/- A call through an interface; literals under a matcher: plain. -/
namespace Go.Proofs.Ytcmfjnadjddboaa
open Go.RowKit Go
set_option linter.unusedVariables false
set_option linter.unusedSimpArgs false

/-- A call of a method whose receiver's type is known. -/
theorem wp_invk {P : Program} {w : World} {a : Act} {K : Act → World → Prop} {Q : Exit → Act → World → Prop} {o : Oper} {F : FuncId} {x : Operand} {name : String} {xs : Array Operand} {tys : Array TypeId} {vs : Array Value} {R : Value → World → Prop} {t : TypeId} {v : Value} (hF : callB P F = true)
    (hm : (method (P.types.size + Made.depth) t v name).run P w = .ok (F, v) w) (ho : o.op = .call { callee := .invoke x name, args := xs, argTypes := tys }) (hx : a.eval x = .iface t v) (hv : xs.map a.eval = vs)
    (h : Calls P F (#[v] ++ vs) w fun e w' => ∃ v, e = .returned v ∧ R v w') (hK : ∀ v w', R v w' → K (a.put o.dst v) w') : o.wp P a w K Q := by
  unfold callB at hF
  split at hF
  · rename_i fn hfn
    simp only [Bool.and_eq_true, Bool.not_eq_true'] at hF
    have hp : (Sem.run P program w) = .ok P w := rfl
    have e1 : (#[Value.iface t v] ++ vs)[0]? = some (.iface t v) := by rw [Array.getElem?_append_left (show 0 < 1 from Nat.zero_lt_one)]; rfl
    have e2 : (#[Value.iface t v] ++ vs).extract 1 (#[Value.iface t v] ++ vs).size = vs := by
      apply Array.ext'
      rw [Array.toList_extract]
      simp
      exact List.take_of_length_le (by simp)
    unfold Oper.wp execOp
    simp only [ho, resolve, hv, hx, invoke, callMethod, callFunc, Sem.run_bind, Sem.run_pure, Result.andThen_ok, hp, hfn, hF.1, hF.2, Bool.false_eq_true, if_false, e1, e2, hm]
    refine h.mono ?_
    rintro e w' ⟨v, rfl, hR⟩
    exact hK v w' hR
  · simp at hF

/-- A matcher that has gone on since 'w0': what it has changed and what its own is lies in 'C' or is new. -/
def Since (w0 : World) (C : Nat → Prop) : Nat → Prop := fun b => C b ∨ w0.heap.size ≤ b
def MatGo (w0 : World) (C : Nat → Prop) (g : Nat) (st : List Bd) (w : World) : Prop := (∃ C', MatAt w g st C' ∧ ∀ b, C' b → Since w0 C b) ∧ w0.heap.size ≤ w.heap.size
section
variable {w0 w w' : World} {g : Nat} {st st' : List Bd} {C S : Nat → Prop}
theorem MatGo.start (h : MatAt w g st C) : MatGo w C g st w := ⟨⟨C, h, fun _ => .inl⟩, Nat.le_refl _⟩
theorem MatGo.below (h : MatGo w0 C g st w) (hb : Below w.heap.size w w') : MatGo w0 C g st w' := by
  obtain ⟨⟨C', h, h1⟩, h2⟩ := h
  exact ⟨⟨C', h.below hb, h1⟩, Nat.le_trans h2 hb.size⟩
set_option linter.unusedVariables false in
theorem go_of {F : FuncId} {xs : Array Value} {r : Value} (h : MatGo w0 C g st w) (hany : ∀ C', MatAt w g st C' → (∀ b, C' b → Since w0 C b) → Calls Try.prog F xs w (Ret fun v' w' => (∃ C'', v' = r ∧ MatAt w' g st' C'' ∧ ∀ b, C'' b → C' b ∨ w.heap.size ≤ b) ∧ Chg C' w w')) :
    Calls Try.prog F xs w (Ret fun v' w' => (v' = r ∧ MatGo w0 C g st' w') ∧ Chg (Since w0 C) w w') := by
  obtain ⟨⟨C', h, h1⟩, h2⟩ := h
  refine (hany C' h h1).mono ?_
  rintro e w' ⟨v, rfl, ⟨C'', rfl, h3, h4⟩, h5⟩
  refine ⟨_, rfl, ⟨rfl, ⟨C'', h3, fun b q => ?_⟩, Nat.le_trans h2 h5.size⟩, h5.mono h1⟩
  rcases h4 b q with q | q
  · exact h1 b q
  · exact .inr (Nat.le_trans h2 q)
theorem term_go {A : Nat → Prop} (p t : T) {u v : Value} (h : MatGo w0 C g st w) (hp : InT A w p u) (ht : IsT w t v) (hA : ∀ b, A b → ¬ Since w0 C b) (hzp : p.size ≤ 4294967296) (hzt : t.size ≤ 4294967296) (hn : st.length + p.size ≤ 1099511627776) :
    Calls Try.prog 15 #[.pointer (some ⟨g, 0, none⟩), u, v] w (Ret fun v' w' => (v' = .bool (mOk p t st) ∧ MatGo w0 C g (mTo p t st) w') ∧ Chg (Since w0 C) w w') :=
  go_of h fun C' h' h1 => term_any p t w u v h' hp ht (fun b q q2 => hA b q (h1 b q2)) hzp hzt hn
theorem back_go (m : Int) (h : MatGo w0 C g st w) : Calls Try.prog 19 #[.pointer (some ⟨g, 0, none⟩), .int .i64 m] w (Ret fun _ w' => MatGo w0 C g (backTo st m) w' ∧ Chg (Since w0 C) w w') := by
  obtain ⟨⟨C', h, h1⟩, h2⟩ := h
  refine (back_any m w h).mono ?_
  rintro e w' ⟨v, rfl, h3, h4⟩
  exact ⟨_, rfl, ⟨⟨C', h3, h1⟩, Nat.le_trans h2 h4.size⟩, h4.mono h1⟩
theorem mark_go (h : MatGo w0 C g st w) : Calls Try.prog 21 #[.pointer (some ⟨g, 0, none⟩)] w (Ret fun v' w' => v' = .int .i64 (st.length : Nat) ∧ Below w.heap.size w w') := by
  obtain ⟨⟨C', h, _⟩, _⟩ := h
  exact mark_any w h
end
/-- Literals. -/
def Li.turn (x : Li) (b : Bool) : Li := if b = true then ⟨x.neg, x.r, x.l⟩ else x
def lOk (p l : Li) (b : Bool) (st : List Bd) : Bool := decide (p.neg = l.neg) && decide (p.atom = l.atom) && mOk p.l (l.turn b).l st && mOk p.r (l.turn b).r (mTo p.l (l.turn b).l st)
def lTo (p l : Li) (b : Bool) (st : List Bd) : List Bd := if lOk p l b st = true then mTo p.r (l.turn b).r (mTo p.l (l.turn b).l st) else st
theorem mTo_no {p t : T} {st : List Bd} (h : ¬ mOk p t st = true) : mTo p t st = st := by
  unfold mOk at h; unfold mTo
  split
  · rename_i q
    rw [q, Bool.true_and, Option.isSome_iff_ne_none, Classical.not_not] at h
    rw [h]; rfl
  · rfl
mutual
theorem T.mt_pre : ∀ (p : T) (st : List Bd) (t : T) (s : List Bd), p.mt st t = some s → ∃ q, s = st ++ q ∧ q.length ≤ p.size
  | .mk f l, st, t, s, h => by
    rw [T.mt] at h
    split at h
    · split at h
      · cases h; exact ⟨_, rfl, by rw [T.size]; simp⟩
      · split at h
        · cases h; exact ⟨[], by simp, Nat.zero_le _⟩
        · cases h
    · split at h
      · obtain ⟨q, e, hq⟩ := T.mtL_pre l st t.args s h
        exact ⟨q, e, by rw [T.size]; omega⟩
      · cases h
theorem T.mtL_pre : ∀ (l : List T) (st : List Bd) (ts : List T) (s : List Bd), T.mtL l st ts = some s → ∃ q, s = st ++ q ∧ q.length ≤ T.sizeL l
  | [], st, _, s, h => by rw [T.mtL] at h; cases h; exact ⟨[], by simp, Nat.zero_le _⟩
  | _ :: _, st, [], s, h => by rw [T.mtL] at h; cases h; exact ⟨[], by simp, Nat.zero_le _⟩
  | p :: ps, st, t :: ts, s, h => by
    rw [T.mtL] at h
    split at h
    · cases h
    · rename_i s1 h1
      obtain ⟨q1, rfl, k1⟩ := T.mt_pre p st t s1 h1
      obtain ⟨q2, e, k2⟩ := T.mtL_pre ps _ ts s h
      exact ⟨q1 ++ q2, by rw [e, List.append_assoc], by rw [T.sizeL, List.length_append]; omega⟩
end
theorem mTo_pre (p t : T) (st : List Bd) : ∃ q, mTo p t st = st ++ q ∧ q.length ≤ p.size := by
  unfold mTo
  split
  · cases h : p.mt st t with
    | none => exact ⟨[], by simp, Nat.zero_le _⟩
    | some s => exact T.mt_pre p st t s h
  · exact ⟨[], by simp, Nat.zero_le _⟩
theorem mTo_take (p t : T) (st : List Bd) : st.length ≤ (mTo p t st).length ∧ (mTo p t st).length ≤ st.length + p.size ∧ (mTo p t st).take st.length = st := by
  obtain ⟨q, e, h⟩ := mTo_pre p t st
  rw [e]; simp [h]
theorem lOk_no1 {p l : Li} {b : Bool} {st : List Bd} (h : ¬ (p.neg = l.neg ∧ p.atom = l.atom)) : lOk p l b st = false ∧ lTo p l b st = st := by
  have : lOk p l b st = false := by unfold lOk; rw [Bool.eq_false_iff]; intro e; simp at e; exact h ⟨e.1.1.1, e.1.1.2⟩
  exact ⟨this, by unfold lTo; rw [this]; rfl⟩
theorem lOk_no2 {p l : Li} {b : Bool} {st : List Bd} (h : ¬ mOk p.l (l.turn b).l st = true) : lOk p l b st = false ∧ lTo p l b st = st := by
  have : lOk p l b st = false := by unfold lOk; rw [Bool.eq_false_iff]; intro e; simp at e; exact h e.1.2
  exact ⟨this, by unfold lTo; rw [this]; rfl⟩
theorem lOk_no3 {p l : Li} {b : Bool} {st : List Bd} (h : ¬ mOk p.r (l.turn b).r (mTo p.l (l.turn b).l st) = true) : lOk p l b st = false ∧ lTo p l b st = st := by
  have : lOk p l b st = false := by unfold lOk; rw [Bool.eq_false_iff]; intro e; simp at e; exact h e.2
  exact ⟨this, by unfold lTo; rw [this]; rfl⟩
theorem lOk_yes {p l : Li} {b : Bool} {st : List Bd} (h : p.neg = l.neg ∧ p.atom = l.atom) (h1 : mOk p.l (l.turn b).l st = true) (h2 : mOk p.r (l.turn b).r (mTo p.l (l.turn b).l st) = true) : lOk p l b st = true ∧ lTo p l b st = mTo p.r (l.turn b).r (mTo p.l (l.turn b).l st) := by
  have : lOk p l b st = true := by unfold lOk; simp [h, h1, h2]
  exact ⟨this, by unfold lTo; rw [this]; rfl⟩
/-- What was done, by what was done since a later point. -/
theorem MatGo.done {w w1 w' : World} {g : Nat} {st : List Bd} {C : Nat → Prop} (h : MatGo w1 C g st w') (hb : w.heap.size ≤ w1.heap.size) : ∃ C', MatAt w' g st C' ∧ ∀ b, C' b → C b ∨ w.heap.size ≤ b := by
  obtain ⟨⟨C', h, h1⟩, _⟩ := h
  exact ⟨C', h, fun b q => (h1 b q).imp id (fun q => Nat.le_trans hb q)⟩
theorem chg_since {w w1 w' : World} {C : Nat → Prop} (hb : Below w.heap.size w w1) (hc : Chg (Since w1 C) w1 w') : Chg C w w' := (Chg.refl C w).trans2 (.ofBelow (S := fun _ => False) hb) (fun _ _ q => q.elim) |>.trans2 hc (fun b hl q => q.elim id (fun q => by have := hb.size; omega))

end Go.Proofs.Ytcmfjnadjddboaa

/- What 'Match' tells: plain. -/
namespace Go.Proofs.Ytcmfjnadjddboaa
open Go.RowKit Go
set_option linter.unusedVariables false
set_option linter.unusedSimpArgs false

theorem subFind_none_iff {st : List Bd} {v : Int} (h : subFind st v = none) : v ∉ st.map (·.var) := by
  intro q
  obtain ⟨b, hb, e⟩ := List.mem_map.1 q
  exact subFind_none' h b hb e
mutual
theorem T.mt_nd : ∀ (p : T) (st : List Bd) (t : T) (s : List Bd), (st.map (·.var)).Nodup → p.mt st t = some s → (s.map (·.var)).Nodup
  | .mk f l, st, t, s, hn, h => by
    rw [T.mt] at h
    split at h
    · split at h
      · rename_i hf
        cases h
        rw [List.map_append, List.nodup_append]
        refine ⟨hn, by simp, fun x hx y hy e => ?_⟩
        have hy' : y = -1 - f := by simpa using hy
        rw [e, hy'] at hx
        exact subFind_none_iff hf hx
      · split at h
        · cases h; exact hn
        · cases h
    · split at h
      · exact T.mtL_nd l st t.args s hn h
      · cases h
theorem T.mtL_nd : ∀ (l : List T) (st : List Bd) (ts : List T) (s : List Bd), (st.map (·.var)).Nodup → T.mtL l st ts = some s → (s.map (·.var)).Nodup
  | [], st, _, s, hn, h => by rw [T.mtL] at h; cases h; exact hn
  | _ :: _, st, [], s, hn, h => by rw [T.mtL] at h; cases h; exact hn
  | p :: ps, st, t :: ts, s, hn, h => by
    rw [T.mtL] at h
    split at h
    · cases h
    · rename_i s1 h1
      exact T.mtL_nd ps s1 ts s (T.mt_nd p st t s1 hn h1) h
end
theorem mTo_nd (p t : T) {st : List Bd} (hn : (st.map (·.var)).Nodup) : ((mTo p t st).map (·.var)).Nodup := by
  unfold mTo
  split
  · cases h : p.mt st t with
    | none => exact hn
    | some s => exact T.mt_nd p st t s hn h
  · exact hn
theorem lTo_nd (p l : Li) (b : Bool) {st : List Bd} (hn : (st.map (·.var)).Nodup) : ((lTo p l b st).map (·.var)).Nodup := by
  unfold lTo
  split
  · exact mTo_nd _ _ (mTo_nd _ _ hn)
  · exact hn
theorem backTo_nd {m : Int} {st : List Bd} (hn : (st.map (·.var)).Nodup) : ((backTo st m).map (·.var)).Nodup := by
  unfold backTo
  split
  · rw [List.map_take]; exact List.Sublist.nodup (List.take_sublist _ _) hn
  · exact hn
theorem NewBs.older {w0 w1 w : World} {R : List Bd} {a : Option Addr} {c : Nat} (h : NewBs w1 w R a c) (hs : w0.heap.size ≤ w1.heap.size) : NewBs w0 w R a c := ⟨h.1.mono (by decide) (fun _ q _ => Nat.le_trans hs q), h.2⟩
theorem NewBs.isBs {w0 w : World} {R : List Bd} {a : Option Addr} {c : Nat} (h : NewBs w0 w R a c) : IsBs w R a := h.1.mono (by decide) (fun _ _ _ => trivial)
/-- What 'Match' tells. -/
def MatchIs (w w' : World) (p t : T) (v : Value) : Prop := if mOk p t [] = true then ∃ (R : List Bd) (a : Option Addr) (c : Nat), v = .tuple #[.slice a R.length c, .bool true] ∧ SubOf (mTo p t []) R ∧ NewBs w w' R a c else v = .tuple #[.slice none 0 0, .bool false]
theorem MatchIs.form {w w' : World} {p t : T} {v : Value} (h : MatchIs w w' p t v) : ∃ (a : Option Addr) (n c : Nat), v = .tuple #[.slice a n c, .bool (mOk p t [])] := by
  unfold MatchIs at h
  cases hb : mOk p t [] with
  | true => rw [if_pos hb] at h; obtain ⟨R, a, c, rfl, _⟩ := h; exact ⟨a, R.length, c, rfl⟩
  | false => rw [if_neg (by rw [hb]; decide)] at h; subst h; exact ⟨none, 0, 0, rfl⟩
def varB (a b : T) : Bool := mOk a b [] && mOk b a []

end Go.Proofs.Ytcmfjnadjddboaa

/- Small terms: plain. -/
namespace Go.Proofs.Ytcmfjnadjddboaa
open Go.RowKit Go
set_option linter.unusedVariables false
set_option linter.unusedSimpArgs false

mutual
def T.dep : T → Nat
  | .mk _ l => T.depL l + 1
def T.depL : List T → Nat
  | [] => 0
  | t :: r => max t.dep (T.depL r)
end
mutual
def T.low (m : Int) : T → Bool
  | .mk f l => if f < 0 then decide (-m ≤ f) && decide (l.length = 0) else T.lowL m l
def T.lowL (m : Int) : List T → Bool
  | [] => true
  | t :: r => t.low m && T.lowL m r
end
def T.small (m : Int) (t : T) : Bool := decide (t.size ≤ 300) && decide (t.dep ≤ 30) && t.low m
theorem depL_snoc : ∀ (l : List T) (t : T), T.depL (l ++ [t]) = max (T.depL l) t.dep
  | [], t => by simp [T.depL]
  | x :: l, t => by rw [List.cons_append, T.depL, T.depL, depL_snoc l t, Nat.max_assoc]
theorem depL_take {l : List T} {k : Nat} (h : k < l.length) : T.depL (l.take (k + 1)) = max (T.depL (l.take k)) (tget l k).dep := by
  rw [List.take_succ_eq_append_getElem h, depL_snoc, tget_lt h]
theorem sizeL_snoc : ∀ (l : List T) (t : T), T.sizeL (l ++ [t]) = T.sizeL l + t.size
  | [], t => by simp [T.sizeL]
  | x :: l, t => by rw [List.cons_append, T.sizeL, T.sizeL, sizeL_snoc l t, Nat.add_assoc]
theorem sizeL_take1 {l : List T} {k : Nat} (h : k < l.length) : T.sizeL (l.take (k + 1)) = T.sizeL (l.take k) + (tget l k).size := by
  rw [List.take_succ_eq_append_getElem h, sizeL_snoc, tget_lt h]
mutual
theorem T.dep_le : ∀ t : T, t.dep ≤ t.size
  | .mk f l => by rw [T.dep, T.size]; have := T.depL_le l; omega
theorem T.depL_le : ∀ l : List T, T.depL l ≤ T.sizeL l
  | [] => Nat.le_refl _
  | t :: r => by rw [T.depL, T.sizeL]; have := T.dep_le t; have := T.depL_le r; omega
end
theorem depL_take_le {l : List T} {k : Nat} : T.depL (l.take k) ≤ T.sizeL l := by
  have h1 := T.depL_le (l.take k)
  have h2 : T.sizeL (l.take k) ≤ T.sizeL l := T.sizeL_take_le l k
  omega
theorem lowL_mem {m : Int} : ∀ {l : List T}, T.lowL m l = true ↔ ∀ t ∈ l, t.low m = true
  | [] => by simp [T.lowL]
  | t :: r => by rw [T.lowL, Bool.and_eq_true, lowL_mem (l := r)]; simp
theorem low_yes {m f : Int} {l : List T} (hf : ¬ f < 0) (h : ∀ i, i < l.length → (tget l i).low m = true) : (T.mk f l).low m = true := by
  rw [T.low, if_neg hf]
  refine lowL_mem.2 fun t ht => ?_
  obtain ⟨i, hi, rfl⟩ := List.getElem_of_mem ht
  have := h i hi
  rwa [tget_lt hi] at this
theorem low_no {m f : Int} {l : List T} {k : Nat} (hf : ¬ f < 0) (hk : k < l.length) (h : ¬ (tget l k).low m = true) : (T.mk f l).low m = false := by
  rw [T.low, if_neg hf, Bool.eq_false_iff]
  intro e
  exact h (lowL_mem.1 e _ (tget_mem hk))
mutual
theorem T.low_plain {m : Int} : ∀ t : T, t.low m = true → t.plain = true
  | .mk f l, h => by
    rw [T.low] at h
    rw [T.plain]
    split at h
    · rw [Bool.and_eq_true, decide_eq_true_eq, decide_eq_true_eq] at h
      have : l = [] := List.length_eq_zero_iff.1 h.2
      subst this
      simp [T.plainL]
    · rename_i hf
      rw [T.lowL_plain l h, decide_eq_true (show 0 ≤ f by omega)]; rfl
theorem T.lowL_plain {m : Int} : ∀ l : List T, T.lowL m l = true → T.plainL l = true
  | [], _ => rfl
  | t :: r, h => by
    rw [T.lowL, Bool.and_eq_true] at h
    rw [T.plainL, T.low_plain t h.1, T.lowL_plain r h.2]; rfl
end
theorem small_plain {m : Int} {t : T} (h : t.small m = true) : t.plain = true := by
  unfold T.small at h
  rw [Bool.and_eq_true] at h
  exact T.low_plain t h.2
mutual
/-- The variables of a term. -/
def T.hasV (v : Int) : T → Prop
  | .mk f l => (f < 0 ∧ v = -1 - f) ∨ T.hasVL v l
def T.hasVL (v : Int) : List T → Prop
  | [] => False
  | t :: r => t.hasV v ∨ T.hasVL v r
end
theorem hasVL_mem {v : Int} : ∀ {l : List T}, T.hasVL v l ↔ ∃ t ∈ l, t.hasV v
  | [] => by simp [T.hasVL]
  | t :: r => by rw [T.hasVL, hasVL_mem (l := r)]; simp
/-- A row of variables of those that were there, or of terms. -/
def VarsOf (l0 : List Int) (q : Int → Prop) (l : List Int) : Prop := ∀ x ∈ l, x ∈ l0 ∨ q x

end Go.Proofs.Ytcmfjnadjddboaa

/- What matching makes of terms: plain. -/
namespace Go.Proofs.Ytcmfjnadjddboaa
open Go.RowKit Go
set_option linter.unusedVariables false
set_option linter.unusedSimpArgs false

/-- What was bound is bound. -/
def Ext (s s' : List Bd) : Prop := ∀ v o, subFind s v = some o → subFind s' v = some o
theorem Ext.refl (s : List Bd) : Ext s s := fun _ _ h => h
theorem Ext.trans {a b c : List Bd} (h1 : Ext a b) (h2 : Ext b c) : Ext a c := fun v o h => h2 v o (h1 v o h)
theorem subFind_snoc {st : List Bd} {b : Bd} {v : Int} : subFind (st ++ [b]) v = match subFind st v with | some o => some o | none => if b.var = v then some b.t else none := by
  unfold subFind
  rw [List.find?_append]
  cases st.find? (fun b => decide (b.var = v)) with
  | some o => rfl
  | none =>
    by_cases h : b.var = v
    · simp [h]
    · simp [h]
theorem Ext.snoc {st : List Bd} {b : Bd} : Ext st (st ++ [b]) := fun v o h => by rw [subFind_snoc, h]
mutual
theorem T.mt_ext : ∀ (p : T) (st : List Bd) (t : T) (s : List Bd), p.mt st t = some s → Ext st s
  | .mk f l, st, t, s, h => by
    rw [T.mt] at h
    split at h
    · split at h
      · cases h; exact Ext.snoc
      · split at h
        · cases h; exact Ext.refl _
        · cases h
    · split at h
      · exact T.mtL_ext l st t.args s h
      · cases h
theorem T.mtL_ext : ∀ (l : List T) (st : List Bd) (ts : List T) (s : List Bd), T.mtL l st ts = some s → Ext st s
  | [], st, _, s, h => by rw [T.mtL] at h; cases h; exact Ext.refl _
  | _ :: _, st, [], s, h => by rw [T.mtL] at h; cases h; exact Ext.refl _
  | p :: ps, st, t :: ts, s, h => by
    rw [T.mtL] at h
    split at h
    · cases h
    · rename_i s1 h1
      exact (T.mt_ext p st t s1 h1).trans (T.mtL_ext ps s1 ts s h)
end
theorem plain_nil {f : Int} {l : List T} (h : (T.mk f l).plain = true) (hf : f < 0) : l = [] := by
  rw [T.plain, Bool.and_eq_true, decide_eq_false (by omega), Bool.false_or] at h
  exact List.isEmpty_iff.1 h.2
theorem plain_args {f : Int} {l : List T} (h : (T.mk f l).plain = true) : T.plainL l = true := by
  rw [T.plain, Bool.and_eq_true] at h; exact h.1
mutual
/-- What was matched becomes the term. -/
theorem T.mt_app : ∀ (p : T) (st : List Bd) (t : T) (s s' : List Bd), p.plain = true → p.mt st t = some s → Ext s s' → p.app s' = t
  | .mk f l, st, t, s, s', hp, h, he => by
    have h0 := h
    rw [T.mt] at h
    split at h
    · rename_i hf
      split at h
      · rename_i hn
        cases h
        exact app_some hf (he _ _ (by rw [subFind_snoc, hn]; simp))
      · rename_i o ho
        split at h
        · rename_i hs
          cases h
          rw [app_some hf (he _ _ ho)]
          exact (T.same_iff o t).1 hs
        · cases h
    · rename_i hf
      split at h
      · rename_i hc
        rw [app_none (fun q => absurd q hf), T.mtL_app l st t.args s s' (plain_args hp) hc.2 h he, hc.1, T.eta]
      · cases h
theorem T.mtL_app : ∀ (l : List T) (st : List Bd) (ts : List T) (s s' : List Bd), T.plainL l = true → l.length = ts.length → T.mtL l st ts = some s → Ext s s' → l.map (T.app s') = ts
  | [], st, ts, s, s', _, hl, h, _ => by cases ts with | nil => rfl | cons _ _ => simp at hl
  | _ :: _, st, [], s, s', _, hl, _, _ => by simp at hl
  | p :: ps, st, t :: ts, s, s', hp, hl, h, he => by
    rw [T.plainL, Bool.and_eq_true] at hp
    rw [T.mtL] at h
    split at h
    · cases h
    · rename_i s1 h1
      rw [List.map_cons, T.mt_app p st t s1 s' hp.1 h1 ((T.mtL_ext ps s1 ts s h).trans he), T.mtL_app ps s1 ts s s' hp.2 (by simpa using hl) h he]
end
theorem subFind_var {s : List Bd} {v : Int} {o : T} (h : subFind s v = some o) : (⟨v, o⟩ : Bd) ∈ s := by
  unfold subFind at h
  rw [Option.map_eq_some_iff] at h
  obtain ⟨b, hb, rfl⟩ := h
  have h1 := List.mem_of_find?_eq_some hb
  have h2 := List.find?_some hb
  have : b.var = v := by simpa using h2
  rw [← this]; exact h1
theorem subFind_uniq {s : List Bd} {b : Bd} (hn : (s.map (·.var)).Nodup) (h : b ∈ s) : subFind s b.var = some b.t := by
  obtain ⟨i, hi, rfl⟩ := List.getElem_of_mem h
  have := subFind_dget hn hi
  rwa [dget_lt hi] at this
theorem sorted_nd {R : List Bd} (h : R.Pairwise fun x y => x.var < y.var) : (R.map (·.var)).Nodup := by
  unfold List.Nodup
  rw [List.pairwise_map]
  exact h.imp fun h e => by omega
/-- What is itself need not be told. -/
theorem SubOf.find {s R : List Bd} (h : SubOf s R) (hn : (s.map (·.var)).Nodup) (v : Int) : (subFind R v = subFind s v) ∨ (subFind R v = none ∧ subFind s v = some (.mk (-1 - v) [])) := by
  cases hs : subFind s v with
  | none =>
    left
    cases hr : subFind R v with
    | none => rfl
    | some o =>
      have := ((h.mem _).1 (subFind_var hr)).1
      have := subFind_uniq hn this
      rw [hs] at this; cases this
  | some o =>
    have hm := subFind_var hs
    by_cases hi : (⟨v, o⟩ : Bd).itself = true
    · right
      have e := itself_iff.1 hi
      have ho : o = .mk (-1 - v) [] := by
        cases o with
        | mk f l => simp at e; rw [e.1, e.2]
      refine ⟨?_, by rw [ho]⟩
      cases hr : subFind R v with
      | none => rfl
      | some o' =>
        have h1 := (h.mem _).1 (subFind_var hr)
        have h2 := subFind_uniq hn h1.1
        rw [hs] at h2
        obtain rfl := Option.some.inj h2
        rw [hi] at h1; exact absurd h1.2 (by decide)
    · left
      have h1 := (h.mem _).2 ⟨hm, Bool.eq_false_iff.2 hi⟩
      exact subFind_uniq (sorted_nd h.sorted) h1
mutual
theorem T.app_sub {s R : List Bd} (h : SubOf s R) (hn : (s.map (·.var)).Nodup) : ∀ p : T, p.plain = true → p.app R = p.app s
  | .mk f l, hp => by
    by_cases hf : f < 0
    · obtain rfl := plain_nil hp hf
      rcases h.find hn (-1 - f) with e | ⟨e1, e2⟩
      · cases hs : subFind s (-1 - f) with
        | none => rw [app_none (fun _ => by rw [e, hs]), app_none (fun _ => hs)]; rfl
        | some o => rw [app_some hf (by rw [e, hs]), app_some hf hs]
      · rw [app_none (fun _ => e1), app_some hf e2, show -1 - (-1 - f) = f by omega]; rfl
    · rw [app_none (fun q => absurd q hf), app_none (fun q => absurd q hf), T.appL_sub h hn l (plain_args hp)]
theorem T.appL_sub {s R : List Bd} (h : SubOf s R) (hn : (s.map (·.var)).Nodup) : ∀ l : List T, T.plainL l = true → l.map (T.app R) = l.map (T.app s)
  | [], _ => rfl
  | t :: r, hp => by
    rw [T.plainL, Bool.and_eq_true] at hp
    rw [List.map_cons, List.map_cons, T.app_sub h hn t hp.1, T.appL_sub h hn r hp.2]
end
/-- What is bound is what the substitution says. -/
def Says (z st : List Bd) : Prop := ∀ v o, subFind st v = some o → o = (T.mk (-1 - v) []).app z
theorem Says.snoc {z st : List Bd} {f : Int} (h : Says z st) : Says z (st ++ [⟨-1 - f, (T.mk f []).app z⟩]) := fun v o q => by
  rw [subFind_snoc] at q
  split at q
  · rename_i o' ho
    cases q; exact h v o ho
  · split at q
    · rename_i e
      cases q
      have e' : -1 - f = v := e
      rw [← e', show -1 - (-1 - f) = f by omega]
    · cases q
mutual
theorem T.mt_says (z : List Bd) : ∀ (p : T) (st : List Bd), p.plain = true → Says z st → ∃ s, p.mt st (p.app z) = some s ∧ Says z s ∧ ∀ v, p.hasV v → (subFind s v).isSome = true
  | .mk f l, st, hp, hs => by
    by_cases hf : f < 0
    · obtain rfl := plain_nil hp hf
      rw [T.mt, if_pos hf]
      cases hq : subFind st (-1 - f) with
      | none =>
        refine ⟨_, rfl, hs.snoc, fun v hv => ?_⟩
        rcases hv with ⟨_, rfl⟩ | hv
        · rw [subFind_snoc, hq]; simp
        · exact hv.elim
      | some o =>
        have e := hs _ _ hq
        rw [show -1 - (-1 - f) = f by omega] at e
        refine ⟨st, by rw [← e]; exact if_pos (T.same_refl o), hs, fun v hv => ?_⟩
        rcases hv with ⟨_, rfl⟩ | hv
        · rw [hq]; rfl
        · exact hv.elim
    · obtain ⟨s, h1, h2, h3⟩ := T.mtL_says z l st (plain_args hp) hs
      refine ⟨s, ?_, h2, fun v hv => ?_⟩
      · rw [app_none (fun q => absurd q hf), T.mt, if_neg hf, if_pos ⟨rfl, by simp⟩]; exact h1
      · rcases hv with ⟨q, _⟩ | hv
        · exact absurd q hf
        · exact h3 v hv
theorem T.mtL_says (z : List Bd) : ∀ (l : List T) (st : List Bd), T.plainL l = true → Says z st → ∃ s, T.mtL l st (l.map (T.app z)) = some s ∧ Says z s ∧ ∀ v, T.hasVL v l → (subFind s v).isSome = true
  | [], st, _, hs => ⟨st, by rw [List.map_nil, T.mtL], hs, fun v hv => hv.elim⟩
  | p :: ps, st, hp, hs => by
    rw [T.plainL, Bool.and_eq_true] at hp
    obtain ⟨s1, h1, h2, h3⟩ := T.mt_says z p st hp.1 hs
    obtain ⟨s2, k1, k2, k3⟩ := T.mtL_says z ps s1 hp.2 h2
    refine ⟨s2, ?_, k2, fun v hv => ?_⟩
    · rw [List.map_cons, T.mtL, h1]; exact k1
    · rcases hv with hv | hv
      · obtain ⟨o, ho⟩ := Option.isSome_iff_exists.1 (h3 v hv)
        rw [T.mtL_ext ps s1 _ s2 k1 v o ho]; rfl
      · exact k3 v hv
end
/-- The law's parts. -/
theorem makes_one {p t : T} {R : List Bd} (hok : mOk p t [] = true) (hR : SubOf (mTo p t []) R) : p.app R = t := by
  unfold mOk at hok
  rw [Bool.and_eq_true, Bool.and_eq_true] at hok
  obtain ⟨s, hs⟩ := Option.isSome_iff_exists.1 hok.2
  have hf := (fin_ok hok.1.1 hok.1.2 hs).2
  rw [hf] at hR
  rw [T.app_sub hR (T.mt_nd p [] t s List.nodup_nil hs) p hok.1.1]
  exact T.mt_app p [] t s s hok.1.1 hs (Ext.refl s)
theorem makes_is {p : T} {z : List Bd} (hp : p.plain = true) (hx : (p.app z).plain = true) : mOk p (p.app z) [] = true := by
  obtain ⟨s, h1, _⟩ := T.mt_says z p [] hp (fun v o h => (nomatch h))
  exact (fin_ok hp hx h1).1
theorem makes_two {p : T} {z R : List Bd} {v : Int} (hp : p.plain = true) (hx : (p.app z).plain = true) (hR : SubOf (mTo p (p.app z) []) R) (hv : p.hasV v) (hv0 : 0 ≤ v) : (T.mk (-1 - v) []).app R = (T.mk (-1 - v) []).app z := by
  obtain ⟨s, h1, h2, h3⟩ := T.mt_says z p [] hp (fun v o h => (nomatch h))
  have hf := (fin_ok hp hx h1).2
  rw [hf] at hR
  rw [T.app_sub hR (T.mt_nd p [] _ s List.nodup_nil h1) _ (by rw [T.plain]; simp [T.plainL])]
  obtain ⟨o, ho⟩ := Option.isSome_iff_exists.1 (h3 v hv)
  rw [app_some (by omega) (show subFind s (-1 - (-1 - v)) = some o by rw [show -1 - (-1 - v) = v by omega]; exact ho)]
  exact h2 v o ho
mutual
theorem T.hasV_nn {v : Int} : ∀ p : T, p.hasV v → 0 ≤ v
  | .mk f l, h => by
    rcases h with ⟨h1, h2⟩ | h
    · omega
    · exact T.hasVL_nn l h
theorem T.hasVL_nn {v : Int} : ∀ l : List T, T.hasVL v l → 0 ≤ v
  | [], h => h.elim
  | t :: r, h => h.elim (T.hasV_nn t) (T.hasVL_nn r)
end
mutual
theorem T.app_size {z : List Bd} {B : Nat} (hB : 1 ≤ B) (hz : ∀ b ∈ z, b.t.size ≤ B) : ∀ p : T, (p.app z).size ≤ p.size * B
  | .mk f l => by
    have h1 := T.appL_size hB hz l
    rw [T.size]
    have e : (1 + T.sizeL l) * B = B + T.sizeL l * B := by rw [Nat.add_mul, Nat.one_mul]
    by_cases hf : f < 0
    · cases hs : subFind z (-1 - f) with
      | none => rw [app_none (fun _ => hs), T.size]; omega
      | some o =>
        rw [app_some hf hs]
        have := hz _ (subFind_var hs)
        simp only at this
        omega
    · rw [app_none (fun q => absurd q hf), T.size]; omega
theorem T.appL_size {z : List Bd} {B : Nat} (hB : 1 ≤ B) (hz : ∀ b ∈ z, b.t.size ≤ B) : ∀ l : List T, T.sizeL (l.map (T.app z)) ≤ T.sizeL l * B
  | [] => by simp [T.sizeL]
  | t :: r => by
    have h1 := T.app_size hB hz t
    have h2 := T.appL_size hB hz r
    rw [List.map_cons, T.sizeL, T.sizeL, Nat.add_mul]; omega
end
mutual
/-- What is bound is no larger than what was matched. -/
theorem T.mt_sz {B : Nat} : ∀ (p : T) (st : List Bd) (t : T) (s : List Bd), (∀ b ∈ st, b.t.size ≤ B) → t.size ≤ B → p.mt st t = some s → ∀ b ∈ s, b.t.size ≤ B
  | .mk f l, st, t, s, hs, ht, h => by
    rw [T.mt] at h
    split at h
    · split at h
      · cases h
        intro b hb
        rcases List.mem_append.1 hb with q | q
        · exact hs b q
        · rw [List.mem_singleton] at q; rw [q]; exact ht
      · split at h
        · cases h; exact hs
        · cases h
    · split at h
      · exact T.mtL_sz l st t.args s hs (by rw [T.size_eq] at ht; omega) h
      · cases h
theorem T.mtL_sz {B : Nat} : ∀ (l : List T) (st : List Bd) (ts : List T) (s : List Bd), (∀ b ∈ st, b.t.size ≤ B) → T.sizeL ts ≤ B → T.mtL l st ts = some s → ∀ b ∈ s, b.t.size ≤ B
  | [], st, _, s, hs, _, h => by rw [T.mtL] at h; cases h; exact hs
  | _ :: _, st, [], s, hs, _, h => by rw [T.mtL] at h; cases h; exact hs
  | p :: ps, st, t :: ts, s, hs, ht, h => by
    rw [T.sizeL] at ht
    rw [T.mtL] at h
    split at h
    · cases h
    · rename_i s1 h1
      exact T.mtL_sz ps s1 ts s (T.mt_sz p st t s1 hs (by omega) h1) (by omega) h
end
theorem mTo_sz (p t : T) : ∀ b ∈ mTo p t [], b.t.size ≤ t.size := by
  unfold mTo
  split
  · cases h : p.mt [] t with
    | none => intro b hb; cases hb
    | some s => exact T.mt_sz p [] t s (fun b hb => nomatch hb) (Nat.le_refl _) h
  · intro b hb; cases hb
theorem subOf_isSub {w0 w : World} {p t : T} {R : List Bd} {a : Option Addr} {c : Nat} (hR : SubOf (mTo p t []) R) (hN : NewBs w0 w R a c) (hp : p.size ≤ 4294967296) (ht : t.size ≤ 4294967296) : IsSub w R a c :=
  ⟨hN.isBs, hN.2.1, hN.2.2, by have z1 := hR.length_le; have z2 := (mTo_take p t []).2.1; simp at z2; omega, fun b hb => Nat.le_trans (mTo_sz p t b ((hR.mem b).1 hb).1) ht⟩
theorem small_size {m : Int} {t : T} (h : t.small m = true) : t.size ≤ 300 := by
  unfold T.small at h
  simp at h
  exact h.1.1
mutual
theorem T.low_hasV {m v : Int} : ∀ t : T, t.low m = true → t.hasV v → v < m
  | .mk f l, h, hv => by
    rw [T.low] at h
    split at h
    · rw [Bool.and_eq_true, decide_eq_true_eq, decide_eq_true_eq] at h
      have : l = [] := List.length_eq_zero_iff.1 h.2
      subst this
      rcases hv with ⟨_, e⟩ | hv
      · omega
      · exact hv.elim
    · rename_i hf
      rcases hv with ⟨e, _⟩ | hv
      · exact absurd e hf
      · exact T.lowL_hasV l h hv
theorem T.lowL_hasV {m v : Int} : ∀ l : List T, T.lowL m l = true → T.hasVL v l → v < m
  | [], _, hv => hv.elim
  | t :: r, h, hv => by
    rw [T.lowL, Bool.and_eq_true] at h
    exact hv.elim (T.low_hasV t h.1) (T.lowL_hasV r h.2)
end
theorem small_hasV {m v : Int} {t : T} (h : t.small m = true) (hv : t.hasV v) : v < m := by
  unfold T.small at h
  rw [Bool.and_eq_true] at h
  exact T.low_hasV t h.2 hv
end Go.Proofs.Ytcmfjnadjddboaa

namespace Go.Proofs.Ytcmfjnadjddboaa
open Go.RowKit Go
set_option linter.unusedVariables false
set_option linter.unusedSimpArgs false

section
variable {α β : Type} {E : Elt α} {E2 : Elt β} {S S' : Nat → Prop} {w w' : World} {e e2 c c2 n n2 : Nat} {a a2 : Option Addr} {l : List α} {l2 : List β}
/-- A row of one's own: its elements lie in blocks of 'S', none of which is the row's. -/
structure RowD (E : Elt α) (S : Nat → Prop) (w : World) (e : Nat) (a : Option Addr) (c n : Nat) (l : List α) : Prop where
  row : ∃ xs, w.ownsRow 0 e E.k (.slice a n c) n xs ∧ Elts E S w l xs
  len : n = l.length
  ne : ∀ b, S b → (Value.slice a n c).ownBlock ≠ some b
theorem RowD.nil : RowD E S w e none 0 0 ([] : List α) := ⟨⟨[], World.ownsRow_nil _ _ _ _, rfl⟩, rfl, fun _ _ h => (nomatch h)⟩
theorem RowD.rowE (h : RowD E S w e a c n l) : RowE E w 0 e a c n l := by
  obtain ⟨⟨xs, h1, h2⟩, h3, h4⟩ := h
  exact ⟨⟨xs, h1, Elts.mono (fun b hb _ => ⟨Nat.zero_le _, h4 b hb⟩) h2⟩, h3⟩
theorem RowD.lt (h : RowD E S w e a c n l) : ∀ b, (Value.slice a n c).ownBlock = some b → b < w.heap.size := fun b hb => (h.rowE.lt b hb).2
theorem RowD.mono (h : RowD E S w e a c n l) (hb : ∀ b, S b → b < w.heap.size → S' b) (hne : ∀ b, S' b → (Value.slice a n c).ownBlock ≠ some b) : RowD E S' w e a c n l := by
  obtain ⟨⟨xs, h1, h2⟩, h3, h4⟩ := h
  exact ⟨⟨xs, h1, Elts.mono hb h2⟩, h3, hne⟩
/-- Blocks of the row and of its elements are as they were. -/
theorem RowD.chg {Z : Nat → Prop} (h : RowD E S w e a c n l) (hc : Chg Z w w') (h1 : ∀ b, (Value.slice a n c).ownBlock = some b → ¬ Z b) (h2 : ∀ b, S b → ¬ Z b) : RowD E S w' e a c n l := by
  obtain ⟨⟨xs, k1, k2⟩, k3, k4⟩ := h
  refine ⟨⟨xs, ⟨k1.1, k1.2.imp id ?_⟩, Elts.keep (fun p v hp hv => ?_) k2⟩, k3, k4⟩
  · rintro ⟨g, cap, cur, e1, e2, e3, r⟩
    refine ⟨g, cap, cur, e1, e2, ?_, r⟩
    rw [hc.block g (Array.getElem?_eq_some_iff.1 e3).1 (h1 g (by rw [e1]; rfl))]; exact e3
  · have hb := World.block_lt_of_cell? _ _ hv
    unfold World.cell? at hv ⊢
    rw [hc.block p.block hb (h2 _ hp)]; exact hv
theorem RowD.below (h : RowD E S w e a c n l) (hb : Below w.heap.size w w') : RowD E S w' e a c n l := h.chg (Z := fun _ => False) (.ofBelow hb) (fun _ _ => id) (fun _ _ => id)
theorem RowD.inRow (h : RowD E S w e a c n l) : InRow E (fun _ => True) w l a ∧ n ≤ c ∧ c ≤ maxLen := by
  obtain ⟨h1, h2, h3, h4⟩ := h.rowE.inRow
  rcases Nat.eq_zero_or_pos E.k with hk | hk
  · exact ⟨fun i hi => by
      obtain ⟨b, o, cs, e1, _, e3, e4⟩ := h1 i hi
      exact ⟨b, o, cs, e1, trivial, E.mono (fun _ _ _ => trivial) e3, e4⟩, h3, h4⟩
  · exact ⟨h1.mono hk (fun _ _ _ => trivial), h3, h4⟩
theorem Elts.take : ∀ {l : List α} {xs : List Value} (k : Nat), Elts E S w l xs → Elts E S w (l.take k) (xs.take (k * E.k))
  | [], xs, k, h => by have : xs = [] := h; subst this; simp; exact rfl
  | x :: l, xs, 0, _ => by simp; exact rfl
  | x :: l, xs, k + 1, ⟨cs, r, e, h3, h4⟩ => by
    subst e
    refine ⟨cs, r.take (k * E.k), ?_, h3, Elts.take k h4⟩
    rw [List.take_append, E.len h3, Nat.add_mul, Nat.one_mul, Nat.add_sub_cancel, List.take_of_length_le (by rw [E.len h3]; omega)]
theorem RowD.take (h : RowD E S w e a c n l) (k : Nat) (hk : k ≤ n) : RowD E S w e a c k (l.take k) := by
  obtain ⟨⟨xs, h1, h2⟩, rfl, h4⟩ := h
  refine ⟨⟨xs.take (k * E.k), ⟨by rw [List.length_take, h1.1]; exact Nat.min_eq_left (Nat.mul_le_mul_right _ hk), ?_⟩, Elts.take k h2⟩, by simp; omega, fun b hb => by
    have := h4 b hb
    cases a <;> exact this⟩
  rcases h1.2 with ⟨e1, h0⟩ | ⟨g, cap, cur, e1, e2, e3, e4, e5, e6, e7⟩
  · simp only [Value.slice.injEq] at e1
    obtain ⟨rfl, e, rfl⟩ := e1
    left
    have : k = 0 := by omega
    subst this
    exact ⟨rfl, by simp⟩
  · right
    simp only [Value.slice.injEq, true_and] at e1
    obtain ⟨rfl, rfl⟩ := e1
    exact ⟨g, _, cur, rfl, e2, e3, by omega, e5, e6, by rw [← e7, List.take_take, Nat.min_eq_left (Nat.mul_le_mul_right _ hk)]⟩
theorem RowD.neBlk {g ty : Nat} {cs : Array Value} (h : RowD E S w e a c n l) (hB : Blk w g ty cs) (he : e ≠ ty) : (Value.slice a n c).ownBlock ≠ some g := h.rowE.neBlk hB he
end
section
variable {α : Type} {E : Elt α} {P : Program} {w : World} {a : Act} {K : Act → World → Prop} {Q : Exit → Act → World → Prop} {o : Oper} {S S2 : Nat → Prop}
/-- One element more, by append. -/
theorem wp_appD {s x : Operand} {t e : Nat} {z : Value} {size bytes n rc g1 : Nat} {ra : Option Addr} {l : List α} {y : α} {cs : List Value} (hk : E.k = size) (ht : P.underlying t = some (.slice e)) (hinfo : (P.info? e).map (fun i => (i.zero, i.size, i.bytes)) = some (some z, size, bytes)) (hzs : z.cells.size = size) (hsz : 0 < size)
    (ho : o.op = .call { callee := .builtin .append, args := #[s, x], argTypes := #[t, t] }) (hs : a.eval s = .slice ra n rc) (hx : a.eval x = .slice (some ⟨g1, 0, none⟩) 1 1) (hrow : RowD E S w e ra rc n l) (hB : Blk w g1 e cs.toArray) (hin : E.In S2 w y cs) (hS2 : ∀ b, S2 b → (Value.slice ra n rc).ownBlock ≠ some b)
    (hb : (n + 1) * bytes ≤ 140737488355328) (hn : n + 1 ≤ 9223372036854775807) (hK : ∀ ra' rc' w', RowD E (fun b => (S b ∨ S2 b) ∧ b < w.heap.size) w' e ra' rc' (n + 1) (l ++ [y]) → Chg (fun b => (Value.slice ra n rc).ownBlock = some b) w w' → (∀ b, (Value.slice ra' (n + 1) rc').ownBlock = some b → (Value.slice ra n rc).ownBlock = some b ∨ w.heap.size ≤ b) → K (a.put o.dst (.slice ra' (n + 1) rc')) w') : o.wp P a w K Q := by
  subst hk
  obtain ⟨⟨xs, h1, h2⟩, rfl, h4⟩ := hrow
  refine wp_app (m := 1) (news := cs) ht hinfo hzs hsz ho hs hx h1 (SrcIs.ofBlk hB) (by rw [E.len hin]; omega) (E.one hin) hb hn (Nat.zero_le _) (fun ra' rc' w' h => hK _ _ _ ?_ ⟨h.grow.os, h.grow.tape, h.grow.output, h.grow.size, fun k hk hSk => h.grow.block k hk (fun e => hSk e.symm)⟩ ?_)
  · have key : ∀ (p : Addr) (v : Value), (Value.slice ra l.length rc).ownBlock ≠ some p.block → w.cell? p = some v → w'.cell? p = some v := fun p v hp hv => h.grow.cell hv (Ne.symm hp)
    have ne2 : ∀ b, (S b ∨ S2 b) → (Value.slice ra l.length rc).ownBlock ≠ some b := fun b q => q.elim (h4 b) (hS2 b)
    refine ⟨⟨xs ++ cs, h.own, ?_⟩, by simp, fun b hb e => ?_⟩
    · refine Elts.keep (w := w) (fun p v hp hv => key p v (ne2 _ hp.1) hv) ?_
      exact Elts.snoc (E.mono (fun b hb hlt => ⟨.inr hb, hlt⟩) hin) (Elts.mono (fun b hb hlt => ⟨.inl hb, hlt⟩) h2)
    · rcases h.at_ with e2 | e2
      · exact ne2 b hb.1 (e2 ▸ e)
      · rw [e2] at e; have := Option.some.inj e; have := hb.2; omega
  · intro b hb
    rcases h.at_ with e2 | e2
    · exact .inl (e2 ▸ hb)
    · rw [e2] at hb; exact .inr (Nat.le_of_eq (Option.some.inj hb))
end

end Go.Proofs.Ytcmfjnadjddboaa
