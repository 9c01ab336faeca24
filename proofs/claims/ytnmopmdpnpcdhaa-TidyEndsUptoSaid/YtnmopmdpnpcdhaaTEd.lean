/- The search for literals' places: plain. -/
import Derived.Test.YtnmopmdpnpcdhaaTEc

/- The matcher matches terms. -/
namespace Go.Proofs.Ytnmopmdpnpcdhaa
open Go.RowKit Go
set_option linter.unusedVariables false
set_option linter.unusedSimpArgs false
theorem zeroPt (w : World) : (zeroValue 103).run Try.prog w = .ok (.pointer none) w := by kernel_rfl
set_option maxRecDepth 100000 in
theorem term_any {g : Nat} {st : List Bd} {C A : Nat → Prop} (p t : T) (w : World) (u v : Value) (h : MatAt w g st C) (hp : InT A w p u) (ht : IsT w t v) (hA : ∀ b, A b → ¬ C b) (hzp : p.size ≤ 4294967296) (hzt : t.size ≤ 4294967296) (hn : st.length + p.size ≤ 1099511627776) :
  Calls Try.prog 68 #[.pointer (some ⟨g, 0, none⟩), u, v] w (Ret fun v' w' => (∃ C', v' = .bool (mOk p t st) ∧ MatAt w' g (mTo p t st) C' ∧ ∀ b, C' b → C b ∨ w.heap.size ≤ b) ∧ Chg C w w') := by
 have h0 := h
 obtain ⟨mb, es, cl, a, c, ps, hM⟩ := h
 have hgm := hM.gmb
 have hgl := hM.blk.lt
 have hml := hM.map.lt
 obtain ⟨hcap1, hcap2⟩ := hM.cap
 obtain ⟨hfp, pa0, pc0, rfl, _, _, _⟩ := hp.form
 obtain ⟨hft, ta0, tc0, rfl, _, _, _⟩ := ht.form
 refine Calls.walk (l := [.pointer (some ⟨g, 0, none⟩), .agg #[.int .i64 p.f, .slice pa0 p.args.length pc0], .agg #[.int .i64 t.f, .slice ta0 t.args.length tc0]]) Try.func68 rfl (by kernel_rfl) ?_
 refine WC.sub (K' := [(0, .pointer (some ⟨g, 0, none⟩)), (1, .agg #[.int .i64 p.f, .slice pa0 p.args.length pc0]), (2, .agg #[.int .i64 t.f, .slice ta0 t.args.length tc0])]) ⟨rfl, rfl, rfl, trivial⟩ ?_
 refine WC.seq (WC.region ?_)
 refine WL.step (post := NewBlk w 58 #[.int .i64 p.f, .slice pa0 p.args.length pc0]) rfl rfl rfl (fun za zC zh zk => box_58 rfl (zh.ev rfl) (zk _ _ (newBlk _ _ _))) ?_
 rintro _ w1 ⟨g2, rfl, hg3, hB4, hb5, hz6⟩
 have hl7 : g < g2 := by have z1 := hM.blk.lt; omega
 have hl8 : mb < g2 := by have z1 := hM.map.lt; omega
 have hl9 : w.heap.size ≤ g2 := by omega
 refine WL.step (post := NewBlk w1 58 #[.int .i64 t.f, .slice ta0 t.args.length tc0]) rfl rfl rfl (fun za zC zh zk => box_58 rfl (zh.ev rfl) (zk _ _ (newBlk _ _ _))) ?_
 rintro _ w10 ⟨g11, rfl, hg12, hB13, hb14, hz15⟩
 have hl16 : g < g11 := by have z1 := hM.blk.lt; have z2 := (hb5).size; omega
 have hl17 : g2 < g11 := by have z1 := hB4.lt; omega
 have hl18 : mb < g11 := by have z1 := hM.map.lt; have z2 := (hb5).size; omega
 have hl19 : w.heap.size ≤ g11 := by have z2 := (hb5).size; omega
 refine WL.asg rfl rfl rfl rfl rfl (WL.nil (WE.next (WC.scope rfl (WC.seq (WC.seq ?_)))))
 have hB20 := hB4.below hb14
 have hb21 : Below w.heap.size w w10 := (bstep hb5 hb14)
 refine WC.opt [(true, .val (.pointer (some ⟨g, 0, none⟩))), (true, .val (.bool false)), (true, .val (.bool false)), ((true && !false), .val (.bool ((p.plain)))), ((true && !false), .val (.bool ((!(p.plain))))), (true, .val (.bool ((!(p.plain))))), (true, .val (.bool ((!(p.plain))))), ((true && !(!(p.plain))), .val (.bool ((t.plain)))), ((true && !(!(p.plain))), .val (.bool ((!(t.plain))))), (true, .val (.bool (((!(p.plain)) || (!(t.plain))))))] [(0, .pointer (some ⟨g, 0, none⟩)), (1, .agg #[.int .i64 p.f, .slice pa0 p.args.length pc0]), (2, .agg #[.int .i64 t.f, .slice ta0 t.args.length tc0]), (4, .pointer (some ⟨g2, 0, none⟩)), (5, .pointer (some ⟨g11, 0, none⟩)), (6, .bool false)] ⟨rfl, rfl, rfl, rfl, rfl, rfl, trivial⟩ (by kernel_rfl) (by kernel_rfl) (by kernel_rfl) ?_ ?_
 ·refine ⟨⟨true, .none rfl, fun h w => optUndef h, fun zβ za zw zc => ?_⟩, ?_⟩
  ·exact wp_move rfl (zc.kn.ev rfl) ⟨_, rfl, Below.refl _ _, optDef zβ rfl⟩
  refine ⟨⟨true, .none rfl, fun h w => optUndef h, fun zβ za zw zc => ?_⟩, ?_⟩
  ·exact eqlp_78 rfl ((evt za 14).trans (optVal (zc.dep 0 14 (by kernel_rfl)) rfl rfl)) (zc.kn.ev rfl) ⟨_, rfl, Below.refl _ _, optDef zβ rfl⟩
  refine ⟨⟨true, .none rfl, fun h w => optUndef h, fun zβ za zw zc => ?_⟩, ?_⟩
  ·exact wp_move rfl ((evt za 15).trans (optVal (zc.dep 1 15 (by kernel_rfl)) rfl rfl)) ⟨_, rfl, Below.refl _ _, optDef zβ rfl⟩
  refine ⟨⟨_, .no (c := false) (d := true) rfl (fun v w h => h), fun h w => optUndef h, fun zβ za zw zc => ?_⟩, ?_⟩
  ·exact wp_call (by kernel_rfl) rfl (hv1 (zc.kn.ev rfl)) (plainp_any p _ _ hzp (IsTp.of (bkeeps zc.below _ _ ((hB20.cell 0).trans rfl)) (bkeeps zc.below _ _ ((hB20.cell 1).trans rfl)) (IsT.below (bstep hb21 zc.below) (InT.isT hp)))) (fun v w' h => ⟨v, rfl, h.2, optDef zβ h.1⟩)
  refine ⟨⟨_, .no (c := false) (d := true) rfl (fun v w h => h), fun h w => optUndef h, fun zβ za zw zc => ?_⟩, ?_⟩
  ·exact wp_not rfl ((evt za 17).trans (optVal (zc.dep 3 17 (by kernel_rfl)) rfl rfl)) ⟨_, rfl, Below.refl _ _, optDef zβ rfl⟩
  refine ⟨⟨true, .none rfl, fun h w => optUndef h, fun zβ za zw zc => ?_⟩, ?_⟩
  ·exact wp_pickF rfl ((evt za 16).trans (optVal (zc.dep 2 16 (by kernel_rfl)) rfl rfl)) ((evt za 18).trans (optVal (zc.dep 4 18 (by kernel_rfl)) rfl rfl)) ⟨_, rfl, Below.refl _ _, optDef zβ rfl⟩
  refine ⟨⟨true, .none rfl, fun h w => optUndef h, fun zβ za zw zc => ?_⟩, ?_⟩
  ·exact wp_move rfl ((evt za 19).trans (optVal (zc.dep 5 19 (by kernel_rfl)) rfl rfl)) ⟨_, rfl, Below.refl _ _, optDef zβ rfl⟩
  refine ⟨⟨_, .no (c := (!(p.plain))) (d := true) rfl (fun v w h => h), fun h w => optUndef h, fun zβ za zw zc => ?_⟩, ?_⟩
  ·exact wp_call (by kernel_rfl) rfl (hv1 (zc.kn.ev rfl)) (plainp_any t _ _ hzt (IsTp.of (bkeeps zc.below _ _ ((hB13.cell 0).trans rfl)) (bkeeps zc.below _ _ ((hB13.cell 1).trans rfl)) (IsT.below (bstep hb21 zc.below) ht))) (fun v w' h => ⟨v, rfl, h.2, optDef zβ h.1⟩)
  refine ⟨⟨_, .no (c := (!(p.plain))) (d := true) rfl (fun v w h => h), fun h w => optUndef h, fun zβ za zw zc => ?_⟩, ?_⟩
  ·exact wp_not rfl ((evt za 21).trans (optVal (zc.dep 7 21 (by kernel_rfl)) rfl zβ)) ⟨_, rfl, Below.refl _ _, optDef zβ rfl⟩
  refine ⟨⟨true, .none rfl, fun h w => optUndef h, fun zβ za zw zc => ?_⟩, ?_⟩
  ·exact wp_or rfl ((evt za 20).trans (optVal (zc.dep 6 20 (by kernel_rfl)) rfl rfl)) (fun hp => ((evt za 22).trans (optVal (zc.dep 8 22 (by kernel_rfl)) rfl (bMkN zβ hp)))) ⟨_, rfl, Below.refl _ _, optDef zβ rfl⟩
  exact trivial
 ·intro za w22 zh hb23 zu
  have zh := zh.cons (d := 23) (v := .bool (((!(p.plain)) || (!(t.plain))))) (optVal (zu 9 23 (by kernel_rfl)) rfl rfl)
  clear zu
  refine WE.go zh ?_
  refine WE.next ?_
  refine WC.cond rfl (fun h24 => ?_) (fun h24 => ?_)
  ·have h24 : (¬ ((p.plain) = true)) ∨ (¬ ((t.plain) = true)) := by simpa using h24
   (try simp at h24)
   refine WC.seq (WC.region (WL.asg rfl rfl rfl rfl rfl (WL.nil (WE.next (WC.ret (WE.thenRet (WE.scopeRet (WE.ret1 rfl rfl ?_))))))))
   have hfin := fin_np (p := p) (t := t) (st := st) (fun hh => by rw [hh.1, hh.2] at h24; simp at h24)
   have hb25 : Below w.heap.size w w22 := (bstep hb21 hb23)
   refine ⟨_, rfl, ⟨C, congrArg Value.bool hfin.1.symm, ?_, fun b q => .inl q⟩, .ofBelow hb25⟩
   rw [hfin.2]; exact h0.below hb25
  ·have h24 : ¬ ((¬ ((p.plain) = true)) ∨ (¬ ((t.plain) = true))) := by simpa using h24
   (try simp at h24)
   have hpl1 : p.plain = true := by simpa using h24.1
   have hpl2 : t.plain = true := by simpa using h24.2
   refine WC.skip (WE.next (WC.seq (WC.region (WL.mv rfl rfl rfl rfl rfl ?_))))
   have hb26 : Below w.heap.size w w22 := (bstep hb21 hb23)
   refine WL.call rfl rfl rfl (fun za zh zC => wp_call (by kernel_rfl) rfl (hv1 (zh.ev rfl))) (mark_any _ (h0.below hb26)) ?_
   rintro _ w28 ⟨rfl, hq27⟩
   refine WL.asg rfl rfl rfl rfl rfl (WL.nil (WE.next (WC.seq (WC.region ?_))))
   have hb30 : Below w10.heap.size w10 w28 := (bstep hb23 hq27)
   have hB29 := hB13.below hb30
   refine WL.val _ rfl rfl rfl (fun za zC zh zk => ld_58 rfl (zh.ev rfl) ((hB29.cell 0).trans rfl) ((hB29.cell 1).trans rfl) zk) ?_
   have hb31 : Below w.heap.size w w28 := (bstep hb21 hb30)
   have hl35 : g < w28.heap.size := by have z1 := hM.blk.lt; have z2 := (hb31).size; omega
   have hl36 : g2 < w28.heap.size := by have z1 := hB20.lt; have z2 := (hb30).size; omega
   have hl37 : g11 < w28.heap.size := by have z1 := hB29.lt; omega
   have hl38 : mb < w28.heap.size := by have z1 := hM.map.lt; have z2 := (hb31).size; omega
   have hl39 : w.heap.size ≤ w28.heap.size := (hb31).size
   refine WL.call rfl rfl rfl (fun za zh zC => wp_call (by kernel_rfl) rfl (hv1 (zh.ev rfl))) (copy_any t _ _ hzt (IsT.below hb31 ht)) ?_
   rintro v32 w40 ⟨hn33, hb34⟩
   obtain ⟨_, a41, c42, rfl, _, _, _⟩ := hn33.form
   refine WL.step (post := NewBlk w40 58 #[.int .i64 0, .slice none 0 0]) rfl rfl rfl (fun za zC zh zk => alloc_58 rfl (zk _ _ (newBlk _ _ _))) ?_
   rintro _ w43 ⟨g44, rfl, hg45, hB46, hb47, hz48⟩
   have hb49 : Below w.heap.size w w40 := (bstep hb31 hb34)
   have hl50 : g < g44 := by have z1 := hM.blk.lt; have z2 := (hb49).size; omega
   have hb51 : Below w10.heap.size w10 w40 := (bstep hb30 hb34)
   have hl52 : g2 < g44 := by have z1 := hB20.lt; have z2 := (hb51).size; omega
   have hl53 : g11 < g44 := by have z1 := hB29.lt; have z2 := (hb34).size; omega
   have hl54 : mb < g44 := by have z1 := hM.map.lt; have z2 := (hb49).size; omega
   have hl55 : w.heap.size ≤ g44 := by have z2 := (hb49).size; omega
   have hl56 : w40.heap.size ≤ g44 := by omega
   refine WL.step (post := fun _ w' => Upd g44 w43 w' ∧ Blk w' g44 58 #[.int .i64 t.f, .slice a41 t.args.length c42]) rfl rfl rfl (fun za zC zh zk => st_58 rfl (zh.ev rfl) (zh.ev rfl) rfl rfl hB46 (by first | decide | simp) (fun v => zk v _ ⟨(Upd.at_ _ _ _ _).trans (Upd.at_ _ _ _ _), (hB46.set_ 0 _).set_ 1 _⟩)) ?_
   rintro v60 w57 ⟨hu58, hB59⟩
   have hb61 : Below w.heap.size w w43 := (bstep hb49 hb47)
   have hb62 := upd_below hb61 hu58 (by omega)
   have hb63 := upd_below hb47 hu58 (by omega)
   have hB64 := hM.blk.below hb61
   have hB65 := upd_blk hB64 hu58 (by omega)
   have hb67 : Below w10.heap.size w10 w43 := (bstep hb51 hb47)
   have hB66 := hB20.below hb67
   have hB68 := upd_blk hB66 hu58 (by omega)
   have hb70 : Below w28.heap.size w28 w43 := (bstep hb34 hb47)
   have hB69 := hB29.below hb70
   have hB71 := upd_blk hB69 hu58 (by omega)
   have ho72 := hM.map.below hb61
   have ho73 := ho72.upd hu58 (by omega)
   refine WL.nil (WE.next (WC.seq (WC.region ?_)))
   refine WL.val (.agg #[.pointer (some ⟨g2, 0, none⟩), .pointer (some ⟨g44, 0, none⟩)]) rfl rfl rfl (fun za zC zh zk => build_121_0_1 rfl (zh.ev rfl) (zh.ev rfl) zk) ?_
   refine WL.step (post := NewRow w57 121 #[.pointer (some ⟨g2, 0, none⟩), .pointer (some ⟨g44, 0, none⟩)] 1) rfl rfl rfl (fun za zC zh zk => row_122_1 rfl (zh.ev rfl) (zk _ _ (newRow _ _ _ _))) ?_
   rintro _ w74 ⟨g75, rfl, hg76, hB77, hb78, hz79⟩
   have hl80 : g < g75 := by have z1 := hB65.lt; omega
   have hl81 : g2 < g75 := by have z1 := hB68.lt; omega
   have hl82 : g11 < g75 := by have z1 := hB71.lt; omega
   have hl83 : g44 < g75 := by have z1 := hB59.lt; omega
   have hl84 : mb < g75 := by have z1 := ho73.lt; omega
   have hl85 : w.heap.size ≤ g75 := by have z2 := (hb62).size; omega
   have hl86 : w40.heap.size ≤ g75 := by have z2 := (hb63).size; omega
   have hl87 : w57.heap.size ≤ g75 := by omega
   refine WL.asg rfl rfl rfl rfl rfl (WL.nil (WE.next (WC.seq (WC.label (WE.next (WC.seq (WC.block ?_)))))))
   have hB88 := hB68.below hb78
   have hB89 := hB59.below hb78
   have ho90 := hn33.below hb63
   have hb91 : Below w.heap.size w w74 := (bstep hb62 hb78)
   obtain ⟨Ps, Ts, hTs0, hts0⟩ := TS.start (wc := w28) (wj := w57) (wk := w74) (g4 := g2) (g8 := g44) (g9 := g75) (p := p) (t := t) hM hp hA hb91 hB88 (by omega) (by omega) (by have z := hb31.size; omega) (by have z := hb34.size; omega) (by omega) hB89 ho90 (by omega) hb78 hB77 hzp hzt
   refine WC.loop (X := MX) (fun x => ssz x.L) (fun x => [(0, .pointer (some ⟨g, 0, none⟩)), (1, .agg #[.int .i64 p.f, .slice pa0 p.args.length pc0]), (2, .agg #[.int .i64 t.f, .slice ta0 t.args.length tc0]), (4, .pointer (some ⟨g2, 0, none⟩)), (5, .pointer (some ⟨g11, 0, none⟩)), (7, .int .i64 (((st.length : Nat) : Int))), (8, .pointer (some ⟨g44, 0, none⟩)), (9, .slice x.ta x.L.length x.tc), (23, .bool (((!(p.plain)) || (!(t.plain)))))]) (fun x w92 => p.mt st t = mts x.st x.L.reverse ∧ x.st.length + ssz x.L ≤ 1099511627776 ∧ Blk w92 g2 58 #[.int .i64 p.f, .slice pa0 p.args.length pc0] ∧ Blk w92 g11 58 #[.int .i64 t.f, .slice ta0 t.args.length tc0] ∧ Blk w92 g44 58 #[.int .i64 t.f, .slice a41 t.args.length c42] ∧ Blk w92 g 89 #[.map ((some mb)), .slice x.ra x.st.length x.rc] ∧ ObjAt (w92) mb (.map x.es x.cl) ∧ TS w g mb g75 C Ps Ts st (w92) x) (⟨some ⟨g75, 0, none⟩, 1, [(⟨g2, 0, none⟩, ⟨g44, 0, none⟩)], [(p, t)], a, c, st, ps, es, cl⟩) ⟨rfl, rfl, rfl, rfl, rfl, rfl, rfl, rfl, rfl, trivial⟩ ?_ ?_
   ·have hB93 := hB71.below hb78
    have hB94 := hB65.below hb78
    have ho95 := ho73.below hb78
    exact ⟨(mts_one p t st).symm, (by simp only [ssz]; omega), hB88, hB93, hB89, hB94, ho95, hts0⟩
   ·rintro x w92 ⟨hans, hbnd, hB96, hB97, hB98, hB99, ho100, ho101⟩
    refine WC.seq (WC.seq (WC.region (WL.mv rfl rfl rfl rfl rfl ?_)))
    refine WL.val (.int .i64 (((x.L.length : Nat) : Int))) rfl rfl rfl (fun za zC zh zk => len_122 rfl (zh.ev rfl) zk) ?_
    refine WL.val (.bool ((decide ((0 : Int) < (((x.L.length : Nat) : Int) : Int))))) rfl rfl rfl (fun za zC zh zk => gtr_3 rfl (zh.ev rfl) (zh.ev rfl) zk) ?_
    refine WL.nil (WE.next ?_)
    refine WC.cond rfl (fun h102 => ?_) (fun h102 => ?_)
    ·have h102 : (0 : Int) < (((x.L.length : Nat) : Int) : Int) := by simpa using h102
     refine WC.skip (WE.next (WC.block (WC.seq ?_)))
     obtain ⟨f, l, tt, L, R, tb, to_, pb, po, qb, qo, pa, qa, pc, qc, hL, hLn, hta, hc1, hc2, hp1, hp2, hpT, hq1, hq2, hqT, hqP, hpP, hcp1, hcp2, hz1, hz2, hts⟩ := ho101.top (by omega)
     unfold maxLen at hcp2
     have hIf := hpT.form.1
     rw [T.f_mk] at hIf
     unfold I64 at hIf
     refine WC.region (WL.mv rfl rfl rfl rfl rfl (WL.mv rfl rfl rfl rfl rfl ?_))
     refine WL.val (.int .i64 (((x.L.length : Nat) : Int))) rfl rfl rfl (fun za zC zh zk => len_122 rfl (zh.ev rfl) zk) ?_
     refine WL.val (.int .i64 (((L.length : Nat) : Int))) rfl rfl rfl (fun za zC zh zk => subb_3 rfl (zh.ev rfl) (zh.ev rfl) (wrap_eq (by omega) (by omega) (by omega)) zk) ?_
     refine WL.val _ rfl rfl rfl (fun za zC zh zk => ix_122 (k := L.length) rfl (zh.ev rfl) hta (zh.ev rfl) (by first | omega | (simp; omega)) zk) ?_
     refine WL.val _ rfl rfl rfl (fun za zC zh zk => ld_121 rfl (zh.ev rfl) hc1 hc2 zk) ?_
     refine WL.step (post := NewBlk w92 121 #[.pointer none, .pointer none]) rfl rfl rfl (fun za zC zh zk => alloc_121 rfl (zk _ _ (newBlk _ _ _))) ?_
     rintro _ w103 ⟨g104, rfl, hg105, hB106, hb107, hz108⟩
     have hl109 : g2 < g104 := by have z1 := hB96.lt; omega
     have hl110 : g11 < g104 := by have z1 := hB97.lt; omega
     have hl111 : g44 < g104 := by have z1 := hB98.lt; omega
     have hl112 : g < g104 := by have z1 := hB99.lt; omega
     have hl113 : mb < g104 := by have z1 := ho100.lt; omega
     have hl114 : w92.heap.size ≤ g104 := by omega
     refine WL.step (post := fun _ w' => Upd g104 w103 w' ∧ Blk w' g104 121 #[.pointer (some ⟨pb, po, none⟩), .pointer (some ⟨qb, qo, none⟩)]) rfl rfl rfl (fun za zC zh zk => st_121 rfl (zh.ev rfl) (zh.ev rfl) rfl rfl hB106 (by first | decide | simp) (fun v => zk v _ ⟨(Upd.at_ _ _ _ _).trans (Upd.at_ _ _ _ _), (hB106.set_ 0 _).set_ 1 _⟩)) ?_
     rintro v118 w115 ⟨hu116, hB117⟩
     have hb119 := upd_below hb107 hu116 (by omega)
     have hB120 := hB96.below hb107
     have hB121 := upd_blk hB120 hu116 (by omega)
     have hB122 := hB97.below hb107
     have hB123 := upd_blk hB122 hu116 (by omega)
     have hB124 := hB98.below hb107
     have hB125 := upd_blk hB124 hu116 (by omega)
     have hB126 := hB99.below hb107
     have hB127 := upd_blk hB126 hu116 (by omega)
     have ho128 := ho100.below hb107
     have ho129 := ho128.upd hu116 (by omega)
     refine WL.nil (WE.next (WC.seq (WC.region (WL.mv rfl rfl rfl rfl rfl (WL.mv rfl rfl rfl rfl rfl ?_)))))
     refine WL.val (.int .i64 (((x.L.length : Nat) : Int))) rfl rfl rfl (fun za zC zh zk => len_122 rfl (zh.ev rfl) zk) ?_
     refine WL.val (.int .i64 (((L.length : Nat) : Int))) rfl rfl rfl (fun za zC zh zk => subb_3 rfl (zh.ev rfl) (zh.ev rfl) (wrap_eq (by omega) (by omega) (by omega)) zk) ?_
     refine WL.val (.slice x.ta L.length x.tc) rfl rfl rfl (fun za zC zh zk => shi_122 (k := L.length) rfl (zh.ev rfl) (zh.ev rfl) (by omega) zk) ?_
     refine WL.asg rfl rfl rfl rfl rfl (WL.nil (WE.next (WC.seq (WC.seq (WC.region ?_)))))
     refine WL.val _ rfl rfl rfl (fun za zC zh zk => fld_121_0 rfl (zh.ev rfl) zk) ?_
     refine WL.val _ rfl rfl rfl (fun za zC zh zk => ld_103 rfl (zh.ev rfl) ((hB117.cell 0).trans rfl) zk) ?_
     refine WL.val _ rfl rfl rfl (fun za zC zh zk => nilCheck_ rfl (zh.ev rfl) zk) ?_
     refine WL.val _ rfl rfl rfl (fun za zC zh zk => fld_58_0 rfl (zh.ev rfl) zk) ?_
     refine WL.val _ rfl rfl rfl (fun za zC zh zk => ld_3 rfl (zh.ev rfl) (bkeeps hb119 _ _ hp1) zk) ?_
     refine WL.val (.bool ((decide ((f : Int) < (0 : Int))))) rfl rfl rfl (fun za zC zh zk => lss_3 rfl (zh.ev rfl) (zh.ev rfl) zk) ?_
     refine WL.nil (WE.next ?_)
     refine WC.cond rfl (fun h130 => ?_) (fun h130 => ?_)
     ·have h130 : (f : Int) < (0 : Int) := by simpa using h130
      refine WC.seq (WC.region ?_)
      refine WL.val _ rfl rfl rfl (fun za zC zh zk => fld_121_0 rfl (zh.ev rfl) zk) ?_
      refine WL.val _ rfl rfl rfl (fun za zC zh zk => ld_103 rfl (zh.ev rfl) ((hB117.cell 0).trans rfl) zk) ?_
      refine WL.val _ rfl rfl rfl (fun za zC zh zk => nilCheck_ rfl (zh.ev rfl) zk) ?_
      refine WL.val _ rfl rfl rfl (fun za zC zh zk => fld_58_0 rfl (zh.ev rfl) zk) ?_
      refine WL.val _ rfl rfl rfl (fun za zC zh zk => ld_3 rfl (zh.ev rfl) (bkeeps hb119 _ _ hp1) zk) ?_
      refine WL.val (.int .i64 ((-1 - f))) rfl rfl rfl (fun za zC zh zk => subb_3 rfl (zh.ev rfl) (zh.ev rfl) (wrap_eq rfl (by omega) (by omega)) zk) ?_
      refine WL.asg rfl rfl rfl rfl rfl ?_
      refine WL.nil (WE.sub (K' := [(0, .pointer (some ⟨g, 0, none⟩)), (1, .agg #[.int .i64 p.f, .slice pa0 p.args.length pc0]), (2, .agg #[.int .i64 t.f, .slice ta0 t.args.length tc0]), (4, .pointer (some ⟨g2, 0, none⟩)), (5, .pointer (some ⟨g11, 0, none⟩)), (7, .int .i64 (((st.length : Nat) : Int))), (8, .pointer (some ⟨g44, 0, none⟩)), (9, .slice x.ta L.length x.tc), (10, .pointer (some ⟨g104, 0, none⟩)), (11, .int .i64 ((-1 - f))), (23, .bool (((!(p.plain)) || (!(t.plain))))), (32, .bool ((decide ((0 : Int) < (((x.L.length : Nat) : Int) : Int))))), (49, .bool ((decide ((f : Int) < (0 : Int)))))]) ⟨rfl, rfl, rfl, rfl, rfl, rfl, rfl, rfl, rfl, rfl, rfl, rfl, rfl, trivial⟩ ?_)
      refine WE.next (WC.seq (WC.seq (WC.region (WL.mv rfl rfl rfl rfl rfl ?_))))
      refine WL.val _ rfl rfl rfl (fun za zC zh zk => nilCheck_ rfl (zh.ev rfl) zk) ?_
      refine WL.val _ rfl rfl rfl (fun za zC zh zk => fld_89_0 rfl (zh.ev rfl) zk) ?_
      refine WL.val _ rfl rfl rfl (fun za zC zh zk => ld_87 rfl (zh.ev rfl) ((hB127.cell 0).trans rfl) zk) ?_
      refine WL.mv rfl rfl rfl rfl rfl ?_
      have ho131 := hts.below hb119
      rcases ho131.look (-1 - f) with ⟨hf, hlk⟩ | ⟨o, ob, oo, oa, oc, hf, hlk, ho1, ho2, ho3⟩
      ·refine WL.val (.pointer none) rfl rfl rfl (fun za zC zh zk => wp_look_im Try.underlying87 Try.underlying3 (zeroPt _) ho129 ho131.ent rfl (zh.ev rfl) (zh.ev rfl) (by rw [hlk]; exact zk)) ?_
       refine WL.asg rfl rfl rfl rfl rfl (WL.nil (WE.next (WC.seq (WC.region (WL.mv rfl rfl rfl rfl rfl ?_)))))
       refine WL.val (.bool true) rfl rfl rfl (fun za zC zh zk => eqln_103 rfl (zh.ev rfl) (zh.ev rfl) zk) ?_
       refine WL.nil (WE.next ?_)
       refine WC.condT rfl rfl ?_
       refine WC.seq ?_
       have hgB := hB127
       have hmB := ho129
       have hgm2 : g ≠ mb := hgm
       refine WC.tail1 (S := ((fun b => b = mb))) [(true, .val (.pointer (some ⟨g, 0, none⟩))), (true, .val (.pointer (some ⟨g, 0, none⟩))), (true, .val (.pointer (some ⟨g, 0, none⟩))), (true, .val (.map ((some mb)))), (true, .val (.int .i64 ((-1 - f)))), (true, .val (.pointer (some ⟨g104, 1, none⟩))), (true, .val (.pointer (some ⟨qb, qo, none⟩))), (true, .val undef)] [(0, .pointer (some ⟨g, 0, none⟩)), (1, .agg #[.int .i64 p.f, .slice pa0 p.args.length pc0]), (2, .agg #[.int .i64 t.f, .slice ta0 t.args.length tc0]), (4, .pointer (some ⟨g2, 0, none⟩)), (5, .pointer (some ⟨g11, 0, none⟩)), (7, .int .i64 (((st.length : Nat) : Int))), (8, .pointer (some ⟨g44, 0, none⟩)), (9, .slice x.ta L.length x.tc), (10, .pointer (some ⟨g104, 0, none⟩)), (11, .int .i64 ((-1 - f))), (12, .pointer none), (23, .bool (((!(p.plain)) || (!(t.plain))))), (32, .bool ((decide ((0 : Int) < (((x.L.length : Nat) : Int) : Int))))), (49, .bool ((decide ((f : Int) < (0 : Int))))), (63, .bool true)] 7 (fun wz => ∃ es' cl', ObjAt wz mb (.map es' cl') ∧ ImE es' cl' ((x.st.map (·.var)).zip x.ps ++ [(-1 - f, .pointer (some ⟨qb, qo, none⟩))])) (fun w w' hb ⟨es', cl', h1, h2⟩ => ⟨es', cl', h1.below hb, h2⟩) ⟨rfl, rfl, rfl, rfl, rfl, rfl, rfl, rfl, rfl, rfl, rfl, rfl, rfl, rfl, rfl, trivial⟩ (by kernel_rfl) (by kernel_rfl) (by kernel_rfl) (by kernel_rfl) ?_ ?_
       ·refine ⟨.inl ⟨rfl, true, .none rfl, (fun gg b h => by cases h), fun h w => optUndef h, fun zβ za zw zc => ?_⟩, ?_⟩
        ·exact wp_move rfl (zc.kn.ev rfl) ⟨_, rfl, Below.refl _ _, optDef zβ rfl⟩
        refine ⟨.inl ⟨rfl, true, .none rfl, (fun gg b h => by cases h), fun h w => optUndef h, fun zβ za zw zc => ?_⟩, ?_⟩
        ·exact nilCheck_ rfl ((evt za 64).trans (optSVal (zc.dep 0 64 (by kernel_rfl) (by decide)) rfl rfl)) ⟨_, rfl, Below.refl _ _, optDef zβ rfl⟩
        refine ⟨.inl ⟨rfl, true, .none rfl, (fun gg b h => by cases h), fun h w => optUndef h, fun zβ za zw zc => ?_⟩, ?_⟩
        ·exact fld_89_0 rfl ((evt za 65).trans (optSVal (zc.dep 1 65 (by kernel_rfl) (by decide)) rfl rfl)) ⟨_, rfl, Below.refl _ _, optDef zβ rfl⟩
        refine ⟨.inl ⟨rfl, true, .none rfl, (fun gg b h => by cases h), fun h w => optUndef h, fun zβ za zw zc => ?_⟩, ?_⟩
        ·exact ld_87 rfl ((evt za 66).trans (optSVal (zc.dep 2 66 (by kernel_rfl) (by decide)) rfl rfl)) (bkeeps (zc.early (by kernel_rfl)) _ _ ((hB127.cell 0).trans rfl)) ⟨_, rfl, Below.refl _ _, optDef zβ rfl⟩
        refine ⟨.inl ⟨rfl, true, .none rfl, (fun gg b h => by cases h), fun h w => optUndef h, fun zβ za zw zc => ?_⟩, ?_⟩
        ·exact wp_move rfl (zc.kn.ev rfl) ⟨_, rfl, Below.refl _ _, optDef zβ rfl⟩
        refine ⟨.inl ⟨rfl, true, .none rfl, (fun gg b h => by cases h), fun h w => optUndef h, fun zβ za zw zc => ?_⟩, ?_⟩
        ·exact fld_121_1 rfl (zc.kn.ev rfl) ⟨_, rfl, Below.refl _ _, optDef zβ rfl⟩
        refine ⟨.inl ⟨rfl, true, .none rfl, (fun gg b h => by cases h), fun h w => optUndef h, fun zβ za zw zc => ?_⟩, ?_⟩
        ·exact ld_103 rfl ((evt za 69).trans (optSVal (zc.dep 5 69 (by kernel_rfl) (by decide)) rfl rfl)) (bkeeps (zc.early (by kernel_rfl)) _ _ ((hB117.cell 1).trans rfl)) ⟨_, rfl, Below.refl _ _, optDef zβ rfl⟩
        refine ⟨.inr ⟨rfl, rfl, fun za zw zc => ?_⟩, ?_⟩
        ·exact wp_put_im Try.underlying87 Try.underlying3 (ho129.below zc.below) ho131.ent rfl ((evt za 67).trans (optSVal (zc.dep 3 67 (by kernel_rfl) (by decide)) rfl rfl)) ((evt za 68).trans (optSVal (zc.dep 4 68 (by kernel_rfl) (by decide)) rfl rfl)) ((evt za 70).trans (optSVal (zc.dep 6 70 (by kernel_rfl) (by decide)) rfl rfl)) (fun y hy => by obtain ⟨q, hq, e⟩ := List.mem_map.1 (List.of_mem_zip hy).1; rw [← e]; exact subFind_none' hf q hq) (fun w' es' cl' h1 h2 h3 => ⟨undef, rfl, ⟨es', cl', h1, h2⟩, .ofUpd h3 rfl⟩)
        exact trivial
       ·intro za w132 zh hG133 hc134 zu
        have hB135 := chg_blk hB121 hc134 (by (try dsimp only at *); omega)
        have hB136 := chg_blk hB123 hc134 (by (try dsimp only at *); omega)
        have hB137 := chg_blk hB125 hc134 (by (try dsimp only at *); omega)
        have hB138 := chg_blk hB127 hc134 (by (try dsimp only at *); omega)
        have hB139 := chg_blk hB117 hc134 (by (try dsimp only at *); omega)
        obtain ⟨es140, cl141, hM142, hE143⟩ := hG133
        clear zu
        refine WE.go zh ?_
        refine WE.next (WC.region (WL.mv rfl rfl rfl rfl rfl (WL.mv rfl rfl rfl rfl rfl ?_)))
        refine WL.val _ rfl rfl rfl (fun za zC zh zk => nilCheck_ rfl (zh.ev rfl) zk) ?_
        refine WL.val _ rfl rfl rfl (fun za zC zh zk => fld_89_1 rfl (zh.ev rfl) zk) ?_
        refine WL.val _ rfl rfl rfl (fun za zC zh zk => ld_36 rfl (zh.ev rfl) ((hB138.cell 1).trans rfl) zk) ?_
        refine WL.mv rfl rfl rfl rfl rfl ?_
        refine WL.step (post := NewRow w132 3 #[.int .i64 ((-1 - f))] 1) rfl rfl rfl (fun za zC zh zk => row_36_1 rfl (zh.ev rfl) (zk _ _ (newRow _ _ _ _))) ?_
        rintro _ w144 ⟨g145, rfl, hg146, hB147, hb148, hz149⟩
        have hl150 : g2 < g145 := by have z1 := hB135.lt; omega
        have hl151 : g11 < g145 := by have z1 := hB136.lt; omega
        have hl152 : g44 < g145 := by have z1 := hB137.lt; omega
        have hl153 : g < g145 := by have z1 := hB138.lt; omega
        have hl154 : g104 < g145 := by have z1 := hB139.lt; omega
        have hl155 : mb < g145 := by have z1 := hM142.lt; omega
        have hs156 : Chg ((fun b => b = mb)) w115 w144 := (Chg.trans2 (Chg.trans2 (Chg.refl ((fun b => b = mb)) _) hc134 (fun i h1 h2 => by first | exact h2 | exact .inl ⟨h2, h1⟩ | exact .inl h2 | exact .inr h2 | exact .inr (.inl h2) | exact .inr (.inr h2) | ((try dsimp only at *); omega))) (Chg.ofBelow (S := fun k => k < 0) hb148) (fun i h1 h2 => by first | exact h2 | exact .inl ⟨h2, h1⟩ | exact .inl h2 | exact .inr h2 | exact .inr (.inl h2) | exact .inr (.inr h2) | ((try dsimp only at *); omega)))
        have hrw : RowE eltI w144 0 3 x.ra x.rc x.st.length (x.st.map (·.var)) := ho131.mrow.chgOwn (fun _ _ _ _ _ q => q) hs156 (fun b q e => by subst e; exact ho131.mrow.neMap hmB q)
        have hB157 := hB135.below hb148
        have hne158 : ¬ (Value.slice x.ra x.st.length x.rc).ownBlock = some g2 := hrw.neBlk hB157 (by decide)
        have hB159 := hB136.below hb148
        have hne160 : ¬ (Value.slice x.ra x.st.length x.rc).ownBlock = some g11 := hrw.neBlk hB159 (by decide)
        have hB161 := hB137.below hb148
        have hne162 : ¬ (Value.slice x.ra x.st.length x.rc).ownBlock = some g44 := hrw.neBlk hB161 (by decide)
        have hB163 := hB138.below hb148
        have hne164 : ¬ (Value.slice x.ra x.st.length x.rc).ownBlock = some g := hrw.neBlk hB163 (by decide)
        have hB165 := hB139.below hb148
        have hne166 : ¬ (Value.slice x.ra x.st.length x.rc).ownBlock = some g104 := hrw.neBlk hB165 (by decide)
        have ho168 := hM142.below hb148
        have hne167 : ¬ (Value.slice x.ra x.st.length x.rc).ownBlock = some mb := hrw.neMap ho168
        have hlst := len_le_ssz x.L
        refine WL.step (post := fun v w' => ∃ ra rc, v = .slice ra (x.st.length + 1) rc ∧ RowE eltI w' 0 3 ra rc (x.st.length + 1) (x.st.map (·.var) ++ [-1 - f]) ∧ Chg (fun b => (Value.slice x.ra x.st.length x.rc).ownBlock = some b) w144 w' ∧ ∀ b, (Value.slice ra (x.st.length + 1) rc).ownBlock = some b → (Value.slice x.ra x.st.length x.rc).ownBlock = some b ∨ b = w144.heap.size) rfl rfl rfl (fun za zC zh zk => wp_appE2 (E := eltI) (size := 1) (bytes := 8) (z := .int .i64 0) (cs := [.int .i64 (-1 - f)]) rfl Try.underlying36 (by kernel_rfl) rfl (by decide) rfl (zh.ev rfl) (zh.ev rfl) hrw hB147 rfl (by omega) (by omega) (Nat.zero_le _) (fun ra rc w' h1 h2 _ h4 => zk _ _ ⟨ra, rc, rfl, h1, h2, h4⟩)) ?_
        rintro _ w169 ⟨ra170, rc171, rfl, hR172, hc173, ho174⟩
        have hB175 := chg_blk hB157 hc173 (by assumption)
        have hB176 := chg_blk hB159 hc173 (by assumption)
        have hB177 := chg_blk hB161 hc173 (by assumption)
        have hB178 := chg_blk hB163 hc173 (by assumption)
        have hB179 := chg_blk hB165 hc173 (by assumption)
        have ho180 := ho168.chg hc173 (by assumption)
        refine WL.val _ rfl rfl rfl (fun za zC zh zk => nilCheck_ rfl (zh.ev rfl) zk) ?_
        refine WL.val _ rfl rfl rfl (fun za zC zh zk => fld_89_1 rfl (zh.ev rfl) zk) ?_
        refine WL.step (post := fun _ w' => Upd g w169 w' ∧ Blk w' g 89 #[.map ((some mb)), .slice ra170 ((x.st.length + 1)) rc171]) rfl rfl rfl (fun za zC zh zk => st_36 rfl (zh.ev rfl) (zh.ev rfl) hB178 (by first | decide | simp) (fun v => zk v _ ⟨Upd.at_ _ _ _ _, hB178.set_ 1 _⟩)) ?_
        rintro v184 w181 ⟨hu182, hB183⟩
        have hB185 := upd_blk hB175 hu182 (by omega)
        have hB186 := upd_blk hB176 hu182 (by omega)
        have hB187 := upd_blk hB177 hu182 (by omega)
        have hB188 := upd_blk hB179 hu182 (by omega)
        have ho189 := ho180.upd hu182 (by omega)
        refine WL.nil (WE.sub (K' := [(0, .pointer (some ⟨g, 0, none⟩)), (1, .agg #[.int .i64 p.f, .slice pa0 p.args.length pc0]), (2, .agg #[.int .i64 t.f, .slice ta0 t.args.length tc0]), (4, .pointer (some ⟨g2, 0, none⟩)), (5, .pointer (some ⟨g11, 0, none⟩)), (7, .int .i64 (((st.length : Nat) : Int))), (8, .pointer (some ⟨g44, 0, none⟩)), (9, .slice x.ta L.length x.tc), (10, .pointer (some ⟨g104, 0, none⟩)), (11, .int .i64 ((-1 - f))), (12, .pointer none), (23, .bool (((!(p.plain)) || (!(t.plain))))), (32, .bool ((decide ((0 : Int) < (((x.L.length : Nat) : Int) : Int))))), (49, .bool ((decide ((f : Int) < (0 : Int))))), (63, .bool true)]) ⟨rfl, rfl, rfl, rfl, rfl, rfl, rfl, rfl, rfl, rfl, rfl, rfl, rfl, rfl, rfl, trivial⟩ ?_)
        refine WE.next (WC.exit (WE.thenExit (WE.blockIs rfl ?_)))
        have hs190 : Chg ((fun b => b = g ∨ b = mb ∨ (Value.slice x.ra x.st.length x.rc).ownBlock = some b)) w115 w181 := (Chg.trans2 (Chg.trans2 (Chg.trans2 (Chg.trans2 (Chg.refl ((fun b => b = g ∨ b = mb ∨ (Value.slice x.ra x.st.length x.rc).ownBlock = some b)) _) hc134 (fun i h1 h2 => by first | exact h2 | exact .inl ⟨h2, h1⟩ | exact .inl h2 | exact .inr h2 | exact .inr (.inl h2) | exact .inr (.inr h2) | ((try dsimp only at *); omega))) (Chg.ofBelow (S := fun k => k < 0) hb148) (fun i h1 h2 => by first | exact h2 | exact .inl ⟨h2, h1⟩ | exact .inl h2 | exact .inr h2 | exact .inr (.inl h2) | exact .inr (.inr h2) | ((try dsimp only at *); omega))) hc173 (fun i h1 h2 => by first | exact h2 | exact .inl ⟨h2, h1⟩ | exact .inl h2 | exact .inr h2 | exact .inr (.inl h2) | exact .inr (.inr h2) | ((try dsimp only at *); omega))) (Chg.ofUpd (S := fun k => k = g) hu182 rfl) (fun i h1 h2 => by first | exact h2 | exact .inl ⟨h2, h1⟩ | exact .inl h2 | exact .inr h2 | exact .inr (.inl h2) | exact .inr (.inr h2) | ((try dsimp only at *); omega)))
        have hRg : ¬ (Value.slice ra170 (x.st.length + 1) rc171).ownBlock = some g := hR172.neBlk (w := w169) hB178 (by decide)
        have hs192 : Chg ((fun b => b = g)) w169 w181 := (Chg.trans2 (Chg.refl ((fun b => b = g)) _) (Chg.ofUpd (S := fun k => k = g) hu182 rfl) (fun i h1 h2 => by first | exact h2 | exact .inl ⟨h2, h1⟩ | exact .inl h2 | exact .inr h2 | exact .inr (.inl h2) | exact .inr (.inr h2) | ((try dsimp only at *); omega)))
        have hts191 : TS w g mb g75 C Ps Ts st w181 { x with L := L, R := R, ra := ra170, rc := rc171, st := x.st ++ [⟨-1 - f, tt⟩], ps := x.ps ++ [.pointer (some ⟨qb, qo, none⟩)], es := es140, cl := cl141 } := TS.bind ho131 (hR172.chgOwn (fun _ _ _ _ _ q => q) hs192 (fun b q e => hRg (by subst e; exact q))) hs190 ⟨_, hgB⟩ ⟨_, _, hmB⟩ (fun b e => (ho174 b e).imp id (fun e => by have z := (Nat.le_trans hc134.size hb148.size); omega)) hE143 hf (hqP.below hb119) (by unfold I64; omega) hz2
        refine WE.round ({ x with L := L, R := R, ra := ra170, rc := rc171, st := x.st ++ [⟨-1 - f, tt⟩], ps := x.ps ++ [.pointer (some ⟨qb, qo, none⟩)], es := es140, cl := cl141 }) ⟨rfl, rfl, rfl, rfl, rfl, rfl, rfl, rfl, rfl, trivial⟩ ?_ ?_
        ·exact ⟨ans_new hans hL h130 hf, by have z := ssz_top hL; (try dsimp only); simp only [List.length_append, List.length_singleton]; omega, hB185, hB186, hB187, (by have z := hB183; simpa using z), ho189, hts191⟩
        ·have z := ssz_top hL; (try dsimp only); omega
      ·refine WL.val (.pointer (some ⟨ob, oo, none⟩)) rfl rfl rfl (fun za zC zh zk => wp_look_im Try.underlying87 Try.underlying3 (zeroPt _) ho129 ho131.ent rfl (zh.ev rfl) (zh.ev rfl) (by rw [hlk]; exact zk)) ?_
       refine WL.asg rfl rfl rfl rfl rfl (WL.nil (WE.next (WC.seq (WC.region (WL.mv rfl rfl rfl rfl rfl ?_)))))
       refine WL.val (.bool false) rfl rfl rfl (fun za zC zh zk => eqlp_103 rfl (zh.ev rfl) (zh.ev rfl) zk) ?_
       refine WL.nil (WE.next ?_)
       refine WC.condF rfl rfl ?_
       refine WC.seq ?_
       refine WC.opt [(true, .val (.pointer (some ⟨ob, oo, none⟩))), (true, .val (.pointer (some ⟨ob, oo, none⟩))), (true, .val (.agg #[.int .i64 o.f, .slice oa o.args.length oc])), (true, .val (.pointer (some ⟨g104, 1, none⟩))), (true, .val (.pointer (some ⟨qb, qo, none⟩))), (true, .val (.pointer (some ⟨qb, qo, none⟩))), (true, .val (.agg #[.int .i64 tt.f, .slice qa tt.args.length qc])), (true, .val (.bool ((T.same o tt)))), (true, .val (.bool ((!(T.same o tt)))))] [(0, .pointer (some ⟨g, 0, none⟩)), (1, .agg #[.int .i64 p.f, .slice pa0 p.args.length pc0]), (2, .agg #[.int .i64 t.f, .slice ta0 t.args.length tc0]), (4, .pointer (some ⟨g2, 0, none⟩)), (5, .pointer (some ⟨g11, 0, none⟩)), (7, .int .i64 (((st.length : Nat) : Int))), (8, .pointer (some ⟨g44, 0, none⟩)), (9, .slice x.ta L.length x.tc), (10, .pointer (some ⟨g104, 0, none⟩)), (11, .int .i64 ((-1 - f))), (12, .pointer (some ⟨ob, oo, none⟩)), (23, .bool (((!(p.plain)) || (!(t.plain))))), (32, .bool ((decide ((0 : Int) < (((x.L.length : Nat) : Int) : Int))))), (49, .bool ((decide ((f : Int) < (0 : Int))))), (63, .bool false)] ⟨rfl, rfl, rfl, rfl, rfl, rfl, rfl, rfl, rfl, rfl, rfl, rfl, rfl, rfl, rfl, trivial⟩ (by kernel_rfl) (by kernel_rfl) (by kernel_rfl) ?_ ?_
       ·refine ⟨⟨true, .none rfl, fun h w => optUndef h, fun zβ za zw zc => ?_⟩, ?_⟩
        ·exact wp_move rfl (zc.kn.ev rfl) ⟨_, rfl, Below.refl _ _, optDef zβ rfl⟩
        refine ⟨⟨true, .none rfl, fun h w => optUndef h, fun zβ za zw zc => ?_⟩, ?_⟩
        ·exact nilCheck_ rfl ((evt za 81).trans (optVal (zc.dep 0 81 (by kernel_rfl)) rfl rfl)) ⟨_, rfl, Below.refl _ _, optDef zβ rfl⟩
        refine ⟨⟨true, .none rfl, fun h w => optUndef h, fun zβ za zw zc => ?_⟩, ?_⟩
        ·exact ld_58 rfl ((evt za 82).trans (optVal (zc.dep 1 82 (by kernel_rfl)) rfl rfl)) (bkeeps zc.below _ _ ho1) (bkeeps zc.below _ _ ho2) ⟨_, rfl, Below.refl _ _, optDef zβ rfl⟩
        refine ⟨⟨true, .none rfl, fun h w => optUndef h, fun zβ za zw zc => ?_⟩, ?_⟩
        ·exact fld_121_1 rfl (zc.kn.ev rfl) ⟨_, rfl, Below.refl _ _, optDef zβ rfl⟩
        refine ⟨⟨true, .none rfl, fun h w => optUndef h, fun zβ za zw zc => ?_⟩, ?_⟩
        ·exact ld_103 rfl ((evt za 84).trans (optVal (zc.dep 3 84 (by kernel_rfl)) rfl rfl)) (bkeeps zc.below _ _ ((hB117.cell 1).trans rfl)) ⟨_, rfl, Below.refl _ _, optDef zβ rfl⟩
        refine ⟨⟨true, .none rfl, fun h w => optUndef h, fun zβ za zw zc => ?_⟩, ?_⟩
        ·exact nilCheck_ rfl ((evt za 85).trans (optVal (zc.dep 4 85 (by kernel_rfl)) rfl rfl)) ⟨_, rfl, Below.refl _ _, optDef zβ rfl⟩
        refine ⟨⟨true, .none rfl, fun h w => optUndef h, fun zβ za zw zc => ?_⟩, ?_⟩
        ·exact ld_58 rfl ((evt za 86).trans (optVal (zc.dep 5 86 (by kernel_rfl)) rfl rfl)) (bkeeps (bstep hb119 zc.below) _ _ hq1) (bkeeps (bstep hb119 zc.below) _ _ hq2) ⟨_, rfl, Below.refl _ _, optDef zβ rfl⟩
        refine ⟨⟨true, .none rfl, fun h w => optUndef h, fun zβ za zw zc => ?_⟩, ?_⟩
        ·exact wp_call (by kernel_rfl) rfl (hv2 ((evt za 83).trans (optVal (zc.dep 2 83 (by kernel_rfl)) rfl rfl)) ((evt za 87).trans (optVal (zc.dep 6 87 (by kernel_rfl)) rfl rfl))) (ret_of (same_any o tt _ _ _ (IsT.below zc.below ho3) (IsT.below (bstep hb119 zc.below) (InT.isT hqT)))) (fun v w' h => ⟨v, rfl, h.2, optDef zβ h.1⟩)
        refine ⟨⟨true, .none rfl, fun h w => optUndef h, fun zβ za zw zc => ?_⟩, ?_⟩
        ·exact wp_not rfl ((evt za 88).trans (optVal (zc.dep 7 88 (by kernel_rfl)) rfl rfl)) ⟨_, rfl, Below.refl _ _, optDef zβ rfl⟩
        exact trivial
       ·intro za w193 zh hb194 zu
        have zh := zh.cons (d := 89) (v := .bool ((!(T.same o tt)))) (optVal (zu 8 89 (by kernel_rfl)) rfl rfl)
        clear zu
        refine WE.go zh ?_
        refine WE.next ?_
        refine WC.cond rfl (fun h195 => ?_) (fun h195 => ?_)
        ·have h195 : ¬ ((T.same o tt) = true) := by simpa using h195
         refine WC.seq (WC.region (WL.mv rfl rfl rfl rfl rfl (WL.mv rfl rfl rfl rfl rfl ?_)))
         have ho196 := ho131.below hb194
         have hB197 := hB127.below hb194
         have ho198 := ho129.below hb194
         have hma := ho196.mat hB197 ho198 hTs0
         refine WL.call rfl rfl rfl (fun za zh zC => wp_call (by kernel_rfl) rfl (hv2 (zh.ev rfl) (zh.ev rfl))) (back_any (st.length : Nat) _ hma) ?_
         rintro _ w199 ⟨hmb, hcb⟩
         refine WL.nil (WE.next (WC.seq (WC.region (WL.asg rfl rfl rfl rfl rfl (WL.nil (WE.next (WC.ret (WE.thenRet (WE.thenRet (WE.blockRet (WE.thenRet (WE.blockRet (WE.thenRet (WE.scopeRet (WE.ret1 rfl rfl ?_)))))))))))))))
         have hfin := fin_no (p := p) (t := t) (st := st) hpl1 hpl2 (ans_bad hans hL h130 hf (by simpa using h195))
         have hpre : x.st.take st.length = st := ho196.pre
         have hlp : st.length ≤ x.st.length := by have z := congrArg List.length hpre; simp at z; omega
         refine ⟨_, rfl, ⟨(fun b => C b ∨ (w.heap.size ≤ b ∧ b < w193.heap.size)), congrArg Value.bool hfin.1.symm, ?_, fun b q => q.imp id (fun q => q.1)⟩, ho196.chg.trans2 hcb (by rintro b hb (q | q); exact q; omega)⟩
         rw [hfin.2]
         rw [backTo_nat hlp, hpre] at hmb; exact hmb
        ·have h195 : ¬ (¬ ((T.same o tt) = true)) := by simpa using h195
         refine WC.skip (WE.next (WC.exit (WE.thenExit (WE.blockIs rfl ?_))))
         refine WE.round ({ x with L := L, R := R }) ⟨rfl, rfl, rfl, rfl, rfl, rfl, rfl, rfl, rfl, trivial⟩ ?_ ?_
         ·have hB200 := hB121.below hb194
          have hB201 := hB123.below hb194
          have hB202 := hB125.below hb194
          have hB203 := hB127.below hb194
          have ho204 := ho129.below hb194
          have ho205 := ho131.below hb194
          exact ⟨ans_old hans hL h130 hf (by simpa using h195), by have z := ssz_top hL; (try dsimp only); omega, hB200, hB201, hB202, hB203, ho204, ho205⟩
         ·have z := ssz_top hL; (try dsimp only); omega
     ·have h130 : ¬ ((f : Int) < (0 : Int)) := by simpa using h130
      refine WC.skip (WE.next (WC.seq (WC.seq ?_)))
      refine WC.opt [(true, .val (.pointer (some ⟨g104, 0, none⟩))), (true, .val (.pointer (some ⟨pb, po, none⟩))), (true, .val (.pointer (some ⟨pb, po, none⟩))), (true, .val (.pointer (some ⟨pb, po, none⟩))), (true, .val (.int .i64 f)), (true, .val (.pointer (some ⟨g104, 1, none⟩))), (true, .val (.pointer (some ⟨qb, qo, none⟩))), (true, .val (.pointer (some ⟨qb, qo, none⟩))), (true, .val (.pointer (some ⟨qb, qo, none⟩))), (true, .val (.int .i64 tt.f)), (true, .val (.bool (((f : Int) != (tt.f : Int))))), (true, .val (.bool (((f : Int) != (tt.f : Int))))), ((true && !((f : Int) != (tt.f : Int))), .val (.pointer (some ⟨g104, 0, none⟩))), ((true && !((f : Int) != (tt.f : Int))), .val (.pointer (some ⟨pb, po, none⟩))), ((true && !((f : Int) != (tt.f : Int))), .val (.pointer (some ⟨pb, po, none⟩))), ((true && !((f : Int) != (tt.f : Int))), .val (.pointer (some ⟨pb, po + 1, none⟩))), ((true && !((f : Int) != (tt.f : Int))), .val (.slice pa l.length pc)), ((true && !((f : Int) != (tt.f : Int))), .val (.int .i64 (((l.length : Nat) : Int)))), ((true && !((f : Int) != (tt.f : Int))), .val (.pointer (some ⟨g104, 1, none⟩))), ((true && !((f : Int) != (tt.f : Int))), .val (.pointer (some ⟨qb, qo, none⟩))), ((true && !((f : Int) != (tt.f : Int))), .val (.pointer (some ⟨qb, qo, none⟩))), ((true && !((f : Int) != (tt.f : Int))), .val (.pointer (some ⟨qb, qo + 1, none⟩))), ((true && !((f : Int) != (tt.f : Int))), .val (.slice qa tt.args.length qc)), ((true && !((f : Int) != (tt.f : Int))), .val (.int .i64 (((tt.args.length : Nat) : Int)))), ((true && !((f : Int) != (tt.f : Int))), .val (.bool (((((l.length : Nat) : Int) : Int) != (((tt.args.length : Nat) : Int) : Int))))), (true, .val (.bool ((((f : Int) != (tt.f : Int)) || ((((l.length : Nat) : Int) : Int) != (((tt.args.length : Nat) : Int) : Int))))))] [(0, .pointer (some ⟨g, 0, none⟩)), (1, .agg #[.int .i64 p.f, .slice pa0 p.args.length pc0]), (2, .agg #[.int .i64 t.f, .slice ta0 t.args.length tc0]), (4, .pointer (some ⟨g2, 0, none⟩)), (5, .pointer (some ⟨g11, 0, none⟩)), (7, .int .i64 (((st.length : Nat) : Int))), (8, .pointer (some ⟨g44, 0, none⟩)), (9, .slice x.ta L.length x.tc), (10, .pointer (some ⟨g104, 0, none⟩)), (23, .bool (((!(p.plain)) || (!(t.plain))))), (32, .bool ((decide ((0 : Int) < (((x.L.length : Nat) : Int) : Int))))), (49, .bool ((decide ((f : Int) < (0 : Int)))))] ⟨rfl, rfl, rfl, rfl, rfl, rfl, rfl, rfl, rfl, rfl, rfl, rfl, trivial⟩ (by kernel_rfl) (by kernel_rfl) (by kernel_rfl) ?_ ?_
      ·refine ⟨⟨true, .none rfl, fun h w => optUndef h, fun zβ za zw zc => ?_⟩, ?_⟩
       ·exact fld_121_0 rfl (zc.kn.ev rfl) ⟨_, rfl, Below.refl _ _, optDef zβ rfl⟩
       refine ⟨⟨true, .none rfl, fun h w => optUndef h, fun zβ za zw zc => ?_⟩, ?_⟩
       ·exact ld_103 rfl ((evt za 93).trans (optVal (zc.dep 0 93 (by kernel_rfl)) rfl rfl)) (bkeeps zc.below _ _ ((hB117.cell 0).trans rfl)) ⟨_, rfl, Below.refl _ _, optDef zβ rfl⟩
       refine ⟨⟨true, .none rfl, fun h w => optUndef h, fun zβ za zw zc => ?_⟩, ?_⟩
       ·exact nilCheck_ rfl ((evt za 94).trans (optVal (zc.dep 1 94 (by kernel_rfl)) rfl rfl)) ⟨_, rfl, Below.refl _ _, optDef zβ rfl⟩
       refine ⟨⟨true, .none rfl, fun h w => optUndef h, fun zβ za zw zc => ?_⟩, ?_⟩
       ·exact fld_58_0 rfl ((evt za 95).trans (optVal (zc.dep 2 95 (by kernel_rfl)) rfl rfl)) ⟨_, rfl, Below.refl _ _, optDef zβ rfl⟩
       refine ⟨⟨true, .none rfl, fun h w => optUndef h, fun zβ za zw zc => ?_⟩, ?_⟩
       ·exact ld_3 rfl ((evt za 96).trans (optVal (zc.dep 3 96 (by kernel_rfl)) rfl rfl)) (bkeeps (bstep hb119 zc.below) _ _ hp1) ⟨_, rfl, Below.refl _ _, optDef zβ rfl⟩
       refine ⟨⟨true, .none rfl, fun h w => optUndef h, fun zβ za zw zc => ?_⟩, ?_⟩
       ·exact fld_121_1 rfl (zc.kn.ev rfl) ⟨_, rfl, Below.refl _ _, optDef zβ rfl⟩
       refine ⟨⟨true, .none rfl, fun h w => optUndef h, fun zβ za zw zc => ?_⟩, ?_⟩
       ·exact ld_103 rfl ((evt za 98).trans (optVal (zc.dep 5 98 (by kernel_rfl)) rfl rfl)) (bkeeps zc.below _ _ ((hB117.cell 1).trans rfl)) ⟨_, rfl, Below.refl _ _, optDef zβ rfl⟩
       refine ⟨⟨true, .none rfl, fun h w => optUndef h, fun zβ za zw zc => ?_⟩, ?_⟩
       ·exact nilCheck_ rfl ((evt za 99).trans (optVal (zc.dep 6 99 (by kernel_rfl)) rfl rfl)) ⟨_, rfl, Below.refl _ _, optDef zβ rfl⟩
       refine ⟨⟨true, .none rfl, fun h w => optUndef h, fun zβ za zw zc => ?_⟩, ?_⟩
       ·exact fld_58_0 rfl ((evt za 100).trans (optVal (zc.dep 7 100 (by kernel_rfl)) rfl rfl)) ⟨_, rfl, Below.refl _ _, optDef zβ rfl⟩
       refine ⟨⟨true, .none rfl, fun h w => optUndef h, fun zβ za zw zc => ?_⟩, ?_⟩
       ·exact ld_3 rfl ((evt za 101).trans (optVal (zc.dep 8 101 (by kernel_rfl)) rfl rfl)) (bkeeps (bstep hb119 zc.below) _ _ hq1) ⟨_, rfl, Below.refl _ _, optDef zβ rfl⟩
       refine ⟨⟨true, .none rfl, fun h w => optUndef h, fun zβ za zw zc => ?_⟩, ?_⟩
       ·exact neq_3 rfl ((evt za 97).trans (optVal (zc.dep 4 97 (by kernel_rfl)) rfl rfl)) ((evt za 102).trans (optVal (zc.dep 9 102 (by kernel_rfl)) rfl rfl)) ⟨_, rfl, Below.refl _ _, optDef zβ rfl⟩
       refine ⟨⟨true, .none rfl, fun h w => optUndef h, fun zβ za zw zc => ?_⟩, ?_⟩
       ·exact wp_move rfl ((evt za 103).trans (optVal (zc.dep 10 103 (by kernel_rfl)) rfl rfl)) ⟨_, rfl, Below.refl _ _, optDef zβ rfl⟩
       refine ⟨⟨_, .no (c := ((f : Int) != (tt.f : Int))) (d := true) rfl (fun v w h => h), fun h w => optUndef h, fun zβ za zw zc => ?_⟩, ?_⟩
       ·exact fld_121_0 rfl (zc.kn.ev rfl) ⟨_, rfl, Below.refl _ _, optDef zβ rfl⟩
       refine ⟨⟨_, .no (c := ((f : Int) != (tt.f : Int))) (d := true) rfl (fun v w h => h), fun h w => optUndef h, fun zβ za zw zc => ?_⟩, ?_⟩
       ·exact ld_103 rfl ((evt za 105).trans (optVal (zc.dep 12 105 (by kernel_rfl)) rfl zβ)) (bkeeps zc.below _ _ ((hB117.cell 0).trans rfl)) ⟨_, rfl, Below.refl _ _, optDef zβ rfl⟩
       refine ⟨⟨_, .no (c := ((f : Int) != (tt.f : Int))) (d := true) rfl (fun v w h => h), fun h w => optUndef h, fun zβ za zw zc => ?_⟩, ?_⟩
       ·exact nilCheck_ rfl ((evt za 106).trans (optVal (zc.dep 13 106 (by kernel_rfl)) rfl zβ)) ⟨_, rfl, Below.refl _ _, optDef zβ rfl⟩
       refine ⟨⟨_, .no (c := ((f : Int) != (tt.f : Int))) (d := true) rfl (fun v w h => h), fun h w => optUndef h, fun zβ za zw zc => ?_⟩, ?_⟩
       ·exact fld_58_1 rfl ((evt za 107).trans (optVal (zc.dep 14 107 (by kernel_rfl)) rfl zβ)) ⟨_, rfl, Below.refl _ _, optDef zβ rfl⟩
       refine ⟨⟨_, .no (c := ((f : Int) != (tt.f : Int))) (d := true) rfl (fun v w h => h), fun h w => optUndef h, fun zβ za zw zc => ?_⟩, ?_⟩
       ·exact ld_56 rfl ((evt za 108).trans (optVal (zc.dep 15 108 (by kernel_rfl)) rfl zβ)) (bkeeps (bstep hb119 zc.below) _ _ hp2) ⟨_, rfl, Below.refl _ _, optDef zβ rfl⟩
       refine ⟨⟨_, .no (c := ((f : Int) != (tt.f : Int))) (d := true) rfl (fun v w h => h), fun h w => optUndef h, fun zβ za zw zc => ?_⟩, ?_⟩
       ·exact len_56 rfl ((evt za 109).trans (optVal (zc.dep 16 109 (by kernel_rfl)) rfl zβ)) ⟨_, rfl, Below.refl _ _, optDef zβ rfl⟩
       refine ⟨⟨_, .no (c := ((f : Int) != (tt.f : Int))) (d := true) rfl (fun v w h => h), fun h w => optUndef h, fun zβ za zw zc => ?_⟩, ?_⟩
       ·exact fld_121_1 rfl (zc.kn.ev rfl) ⟨_, rfl, Below.refl _ _, optDef zβ rfl⟩
       refine ⟨⟨_, .no (c := ((f : Int) != (tt.f : Int))) (d := true) rfl (fun v w h => h), fun h w => optUndef h, fun zβ za zw zc => ?_⟩, ?_⟩
       ·exact ld_103 rfl ((evt za 111).trans (optVal (zc.dep 18 111 (by kernel_rfl)) rfl zβ)) (bkeeps zc.below _ _ ((hB117.cell 1).trans rfl)) ⟨_, rfl, Below.refl _ _, optDef zβ rfl⟩
       refine ⟨⟨_, .no (c := ((f : Int) != (tt.f : Int))) (d := true) rfl (fun v w h => h), fun h w => optUndef h, fun zβ za zw zc => ?_⟩, ?_⟩
       ·exact nilCheck_ rfl ((evt za 112).trans (optVal (zc.dep 19 112 (by kernel_rfl)) rfl zβ)) ⟨_, rfl, Below.refl _ _, optDef zβ rfl⟩
       refine ⟨⟨_, .no (c := ((f : Int) != (tt.f : Int))) (d := true) rfl (fun v w h => h), fun h w => optUndef h, fun zβ za zw zc => ?_⟩, ?_⟩
       ·exact fld_58_1 rfl ((evt za 113).trans (optVal (zc.dep 20 113 (by kernel_rfl)) rfl zβ)) ⟨_, rfl, Below.refl _ _, optDef zβ rfl⟩
       refine ⟨⟨_, .no (c := ((f : Int) != (tt.f : Int))) (d := true) rfl (fun v w h => h), fun h w => optUndef h, fun zβ za zw zc => ?_⟩, ?_⟩
       ·exact ld_56 rfl ((evt za 114).trans (optVal (zc.dep 21 114 (by kernel_rfl)) rfl zβ)) (bkeeps (bstep hb119 zc.below) _ _ hq2) ⟨_, rfl, Below.refl _ _, optDef zβ rfl⟩
       refine ⟨⟨_, .no (c := ((f : Int) != (tt.f : Int))) (d := true) rfl (fun v w h => h), fun h w => optUndef h, fun zβ za zw zc => ?_⟩, ?_⟩
       ·exact len_56 rfl ((evt za 115).trans (optVal (zc.dep 22 115 (by kernel_rfl)) rfl zβ)) ⟨_, rfl, Below.refl _ _, optDef zβ rfl⟩
       refine ⟨⟨_, .no (c := ((f : Int) != (tt.f : Int))) (d := true) rfl (fun v w h => h), fun h w => optUndef h, fun zβ za zw zc => ?_⟩, ?_⟩
       ·exact neq_3 rfl ((evt za 110).trans (optVal (zc.dep 17 110 (by kernel_rfl)) rfl zβ)) ((evt za 116).trans (optVal (zc.dep 23 116 (by kernel_rfl)) rfl zβ)) ⟨_, rfl, Below.refl _ _, optDef zβ rfl⟩
       refine ⟨⟨true, .none rfl, fun h w => optUndef h, fun zβ za zw zc => ?_⟩, ?_⟩
       ·exact wp_or rfl ((evt za 104).trans (optVal (zc.dep 11 104 (by kernel_rfl)) rfl rfl)) (fun hp => ((evt za 117).trans (optVal (zc.dep 24 117 (by kernel_rfl)) rfl (bMkN zβ hp)))) ⟨_, rfl, Below.refl _ _, optDef zβ rfl⟩
       exact trivial
      ·intro za w206 zh hb207 zu
       have zh := zh.cons (d := 118) (v := .bool ((((f : Int) != (tt.f : Int)) || ((((l.length : Nat) : Int) : Int) != (((tt.args.length : Nat) : Int) : Int))))) (optVal (zu 25 118 (by kernel_rfl)) rfl rfl)
       clear zu
       refine WE.go zh ?_
       refine WE.next ?_
       refine WC.cond rfl (fun h208 => ?_) (fun h208 => ?_)
       ·have h208 : ((f : Int) ≠ (tt.f : Int)) ∨ ((((l.length : Nat) : Int) : Int) ≠ (((tt.args.length : Nat) : Int) : Int)) := by simpa using h208
        (try simp at h208)
        refine WC.seq (WC.region (WL.mv rfl rfl rfl rfl rfl (WL.mv rfl rfl rfl rfl rfl ?_)))
        have hb210 : Below w92.heap.size w92 w206 := (bstep hb119 hb207)
        have ho209 := hts.below hb210
        have hB211 := hB127.below hb207
        have ho212 := ho129.below hb207
        have hma := ho209.mat hB211 ho212 hTs0
        refine WL.call rfl rfl rfl (fun za zh zC => wp_call (by kernel_rfl) rfl (hv2 (zh.ev rfl) (zh.ev rfl))) (back_any (st.length : Nat) _ hma) ?_
        rintro _ w213 ⟨hmb, hcb⟩
        refine WL.nil (WE.sub (K' := [(0, .pointer (some ⟨g, 0, none⟩)), (1, .agg #[.int .i64 p.f, .slice pa0 p.args.length pc0]), (2, .agg #[.int .i64 t.f, .slice ta0 t.args.length tc0]), (4, .pointer (some ⟨g2, 0, none⟩)), (5, .pointer (some ⟨g11, 0, none⟩)), (7, .int .i64 (((st.length : Nat) : Int))), (8, .pointer (some ⟨g44, 0, none⟩)), (9, .slice x.ta L.length x.tc), (10, .pointer (some ⟨g104, 0, none⟩)), (23, .bool (((!(p.plain)) || (!(t.plain))))), (32, .bool ((decide ((0 : Int) < (((x.L.length : Nat) : Int) : Int))))), (49, .bool ((decide ((f : Int) < (0 : Int))))), (118, .bool ((((f : Int) != (tt.f : Int)) || ((((l.length : Nat) : Int) : Int) != (((tt.args.length : Nat) : Int) : Int)))))]) ⟨rfl, rfl, rfl, rfl, rfl, rfl, rfl, rfl, rfl, rfl, rfl, rfl, rfl, trivial⟩ ?_)
        refine WE.next (WC.seq (WC.region (WL.asg rfl rfl rfl rfl rfl (WL.nil (WE.next (WC.ret (WE.thenRet (WE.blockRet (WE.thenRet (WE.blockRet (WE.thenRet (WE.scopeRet (WE.ret1 rfl rfl ?_)))))))))))))
        have hfin := fin_no (p := p) (t := t) (st := st) hpl1 hpl2 (ans_off hans hL h130 (fun hh => by have z := h208; simp [hh.1, hh.2] at z))
        have hpre : x.st.take st.length = st := ho209.pre
        have hlp : st.length ≤ x.st.length := by have z := congrArg List.length hpre; simp at z; omega
        refine ⟨_, rfl, ⟨(fun b => C b ∨ (w.heap.size ≤ b ∧ b < w206.heap.size)), congrArg Value.bool hfin.1.symm, ?_, fun b q => q.imp id (fun q => q.1)⟩, ho209.chg.trans2 hcb (by rintro b hb (q | q); exact q; omega)⟩
        rw [hfin.2]
        rw [backTo_nat hlp, hpre] at hmb; exact hmb
       ·have h208 : ¬ (((f : Int) ≠ (tt.f : Int)) ∨ ((((l.length : Nat) : Int) : Int) ≠ (((tt.args.length : Nat) : Int) : Int))) := by simpa using h208
        (try simp at h208)
        refine WC.skip (WE.next (WC.seq ?_))
        have hl1 := len_le_sizeL l
        have hz1b := hz1
        simp only [T.size] at hz1b
        refine WC.region ?_
        refine WL.val _ rfl rfl rfl (fun za zC zh zk => fld_121_0 rfl (zh.ev rfl) zk) ?_
        have hB214 := hB117.below hb207
        refine WL.val _ rfl rfl rfl (fun za zC zh zk => ld_103 rfl (zh.ev rfl) ((hB214.cell 0).trans rfl) zk) ?_
        refine WL.val _ rfl rfl rfl (fun za zC zh zk => nilCheck_ rfl (zh.ev rfl) zk) ?_
        refine WL.val _ rfl rfl rfl (fun za zC zh zk => fld_58_1 rfl (zh.ev rfl) zk) ?_
        have hb215 : Below w92.heap.size w92 w206 := (bstep hb119 hb207)
        refine WL.val _ rfl rfl rfl (fun za zC zh zk => ld_56 rfl (zh.ev rfl) (bkeeps hb215 _ _ hp2) zk) ?_
        refine WL.val (.int .i64 (((l.length : Nat) : Int))) rfl rfl rfl (fun za zC zh zk => len_56 rfl (zh.ev rfl) zk) ?_
        refine WL.val (.int .i64 (((l.length : Int) - 1))) rfl rfl rfl (fun za zC zh zk => subb_3 rfl (zh.ev rfl) (zh.ev rfl) (wrap_eq rfl (by omega) (by omega)) zk) ?_
        refine WL.asg rfl rfl rfl rfl rfl ?_
        refine WL.nil (WE.sub (K' := [(0, .pointer (some ⟨g, 0, none⟩)), (1, .agg #[.int .i64 p.f, .slice pa0 p.args.length pc0]), (2, .agg #[.int .i64 t.f, .slice ta0 t.args.length tc0]), (4, .pointer (some ⟨g2, 0, none⟩)), (5, .pointer (some ⟨g11, 0, none⟩)), (7, .int .i64 (((st.length : Nat) : Int))), (8, .pointer (some ⟨g44, 0, none⟩)), (9, .slice x.ta L.length x.tc), (10, .pointer (some ⟨g104, 0, none⟩)), (13, .int .i64 (((l.length : Int) - 1))), (23, .bool (((!(p.plain)) || (!(t.plain))))), (32, .bool ((decide ((0 : Int) < (((x.L.length : Nat) : Int) : Int))))), (49, .bool ((decide ((f : Int) < (0 : Int))))), (118, .bool ((((f : Int) != (tt.f : Int)) || ((((l.length : Nat) : Int) : Int) != (((tt.args.length : Nat) : Int) : Int)))))]) ⟨rfl, rfl, rfl, rfl, rfl, rfl, rfl, rfl, rfl, rfl, rfl, rfl, rfl, rfl, trivial⟩ ?_)
        refine WE.next (WC.block ?_)
        have ho216 := hts.below hb215
        have hp2s : (TS w g mb g75 C Ps Ts st w206 { x with L := L, R := R } ∧ InTp Ps w206 (.mk f l) (.pointer (some ⟨pb, po, none⟩)) ∧ InTp Ts w206 tt (.pointer (some ⟨qb, qo, none⟩)) ∧ ∀ b, (Value.slice x.ta L.length x.tc).ownBlock = some b → b ≠ g104) := ⟨ho216, hpP.below hb215, hqP.below hb215, fun b e => by have z := (hts.trow.lt b e).2; omega⟩
        have hsl : f = tt.f ∧ l.length = tt.args.length := by have z := h208; (try simp at z); exact ⟨z.1, by omega⟩
        refine WC.loop (X := Option Addr × Nat × List (Addr × Addr) × List (T × T) × Nat) (fun y => y.2.2.2.2) (fun y => [(0, .pointer (some ⟨g, 0, none⟩)), (1, .agg #[.int .i64 p.f, .slice pa0 p.args.length pc0]), (2, .agg #[.int .i64 t.f, .slice ta0 t.args.length tc0]), (4, .pointer (some ⟨g2, 0, none⟩)), (5, .pointer (some ⟨g11, 0, none⟩)), (7, .int .i64 (((st.length : Nat) : Int))), (8, .pointer (some ⟨g44, 0, none⟩)), (9, .slice y.1 y.2.2.2.1.length y.2.1), (10, .pointer (some ⟨g104, 0, none⟩)), (13, .int .i64 (((y.2.2.2.2 : Int) - 1))), (23, .bool (((!(p.plain)) || (!(t.plain))))), (32, .bool ((decide ((0 : Int) < (((x.L.length : Nat) : Int) : Int))))), (49, .bool ((decide ((f : Int) < (0 : Int))))), (118, .bool ((((f : Int) != (tt.f : Int)) || ((((l.length : Nat) : Int) : Int) != (((tt.args.length : Nat) : Int) : Int)))))]) (fun y w217 => y.2.2.2.2 ≤ l.length ∧ y.2.2.2.1.reverse = (l.zip tt.args).drop y.2.2.2.2 ++ L.reverse ∧ Blk w217 g2 58 #[.int .i64 p.f, .slice pa0 p.args.length pc0] ∧ Blk w217 g11 58 #[.int .i64 t.f, .slice ta0 t.args.length tc0] ∧ Blk w217 g44 58 #[.int .i64 t.f, .slice a41 t.args.length c42] ∧ Blk w217 g 89 #[.map ((some mb)), .slice x.ra x.st.length x.rc] ∧ Blk w217 g104 121 #[.pointer (some ⟨pb, po, none⟩), .pointer (some ⟨qb, qo, none⟩)] ∧ ObjAt (w217) mb (.map x.es x.cl) ∧ (TS w g mb g75 C Ps Ts st (w217) { x with ta := y.1, tc := y.2.1, R := y.2.2.1, L := y.2.2.2.1 } ∧ InTp Ps (w217) (.mk f l) (.pointer (some ⟨pb, po, none⟩)) ∧ InTp Ts (w217) tt (.pointer (some ⟨qb, qo, none⟩)) ∧ ∀ b, (Value.slice y.1 y.2.2.2.1.length y.2.1).ownBlock = some b → b ≠ g104)) ((x.ta, x.tc, R, L, l.length)) ⟨rfl, rfl, rfl, rfl, rfl, rfl, rfl, rfl, rfl, rfl, rfl, rfl, rfl, rfl, trivial⟩ ?_ ?_
        ·have hB218 := hB121.below hb207
         have hB219 := hB123.below hb207
         have hB220 := hB125.below hb207
         have hB221 := hB127.below hb207
         have ho222 := ho129.below hb207
         exact ⟨Nat.le_refl _, (by dsimp only; rw [List.drop_of_length_le (by simp; omega), List.nil_append]), hB218, hB219, hB220, hB221, hB214, ho222, hp2s⟩
        ·rintro y w217 ⟨hk0, hrev, hB223, hB224, hB225, hB226, hB227, ho228, ho229⟩
         obtain ⟨hts2, hpp, hqq, hn10⟩ := id ho229
         obtain ⟨pa2, pc2, hpp1, hpp2, hppT⟩ := hpp.at
         obtain ⟨qa2, qc2, hqq1, hqq2, hqqT⟩ := hqq.at
         simp only [T.f_mk, T.args_mk] at hpp1 hpp2 hppT
         refine WC.seq (WC.seq (WC.region (WL.mv rfl rfl rfl rfl rfl ?_)))
         refine WL.val (.bool ((decide ((0 : Int) ≤ (((y.2.2.2.2 : Int) - 1) : Int))))) rfl rfl rfl (fun za zC zh zk => geq_3 rfl (zh.ev rfl) (zh.ev rfl) zk) ?_
         refine WL.nil (WE.next ?_)
         refine WC.cond rfl (fun h230 => ?_) (fun h230 => ?_)
         ·have h230 : (0 : Int) ≤ (((y.2.2.2.2 : Int) - 1) : Int) := by simpa using h230
          refine WC.skip (WE.next (WC.seq (WC.block ?_)))
          obtain ⟨k, hk⟩ : ∃ k, y.2.2.2.2 = k + 1 := ⟨y.2.2.2.2 - 1, by omega⟩
          obtain ⟨ab, ao, hab, hAp⟩ := InTp.arg (b := 0) (o := 0) hppT k (by simp; omega)
          obtain ⟨bb, bo, hbb, hBp⟩ := InTp.arg (b := 0) (o := 0) hqqT k (by omega)
          have hlL := congrArg List.length hrev
          simp only [List.length_reverse, List.length_append, List.length_drop, List.length_zip] at hlL
          have hl1 := len_le_sizeL l
          have hl2 := len_le_ssz L
          have hl3 := ssz_top hL
          have hSlt : ∀ b, (fun b => (Value.slice y.1 y.2.2.2.1.length y.2.1).ownBlock = some b) b → b < w217.heap.size := fun b h => ((hts2.below (Below.refl _ _)).trow.lt b h).2
          have h10l : g104 < w217.heap.size := hB227.lt
          refine WC.tail3 (S := ((fun b => (Value.slice y.1 y.2.2.2.1.length y.2.1).ownBlock = some b))) [(true, .val (.slice y.1 y.2.2.2.1.length y.2.1)), (true, .val (.pointer (some ⟨g104, 0, none⟩))), (true, .val (.pointer (some ⟨pb, po, none⟩))), (true, .val (.pointer (some ⟨pb, po, none⟩))), (true, .val (.pointer (some ⟨pb, po + 1, none⟩))), (true, .val (.slice pa2 l.length pc2)), (true, .val (.int .i64 (((y.2.2.2.2 : Int) - 1)))), (true, .val (.pointer (some ⟨ab, ao + k * 2, none⟩))), (true, .val (.pointer (some ⟨g104, 1, none⟩))), (true, .val (.pointer (some ⟨qb, qo, none⟩))), (true, .val (.pointer (some ⟨qb, qo, none⟩))), (true, .val (.pointer (some ⟨qb, qo + 1, none⟩))), (true, .val (.slice qa2 tt.args.length qc2)), (true, .val (.int .i64 (((y.2.2.2.2 : Int) - 1)))), (true, .val (.pointer (some ⟨bb, bo + k * 2, none⟩))), (true, .val (.agg #[.pointer (some ⟨ab, ao + k * 2, none⟩), .pointer (some ⟨bb, bo + k * 2, none⟩)])), (true, .mem (fun v w' => OneRow eltV2 w217 121 ((⟨ab, ao + k * 2, none⟩, ⟨bb, bo + k * 2, none⟩) : Addr × Addr) v w') (fun v w w' hc h => h.chg hc hSlt)), (true, .val undef), (true, .val undef)] [(0, .pointer (some ⟨g, 0, none⟩)), (1, .agg #[.int .i64 p.f, .slice pa0 p.args.length pc0]), (2, .agg #[.int .i64 t.f, .slice ta0 t.args.length tc0]), (4, .pointer (some ⟨g2, 0, none⟩)), (5, .pointer (some ⟨g11, 0, none⟩)), (7, .int .i64 (((st.length : Nat) : Int))), (8, .pointer (some ⟨g44, 0, none⟩)), (10, .pointer (some ⟨g104, 0, none⟩)), (13, .int .i64 (((y.2.2.2.2 : Int) - 1))), (23, .bool (((!(p.plain)) || (!(t.plain))))), (32, .bool ((decide ((0 : Int) < (((x.L.length : Nat) : Int) : Int))))), (49, .bool ((decide ((f : Int) < (0 : Int))))), (118, .bool ((((f : Int) != (tt.f : Int)) || ((((l.length : Nat) : Int) : Int) != (((tt.args.length : Nat) : Int) : Int))))), (130, .bool ((decide ((0 : Int) ≤ (((y.2.2.2.2 : Int) - 1) : Int)))))] 17 18 ((y.2.2.2.1 ++ [(tget l k, tget tt.args k)]).length) 150 9 (fun ra rc wz => (TS w g mb g75 C Ps Ts st wz { x with ta := ra, tc := rc, R := y.2.2.1 ++ [(⟨ab, ao + k * 2, none⟩, ⟨bb, bo + k * 2, none⟩)], L := y.2.2.2.1 ++ [(tget l k, tget tt.args k)] } ∧ InTp Ps wz (.mk f l) (.pointer (some ⟨pb, po, none⟩)) ∧ InTp Ts wz tt (.pointer (some ⟨qb, qo, none⟩)) ∧ ∀ b, (Value.slice ra (y.2.2.2.1 ++ [(tget l k, tget tt.args k)]).length rc).ownBlock = some b → b ≠ g104)) (by decide) (fun ra rc w w' hb h => ⟨h.1.below hb, h.2.1.below hb, h.2.2.1.below hb, h.2.2.2⟩) ⟨rfl, rfl, rfl, rfl, rfl, rfl, rfl, rfl, rfl, rfl, rfl, rfl, rfl, rfl, trivial⟩ (by kernel_rfl) (by kernel_rfl) (by kernel_rfl) (by kernel_rfl) (by kernel_rfl) (by kernel_rfl) ?_ ?_
          ·refine ⟨.inl ⟨rfl, true, .none rfl, (fun gg b h => by cases h), fun h w => optUndef h, fun zβ za zw zc => ?_⟩, ?_⟩
           ·exact wp_move rfl ((evt za 9).trans (zc.old 9 _ rfl (by kernel_rfl))) ⟨_, rfl, Below.refl _ _, optDef zβ rfl⟩
           refine ⟨.inl ⟨rfl, true, .none rfl, (fun gg b h => by cases h), fun h w => optUndef h, fun zβ za zw zc => ?_⟩, ?_⟩
           ·exact fld_121_0 rfl (zc.kn.ev rfl) ⟨_, rfl, Below.refl _ _, optDef zβ rfl⟩
           refine ⟨.inl ⟨rfl, true, .none rfl, (fun gg b h => by cases h), fun h w => optUndef h, fun zβ za zw zc => ?_⟩, ?_⟩
           ·exact ld_103 rfl ((evt za 134).trans (optSVal (zc.dep 1 134 (by kernel_rfl) (by decide)) rfl rfl)) (bkeeps (zc.early (by kernel_rfl)) _ _ ((hB227.cell 0).trans rfl)) ⟨_, rfl, Below.refl _ _, optDef zβ rfl⟩
           refine ⟨.inl ⟨rfl, true, .none rfl, (fun gg b h => by cases h), fun h w => optUndef h, fun zβ za zw zc => ?_⟩, ?_⟩
           ·exact nilCheck_ rfl ((evt za 135).trans (optSVal (zc.dep 2 135 (by kernel_rfl) (by decide)) rfl rfl)) ⟨_, rfl, Below.refl _ _, optDef zβ rfl⟩
           refine ⟨.inl ⟨rfl, true, .none rfl, (fun gg b h => by cases h), fun h w => optUndef h, fun zβ za zw zc => ?_⟩, ?_⟩
           ·exact fld_58_1 rfl ((evt za 136).trans (optSVal (zc.dep 3 136 (by kernel_rfl) (by decide)) rfl rfl)) ⟨_, rfl, Below.refl _ _, optDef zβ rfl⟩
           refine ⟨.inl ⟨rfl, true, .none rfl, (fun gg b h => by cases h), fun h w => optUndef h, fun zβ za zw zc => ?_⟩, ?_⟩
           ·exact ld_56 rfl ((evt za 137).trans (optSVal (zc.dep 4 137 (by kernel_rfl) (by decide)) rfl rfl)) (bkeeps (zc.early (by kernel_rfl)) _ _ hpp2) ⟨_, rfl, Below.refl _ _, optDef zβ rfl⟩
           refine ⟨.inl ⟨rfl, true, .none rfl, (fun gg b h => by cases h), fun h w => optUndef h, fun zβ za zw zc => ?_⟩, ?_⟩
           ·exact wp_move rfl (zc.kn.ev rfl) ⟨_, rfl, Below.refl _ _, optDef zβ rfl⟩
           refine ⟨.inl ⟨rfl, true, .none rfl, (fun gg b h => by cases h), fun h w => optUndef h, fun zβ za zw zc => ?_⟩, ?_⟩
           ·exact ix_56 (k := k) rfl ((evt za 138).trans (optSVal (zc.dep 5 138 (by kernel_rfl) (by decide)) rfl rfl)) hab (((evt za 139).trans (optSVal (zc.dep 6 139 (by kernel_rfl) (by decide)) rfl rfl)).trans (congrArg (Value.int .i64) (by omega))) (by first | omega | (simp; omega)) ⟨_, rfl, Below.refl _ _, optDef zβ rfl⟩
           refine ⟨.inl ⟨rfl, true, .none rfl, (fun gg b h => by cases h), fun h w => optUndef h, fun zβ za zw zc => ?_⟩, ?_⟩
           ·exact fld_121_1 rfl (zc.kn.ev rfl) ⟨_, rfl, Below.refl _ _, optDef zβ rfl⟩
           refine ⟨.inl ⟨rfl, true, .none rfl, (fun gg b h => by cases h), fun h w => optUndef h, fun zβ za zw zc => ?_⟩, ?_⟩
           ·exact ld_103 rfl ((evt za 141).trans (optSVal (zc.dep 8 141 (by kernel_rfl) (by decide)) rfl rfl)) (bkeeps (zc.early (by kernel_rfl)) _ _ ((hB227.cell 1).trans rfl)) ⟨_, rfl, Below.refl _ _, optDef zβ rfl⟩
           refine ⟨.inl ⟨rfl, true, .none rfl, (fun gg b h => by cases h), fun h w => optUndef h, fun zβ za zw zc => ?_⟩, ?_⟩
           ·exact nilCheck_ rfl ((evt za 142).trans (optSVal (zc.dep 9 142 (by kernel_rfl) (by decide)) rfl rfl)) ⟨_, rfl, Below.refl _ _, optDef zβ rfl⟩
           refine ⟨.inl ⟨rfl, true, .none rfl, (fun gg b h => by cases h), fun h w => optUndef h, fun zβ za zw zc => ?_⟩, ?_⟩
           ·exact fld_58_1 rfl ((evt za 143).trans (optSVal (zc.dep 10 143 (by kernel_rfl) (by decide)) rfl rfl)) ⟨_, rfl, Below.refl _ _, optDef zβ rfl⟩
           refine ⟨.inl ⟨rfl, true, .none rfl, (fun gg b h => by cases h), fun h w => optUndef h, fun zβ za zw zc => ?_⟩, ?_⟩
           ·exact ld_56 rfl ((evt za 144).trans (optSVal (zc.dep 11 144 (by kernel_rfl) (by decide)) rfl rfl)) (bkeeps (zc.early (by kernel_rfl)) _ _ hqq2) ⟨_, rfl, Below.refl _ _, optDef zβ rfl⟩
           refine ⟨.inl ⟨rfl, true, .none rfl, (fun gg b h => by cases h), fun h w => optUndef h, fun zβ za zw zc => ?_⟩, ?_⟩
           ·exact wp_move rfl (zc.kn.ev rfl) ⟨_, rfl, Below.refl _ _, optDef zβ rfl⟩
           refine ⟨.inl ⟨rfl, true, .none rfl, (fun gg b h => by cases h), fun h w => optUndef h, fun zβ za zw zc => ?_⟩, ?_⟩
           ·exact ix_56 (k := k) rfl ((evt za 145).trans (optSVal (zc.dep 12 145 (by kernel_rfl) (by decide)) rfl rfl)) hbb (((evt za 146).trans (optSVal (zc.dep 13 146 (by kernel_rfl) (by decide)) rfl rfl)).trans (congrArg (Value.int .i64) (by omega))) (by first | omega | (simp; omega)) ⟨_, rfl, Below.refl _ _, optDef zβ rfl⟩
           refine ⟨.inl ⟨rfl, true, .none rfl, (fun gg b h => by cases h), fun h w => optUndef h, fun zβ za zw zc => ?_⟩, ?_⟩
           ·exact build_121_0_1 rfl ((evt za 140).trans (optSVal (zc.dep 7 140 (by kernel_rfl) (by decide)) rfl rfl)) ((evt za 147).trans (optSVal (zc.dep 14 147 (by kernel_rfl) (by decide)) rfl rfl)) ⟨_, rfl, Below.refl _ _, optDef zβ rfl⟩
           refine ⟨.inl ⟨rfl, true, .none rfl, (fun gg b h => by cases h), fun h w => optUndef h, fun zβ za zw zc => ?_⟩, ?_⟩
           ·exact row_122_1 rfl ((evt za 148).trans (optSVal (zc.dep 15 148 (by kernel_rfl) (by decide)) rfl rfl)) ⟨_, rfl, balloc _ _, optDef zβ ⟨_, [.pointer (some ⟨ab, ao + k * 2, none⟩), .pointer (some ⟨bb, bo + k * 2, none⟩)], rfl, zc.chg.size, Blk.new' rfl, rfl⟩⟩
           refine ⟨.inr (.inl ⟨rfl, rfl, fun za zw zc => ?_⟩), ?_⟩
           ·obtain ⟨g1, cs, e1, hg1, hB1, hin⟩ := (optSMem (zc.dep 16 149 (by kernel_rfl) (by decide)) rfl rfl)
            have hbz := bstep (Below.refl _ _) zc.below
            have htz := hts2.below hbz
            have hcs : cs = [.pointer (some ⟨ab, ao + k * 2, none⟩), .pointer (some ⟨bb, bo + k * 2, none⟩)] := hin
            subst hcs
            exact wp_appE2 (E := eltV2) (size := 2) (bytes := 16) (z := .agg #[.pointer none, .pointer none]) (y := ((⟨ab, ao + k * 2, none⟩, ⟨bb, bo + k * 2, none⟩) : Addr × Addr)) rfl Try.underlying122 (by kernel_rfl) rfl (by decide) rfl ((evt za 133).trans (optSVal (zc.dep 0 133 (by kernel_rfl) (by decide)) rfl rfl)) ((evt za 149).trans e1) htz.trow hB1 rfl (by omega) (by omega) (Nat.zero_le _) (fun ra rc w' h1 h2 _ h4 => ⟨ra, rc, by rw [List.length_append]; rfl, ⟨TS.push htz h1 h2 (fun b e => (h4 b e).imp id (fun e => by have z1 := htz.now; omega)) (hAp.below hbz) (hBp.below hbz) ⟨Nat.le_trans (T.size_le_sizeL (tget_mem (by omega))) (by simp only [T.size] at hz1; omega), Nat.le_trans (T.size_le_sizeL (tget_mem (by omega))) (by rw [T.size_eq] at hz2; omega)⟩, (hpp.below hbz).chg h2 (fun b q e => by have z1 := (htz.hP b q).1; have z2 := htz.tnew b e; omega), (hqq.below hbz).chg h2 (fun b q e => by have z1 := (htz.hT b q).1; have z2 := htz.tnew b e; omega), fun b e => by
              rcases h4 b (own_len.trans e) with q | q
              ·exact hn10 b q
              ·have z1 := zc.below.size; omega⟩, h2⟩)
           refine ⟨.inr (.inr ⟨rfl, rfl, 150, by kernel_rfl, rfl⟩), ?_⟩
           exact trivial
          ·intro za w231 ra234 rc235 zh zv zv2 hG232 hc233 zu
           have zh := zh.cons (d := 9) zv2
           have hB236 := chg_blk hB223 hc233 (fun h => by have z1 := hts2.tnew _ h; have z2 := hn10 _ h; omega)
           have hB237 := chg_blk hB224 hc233 (fun h => by have z1 := hts2.tnew _ h; have z2 := hn10 _ h; omega)
           have hB238 := chg_blk hB225 hc233 (fun h => by have z1 := hts2.tnew _ h; have z2 := hn10 _ h; omega)
           have hB239 := chg_blk hB226 hc233 (fun h => by have z1 := hts2.tnew _ h; have z2 := hn10 _ h; omega)
           have hB240 := chg_blk hB227 hc233 (fun h => by have z1 := hts2.tnew _ h; have z2 := hn10 _ h; omega)
           have ho241 := ho228.chg hc233 (fun h => by have z1 := hts2.tnew _ h; have z2 := hn10 _ h; omega)
           clear zu
           refine WE.go zh ?_
           refine WE.blockNormal (WE.next (WC.region (WL.mv rfl rfl rfl rfl rfl ?_)))
           refine WL.val (.int .i64 (((k : Int) - 1))) rfl rfl rfl (fun za zC zh zk => subb_3 rfl (zh.ev rfl) (zh.ev rfl) (wrap_eq (by omega) (by omega) (by omega)) zk) ?_
           refine WL.asg rfl rfl rfl rfl rfl (WL.nil ?_)
           refine WE.round ((ra234, rc235, y.2.2.1 ++ [(⟨ab, ao + k * 2, none⟩, ⟨bb, bo + k * 2, none⟩)], y.2.2.2.1 ++ [(tget l k, tget tt.args k)], k)) ⟨rfl, rfl, rfl, rfl, rfl, rfl, rfl, rfl, rfl, rfl, rfl, rfl, rfl, rfl, trivial⟩ ?_ ?_
           ·exact ⟨by (try dsimp only); omega, by dsimp only; rw [List.reverse_append, List.reverse_singleton, List.singleton_append, hrev, hk, zip_drop (k := k) (by omega) hsl.2]; rfl, hB236, hB237, hB238, hB239, hB240, ho241, hG232⟩
           ·(try dsimp only); omega
         ·have h230 : ¬ ((0 : Int) ≤ (((y.2.2.2.2 : Int) - 1) : Int)) := by simpa using h230
          refine WC.exit (WE.thenExit (WE.thenExit (WE.blockIs rfl (WE.blockNormal ?_))))
          refine WE.round ({ x with ta := y.1, tc := y.2.1, R := y.2.2.1, L := y.2.2.2.1 }) ⟨rfl, rfl, rfl, rfl, rfl, rfl, rfl, rfl, rfl, trivial⟩ ?_ ?_
          ·exact ⟨ans_sym hans hL h130 hsl (by have z := hrev; rwa [show y.2.2.2.2 = 0 by omega] at z), by have z := ssz_top hL; have z2 := ssz_sym (L := L) (Y := y.2.2.2.1) (by have z := hrev; rwa [show y.2.2.2.2 = 0 by omega] at z); (try dsimp only); omega, hB223, hB224, hB225, hB226, ho228, (ho229).1⟩
          ·have z := ssz_top hL; have z2 := ssz_sym (L := L) (Y := y.2.2.2.1) (by have z := hrev; rwa [show y.2.2.2.2 = 0 by omega] at z); (try dsimp only); omega
    ·have h102 : ¬ ((0 : Int) < (((x.L.length : Nat) : Int) : Int)) := by simpa using h102
     refine WC.exit (WE.thenExit (WE.thenExit (WE.blockIs rfl (WE.next (WC.seq (WC.region (WL.asg rfl rfl rfl rfl rfl (WL.nil (WE.next (WC.ret (WE.scopeRet (WE.ret1 rfl rfl ?_))))))))))))
     have hnil : x.L = [] := List.length_eq_zero_iff.1 (by omega)
     have hfin := fin_ok (p := p) (t := t) (st := st) (s := x.st) hpl1 hpl2 (by rw [hans, hnil]; rfl)
     refine ⟨_, rfl, ⟨(fun b => C b ∨ (w.heap.size ≤ b ∧ b < w92.heap.size)), congrArg Value.bool hfin.1.symm, ?_, fun b q => q.imp id (fun q => q.1)⟩, ho101.chg⟩
     rw [hfin.2]; exact ho101.mat hB99 ho100 hTs0
end Go.Proofs.Ytnmopmdpnpcdhaa

/- A call through an interface; literals under a matcher: plain. -/
namespace Go.Proofs.Ytnmopmdpnpcdhaa
open Go.RowKit Go
set_option linter.unusedVariables false
set_option linter.unusedSimpArgs false
/-- A call of a method whose receiver's type is known. -/
theorem wp_invk {P : Program} {w : World} {a : Act} {K : Act → World → Prop} {Q : Exit → Act → World → Prop} {o : Oper} {F : FuncId} {x : Operand} {name : String} {xs : Array Operand} {tys : Array TypeId} {vs : Array Value} {R : Value → World → Prop} {t : TypeId} {v : Value} (hF : callB P F = true)
    (hm : (method (P.types.size + Made.depth) t v name).run P w = .ok (F, v) w) (ho : o.op = .call { callee := .invoke x name, args := xs, argTypes := tys }) (hx : a.eval x = .iface t v) (hv : xs.map a.eval = vs)
    (h : Calls P F (#[v] ++ vs) w fun e w' => ∃ v, e = .returned v ∧ R v w') (hK : ∀ v w', R v w' → K (a.put o.dst v) w') : o.wp P a w K Q := by
  unfold callB at hF
  split at hF
  · rename_i fn hfn
    simp only [Bool.and_eq_true, Bool.not_eq_true'] at hF
    have hp : (Sem.run P program w) = .ok P w := rfl
    have e1 : (#[Value.iface t v] ++ vs)[0]? = some (.iface t v) := by rw [Array.getElem?_append_left (show 0 < 1 from Nat.zero_lt_one)]; rfl
    have e2 : (#[Value.iface t v] ++ vs).extract 1 (#[Value.iface t v] ++ vs).size = vs := by
      apply Array.ext'
      rw [Array.toList_extract]
      simp
      exact List.take_of_length_le (by simp)
    unfold Oper.wp execOp
    simp only [ho, resolve, hv, hx, invoke, callMethod, callFunc, Sem.run_bind, Sem.run_pure, Result.andThen_ok, hp, hfn, hF.1, hF.2, Bool.false_eq_true, if_false, e1, e2, hm]
    refine h.mono ?_
    rintro e w' ⟨v, rfl, hR⟩
    exact hK v w' hR
  · simp at hF
/-- A matcher that has gone on since 'w0': what it has changed and what its own is lies in 'C' or is new. -/
def Since (w0 : World) (C : Nat → Prop) : Nat → Prop := fun b => C b ∨ w0.heap.size ≤ b
def MatGo (w0 : World) (C : Nat → Prop) (g : Nat) (st : List Bd) (w : World) : Prop := (∃ C', MatAt w g st C' ∧ ∀ b, C' b → Since w0 C b) ∧ w0.heap.size ≤ w.heap.size
section
variable {w0 w w' : World} {g : Nat} {st st' : List Bd} {C S : Nat → Prop}
theorem MatGo.start (h : MatAt w g st C) : MatGo w C g st w := ⟨⟨C, h, fun _ => .inl⟩, Nat.le_refl _⟩
theorem MatGo.below (h : MatGo w0 C g st w) (hb : Below w.heap.size w w') : MatGo w0 C g st w' := by
  obtain ⟨⟨C', h, h1⟩, h2⟩ := h
  exact ⟨⟨C', h.below hb, h1⟩, Nat.le_trans h2 hb.size⟩
set_option linter.unusedVariables false in
theorem go_of {F : FuncId} {xs : Array Value} {r : Value} (h : MatGo w0 C g st w) (hany : ∀ C', MatAt w g st C' → (∀ b, C' b → Since w0 C b) → Calls Try.prog F xs w (Ret fun v' w' => (∃ C'', v' = r ∧ MatAt w' g st' C'' ∧ ∀ b, C'' b → C' b ∨ w.heap.size ≤ b) ∧ Chg C' w w')) :
    Calls Try.prog F xs w (Ret fun v' w' => (v' = r ∧ MatGo w0 C g st' w') ∧ Chg (Since w0 C) w w') := by
  obtain ⟨⟨C', h, h1⟩, h2⟩ := h
  refine (hany C' h h1).mono ?_
  rintro e w' ⟨v, rfl, ⟨C'', rfl, h3, h4⟩, h5⟩
  refine ⟨_, rfl, ⟨rfl, ⟨C'', h3, fun b q => ?_⟩, Nat.le_trans h2 h5.size⟩, h5.mono h1⟩
  rcases h4 b q with q | q
  · exact h1 b q
  · exact .inr (Nat.le_trans h2 q)
theorem term_go {A : Nat → Prop} (p t : T) {u v : Value} (h : MatGo w0 C g st w) (hp : InT A w p u) (ht : IsT w t v) (hA : ∀ b, A b → ¬ Since w0 C b) (hzp : p.size ≤ 4294967296) (hzt : t.size ≤ 4294967296) (hn : st.length + p.size ≤ 1099511627776) :
    Calls Try.prog 68 #[.pointer (some ⟨g, 0, none⟩), u, v] w (Ret fun v' w' => (v' = .bool (mOk p t st) ∧ MatGo w0 C g (mTo p t st) w') ∧ Chg (Since w0 C) w w') :=
  go_of h fun C' h' h1 => term_any p t w u v h' hp ht (fun b q q2 => hA b q (h1 b q2)) hzp hzt hn
theorem back_go (m : Int) (h : MatGo w0 C g st w) : Calls Try.prog 45 #[.pointer (some ⟨g, 0, none⟩), .int .i64 m] w (Ret fun _ w' => MatGo w0 C g (backTo st m) w' ∧ Chg (Since w0 C) w w') := by
  obtain ⟨⟨C', h, h1⟩, h2⟩ := h
  refine (back_any m w h).mono ?_
  rintro e w' ⟨v, rfl, h3, h4⟩
  exact ⟨_, rfl, ⟨⟨C', h3, h1⟩, Nat.le_trans h2 h4.size⟩, h4.mono h1⟩
theorem mark_go (h : MatGo w0 C g st w) : Calls Try.prog 44 #[.pointer (some ⟨g, 0, none⟩)] w (Ret fun v' w' => v' = .int .i64 (st.length : Nat) ∧ Below w.heap.size w w') := by
  obtain ⟨⟨C', h, _⟩, _⟩ := h
  exact mark_any w h
end
/-- Literals. -/
def Li.turn (x : Li) (b : Bool) : Li := if b = true then ⟨x.neg, x.r, x.l⟩ else x
def lOk (p l : Li) (b : Bool) (st : List Bd) : Bool := decide (p.neg = l.neg) && decide (p.atom = l.atom) && mOk p.l (l.turn b).l st && mOk p.r (l.turn b).r (mTo p.l (l.turn b).l st)
def lTo (p l : Li) (b : Bool) (st : List Bd) : List Bd := if lOk p l b st = true then mTo p.r (l.turn b).r (mTo p.l (l.turn b).l st) else st
theorem mTo_no {p t : T} {st : List Bd} (h : ¬ mOk p t st = true) : mTo p t st = st := by
  unfold mOk at h; unfold mTo
  split
  · rename_i q
    rw [q, Bool.true_and, Option.isSome_iff_ne_none, Classical.not_not] at h
    rw [h]; rfl
  · rfl
mutual
theorem T.mt_pre : ∀ (p : T) (st : List Bd) (t : T) (s : List Bd), p.mt st t = some s → ∃ q, s = st ++ q ∧ q.length ≤ p.size
  | .mk f l, st, t, s, h => by
    rw [T.mt] at h
    split at h
    · split at h
      · cases h; exact ⟨_, rfl, by rw [T.size]; simp⟩
      · split at h
        · cases h; exact ⟨[], by simp, Nat.zero_le _⟩
        · cases h
    · split at h
      · obtain ⟨q, e, hq⟩ := T.mtL_pre l st t.args s h
        exact ⟨q, e, by rw [T.size]; omega⟩
      · cases h
theorem T.mtL_pre : ∀ (l : List T) (st : List Bd) (ts : List T) (s : List Bd), T.mtL l st ts = some s → ∃ q, s = st ++ q ∧ q.length ≤ T.sizeL l
  | [], st, _, s, h => by rw [T.mtL] at h; cases h; exact ⟨[], by simp, Nat.zero_le _⟩
  | _ :: _, st, [], s, h => by rw [T.mtL] at h; cases h; exact ⟨[], by simp, Nat.zero_le _⟩
  | p :: ps, st, t :: ts, s, h => by
    rw [T.mtL] at h
    split at h
    · cases h
    · rename_i s1 h1
      obtain ⟨q1, rfl, k1⟩ := T.mt_pre p st t s1 h1
      obtain ⟨q2, e, k2⟩ := T.mtL_pre ps _ ts s h
      exact ⟨q1 ++ q2, by rw [e, List.append_assoc], by rw [T.sizeL, List.length_append]; omega⟩
end
theorem mTo_pre (p t : T) (st : List Bd) : ∃ q, mTo p t st = st ++ q ∧ q.length ≤ p.size := by
  unfold mTo
  split
  · cases h : p.mt st t with
    | none => exact ⟨[], by simp, Nat.zero_le _⟩
    | some s => exact T.mt_pre p st t s h
  · exact ⟨[], by simp, Nat.zero_le _⟩
theorem mTo_take (p t : T) (st : List Bd) : st.length ≤ (mTo p t st).length ∧ (mTo p t st).length ≤ st.length + p.size ∧ (mTo p t st).take st.length = st := by
  obtain ⟨q, e, h⟩ := mTo_pre p t st
  rw [e]; simp [h]
theorem lOk_no1 {p l : Li} {b : Bool} {st : List Bd} (h : ¬ (p.neg = l.neg ∧ p.atom = l.atom)) : lOk p l b st = false ∧ lTo p l b st = st := by
  have : lOk p l b st = false := by unfold lOk; rw [Bool.eq_false_iff]; intro e; simp at e; exact h ⟨e.1.1.1, e.1.1.2⟩
  exact ⟨this, by unfold lTo; rw [this]; rfl⟩
theorem lOk_no2 {p l : Li} {b : Bool} {st : List Bd} (h : ¬ mOk p.l (l.turn b).l st = true) : lOk p l b st = false ∧ lTo p l b st = st := by
  have : lOk p l b st = false := by unfold lOk; rw [Bool.eq_false_iff]; intro e; simp at e; exact h e.1.2
  exact ⟨this, by unfold lTo; rw [this]; rfl⟩
theorem lOk_no3 {p l : Li} {b : Bool} {st : List Bd} (h : ¬ mOk p.r (l.turn b).r (mTo p.l (l.turn b).l st) = true) : lOk p l b st = false ∧ lTo p l b st = st := by
  have : lOk p l b st = false := by unfold lOk; rw [Bool.eq_false_iff]; intro e; simp at e; exact h e.2
  exact ⟨this, by unfold lTo; rw [this]; rfl⟩
theorem lOk_yes {p l : Li} {b : Bool} {st : List Bd} (h : p.neg = l.neg ∧ p.atom = l.atom) (h1 : mOk p.l (l.turn b).l st = true) (h2 : mOk p.r (l.turn b).r (mTo p.l (l.turn b).l st) = true) : lOk p l b st = true ∧ lTo p l b st = mTo p.r (l.turn b).r (mTo p.l (l.turn b).l st) := by
  have : lOk p l b st = true := by unfold lOk; simp [h, h1, h2]
  exact ⟨this, by unfold lTo; rw [this]; rfl⟩
/-- What was done, by what was done since a later point. -/
theorem MatGo.done {w w1 w' : World} {g : Nat} {st : List Bd} {C : Nat → Prop} (h : MatGo w1 C g st w') (hb : w.heap.size ≤ w1.heap.size) : ∃ C', MatAt w' g st C' ∧ ∀ b, C' b → C b ∨ w.heap.size ≤ b := by
  obtain ⟨⟨C', h, h1⟩, _⟩ := h
  exact ⟨C', h, fun b q => (h1 b q).imp id (fun q => Nat.le_trans hb q)⟩
theorem chg_since {w w1 w' : World} {C : Nat → Prop} (hb : Below w.heap.size w w1) (hc : Chg (Since w1 C) w1 w') : Chg C w w' := (Chg.refl C w).trans2 (.ofBelow (S := fun _ => False) hb) (fun _ _ q => q.elim) |>.trans2 hc (fun b hl q => q.elim id (fun q => by have := hb.size; omega))
end Go.Proofs.Ytnmopmdpnpcdhaa

/- The matcher matches literals. -/
namespace Go.Proofs.Ytnmopmdpnpcdhaa
open Go.RowKit Go
set_option linter.unusedVariables false
set_option linter.unusedSimpArgs false
theorem inv_term (v : Value) (w : World) : (method (Try.prog.types.size + Made.depth) 78 v "Term").run Try.prog w = .ok (68, v) w := by kernel_rfl
theorem inv_mark (v : Value) (w : World) : (method (Try.prog.types.size + Made.depth) 78 v "Mark").run Try.prog w = .ok (44, v) w := by kernel_rfl
theorem inv_back (v : Value) (w : World) : (method (Try.prog.types.size + Made.depth) 78 v "Back").run Try.prog w = .ok (45, v) w := by kernel_rfl
set_option maxRecDepth 100000 in
theorem lit_any {g : Nat} {st : List Bd} {C A : Nat → Prop} (p l : Li) (tu : Bool) (w : World) (u v : Value) (h : MatAt w g st C) (hp : LiIn A w p u) (hl : LiIn A w l v) (hA : ∀ b, A b → ¬ C b) (hp1 : p.l.size ≤ 4294967296) (hp2 : p.r.size ≤ 4294967296) (hl1 : l.l.size ≤ 4294967296) (hl2 : l.r.size ≤ 4294967296) (hn : st.length + p.l.size + p.r.size ≤ 1099511627776) :
  Calls Try.prog 43 #[.iface 78 (.pointer (some ⟨g, 0, none⟩)), u, v, .bool tu] w (Ret fun v' w' => (∃ C', v' = .bool (lOk p l tu st) ∧ MatAt w' g (lTo p l tu st) C' ∧ ∀ b, C' b → C b ∨ w.heap.size ≤ b) ∧ Chg C w w') := by
 have hClt := h.clt
 obtain ⟨a1, a2, c1, c2, rfl⟩ := hp.parts
 obtain ⟨hpl, hpr⟩ := hp.two
 obtain ⟨a3, a4, c3, c4, rfl⟩ := hl.parts
 obtain ⟨hll, hlr⟩ := hl.two
 refine Calls.walk (l := [.iface 78 (.pointer (some ⟨g, 0, none⟩)), .agg #[.bool p.neg, .int .i64 p.l.f, .slice a1 p.l.args.length c1, .int .i64 p.r.f, .slice a2 p.r.args.length c2], .agg #[.bool l.neg, .int .i64 l.l.f, .slice a3 l.l.args.length c3, .int .i64 l.r.f, .slice a4 l.r.args.length c4], .bool tu]) Try.func43 rfl (by kernel_rfl) ?_
 refine WC.sub (K' := [(0, .iface 78 (.pointer (some ⟨g, 0, none⟩))), (1, .agg #[.bool p.neg, .int .i64 p.l.f, .slice a1 p.l.args.length c1, .int .i64 p.r.f, .slice a2 p.r.args.length c2]), (2, .agg #[.bool l.neg, .int .i64 l.l.f, .slice a3 l.l.args.length c3, .int .i64 l.r.f, .slice a4 l.r.args.length c4]), (3, .bool tu)]) ⟨rfl, rfl, rfl, rfl, trivial⟩ ?_
 refine WC.seq (WC.region ?_)
 refine WL.step (post := NewBlk w 60 #[.bool p.neg, .int .i64 p.l.f, .slice a1 p.l.args.length c1, .int .i64 p.r.f, .slice a2 p.r.args.length c2]) rfl rfl rfl (fun za zC zh zk => box_60 rfl (zh.ev rfl) (zk _ _ (newBlk _ _ _))) ?_
 rintro _ w1 ⟨g2, rfl, hg3, hB4, hb5, hz6⟩
 have hl7 : w.heap.size ≤ g2 := by omega
 refine WL.step (post := NewBlk w1 60 #[.bool l.neg, .int .i64 l.l.f, .slice a3 l.l.args.length c3, .int .i64 l.r.f, .slice a4 l.r.args.length c4]) rfl rfl rfl (fun za zC zh zk => box_60 rfl (zh.ev rfl) (zk _ _ (newBlk _ _ _))) ?_
 rintro _ w8 ⟨g9, rfl, hg10, hB11, hb12, hz13⟩
 have hl14 : g2 < g9 := by have z1 := hB4.lt; omega
 have hl15 : w.heap.size ≤ g9 := by have z2 := (hb5).size; omega
 refine WL.asg rfl rfl rfl rfl rfl (WL.nil (WE.next (WC.seq (WC.seq ?_))))
 have hB16 := hB4.below hb12
 refine WC.opt [(true, .val (.pointer (some ⟨g2, 0, none⟩))), (true, .val (.bool p.neg)), (true, .val (.pointer (some ⟨g9, 0, none⟩))), (true, .val (.bool l.neg)), (true, .val (.bool ((p.neg != l.neg)))), (true, .val (.bool ((p.neg != l.neg)))), ((true && !(p.neg != l.neg)), .val (.bool p.atom)), ((true && !(p.neg != l.neg)), .val (.bool l.atom)), ((true && !(p.neg != l.neg)), .val (.bool ((p.atom != l.atom)))), (true, .val (.bool (((p.neg != l.neg) || (p.atom != l.atom)))))] [(0, .iface 78 (.pointer (some ⟨g, 0, none⟩))), (1, .agg #[.bool p.neg, .int .i64 p.l.f, .slice a1 p.l.args.length c1, .int .i64 p.r.f, .slice a2 p.r.args.length c2]), (2, .agg #[.bool l.neg, .int .i64 l.l.f, .slice a3 l.l.args.length c3, .int .i64 l.r.f, .slice a4 l.r.args.length c4]), (3, .bool tu), (5, .pointer (some ⟨g2, 0, none⟩)), (6, .pointer (some ⟨g9, 0, none⟩)), (8, .bool false)] ⟨rfl, rfl, rfl, rfl, rfl, rfl, rfl, trivial⟩ (by kernel_rfl) (by kernel_rfl) (by kernel_rfl) ?_ ?_
 ·refine ⟨⟨true, .none rfl, fun h w => optUndef h, fun zβ za zw zc => ?_⟩, ?_⟩
  ·exact fld_60_0 rfl (zc.kn.ev rfl) ⟨_, rfl, Below.refl _ _, optDef zβ rfl⟩
  refine ⟨⟨true, .none rfl, fun h w => optUndef h, fun zβ za zw zc => ?_⟩, ?_⟩
  ·exact ld_4 rfl ((evt za 10).trans (optVal (zc.dep 0 10 (by kernel_rfl)) rfl rfl)) (bkeeps zc.below _ _ ((hB16.cell 0).trans rfl)) ⟨_, rfl, Below.refl _ _, optDef zβ rfl⟩
  refine ⟨⟨true, .none rfl, fun h w => optUndef h, fun zβ za zw zc => ?_⟩, ?_⟩
  ·exact fld_60_0 rfl (zc.kn.ev rfl) ⟨_, rfl, Below.refl _ _, optDef zβ rfl⟩
  refine ⟨⟨true, .none rfl, fun h w => optUndef h, fun zβ za zw zc => ?_⟩, ?_⟩
  ·exact ld_4 rfl ((evt za 12).trans (optVal (zc.dep 2 12 (by kernel_rfl)) rfl rfl)) (bkeeps zc.below _ _ ((hB11.cell 0).trans rfl)) ⟨_, rfl, Below.refl _ _, optDef zβ rfl⟩
  refine ⟨⟨true, .none rfl, fun h w => optUndef h, fun zβ za zw zc => ?_⟩, ?_⟩
  ·exact neq_4 rfl ((evt za 11).trans (optVal (zc.dep 1 11 (by kernel_rfl)) rfl rfl)) ((evt za 13).trans (optVal (zc.dep 3 13 (by kernel_rfl)) rfl rfl)) ⟨_, rfl, Below.refl _ _, optDef zβ rfl⟩
  refine ⟨⟨true, .none rfl, fun h w => optUndef h, fun zβ za zw zc => ?_⟩, ?_⟩
  ·exact wp_move rfl ((evt za 14).trans (optVal (zc.dep 4 14 (by kernel_rfl)) rfl rfl)) ⟨_, rfl, Below.refl _ _, optDef zβ rfl⟩
  refine ⟨⟨_, .no (c := (p.neg != l.neg)) (d := true) rfl (fun v w h => h), fun h w => optUndef h, fun zβ za zw zc => ?_⟩, ?_⟩
  ·exact wp_call (by kernel_rfl) rfl (hv1 (zc.kn.ev rfl)) (atom_any p _ g2 a1 a2 c1 c2 (hB16.below zc.below)) (fun v w' h => ⟨v, rfl, h.2, optDef zβ h.1⟩)
  refine ⟨⟨_, .no (c := (p.neg != l.neg)) (d := true) rfl (fun v w h => h), fun h w => optUndef h, fun zβ za zw zc => ?_⟩, ?_⟩
  ·exact wp_call (by kernel_rfl) rfl (hv1 (zc.kn.ev rfl)) (atom_any l _ g9 a3 a4 c3 c4 (hB11.below zc.below)) (fun v w' h => ⟨v, rfl, h.2, optDef zβ h.1⟩)
  refine ⟨⟨_, .no (c := (p.neg != l.neg)) (d := true) rfl (fun v w h => h), fun h w => optUndef h, fun zβ za zw zc => ?_⟩, ?_⟩
  ·exact neq_4 rfl ((evt za 16).trans (optVal (zc.dep 6 16 (by kernel_rfl)) rfl zβ)) ((evt za 17).trans (optVal (zc.dep 7 17 (by kernel_rfl)) rfl zβ)) ⟨_, rfl, Below.refl _ _, optDef zβ rfl⟩
  refine ⟨⟨true, .none rfl, fun h w => optUndef h, fun zβ za zw zc => ?_⟩, ?_⟩
  ·exact wp_or rfl ((evt za 15).trans (optVal (zc.dep 5 15 (by kernel_rfl)) rfl rfl)) (fun hp => ((evt za 18).trans (optVal (zc.dep 8 18 (by kernel_rfl)) rfl (bMkN zβ hp)))) ⟨_, rfl, Below.refl _ _, optDef zβ rfl⟩
  exact trivial
 ·intro za w19 zh hb20 zu
  have zh := zh.cons (d := 19) (v := .bool (((p.neg != l.neg) || (p.atom != l.atom)))) (optVal (zu 9 19 (by kernel_rfl)) rfl rfl)
  clear zu
  refine WE.go zh ?_
  refine WE.next ?_
  refine WC.cond rfl (fun h21 => ?_) (fun h21 => ?_)
  ·have h21 : (p.neg ≠ l.neg) ∨ (p.atom ≠ l.atom) := by simpa using h21
   refine WC.seq (WC.region (WL.asg rfl rfl rfl rfl rfl (WL.nil (WE.next (WC.ret (WE.thenRet (WE.ret1 rfl rfl ?_)))))))
   have hb23 : Below w.heap.size w w19 := (bstep (bstep hb5 hb12) hb20)
   have ho22 := h.below hb23
   have hfin := lOk_no1 (p := p) (l := l) (b := tu) (st := st) (fun q => by simp [q.1, q.2] at h21)
   exact ⟨_, rfl, ⟨C, congrArg Value.bool hfin.1.symm, by rw [hfin.2]; exact ho22, fun b q => .inl q⟩, .ofBelow hb23⟩
  ·have h21 : ¬ ((p.neg ≠ l.neg) ∨ (p.atom ≠ l.atom)) := by simpa using h21
   refine WC.skip (WE.next (WC.seq (WC.seq (WC.region (WL.mv rfl rfl rfl rfl rfl (WL.nil (WE.next ?_)))))))
   refine WC.cond rfl (fun h24 => ?_) (fun h24 => ?_)
   ·skip
    refine WC.region ?_
    refine WL.val _ rfl rfl rfl (fun za zC zh zk => fld_60_2 rfl (zh.ev rfl) zk) ?_
    have hB25 := hB11.below hb20
    refine WL.val _ rfl rfl rfl (fun za zC zh zk => ld_58 rfl (zh.ev rfl) ((hB25.cell 3).trans rfl) ((hB25.cell 4).trans rfl) zk) ?_
    refine WL.val _ rfl rfl rfl (fun za zC zh zk => fld_60_1 rfl (zh.ev rfl) zk) ?_
    refine WL.val _ rfl rfl rfl (fun za zC zh zk => ld_58 rfl (zh.ev rfl) ((hB25.cell 1).trans rfl) ((hB25.cell 2).trans rfl) zk) ?_
    refine WL.val _ rfl rfl rfl (fun za zC zh zk => fld_60_1 rfl (zh.ev rfl) zk) ?_
    refine WL.step (post := fun _ w' => Upd g9 w19 w' ∧ Blk w' g9 60 #[.bool l.neg, .int .i64 l.r.f, .slice a4 l.r.args.length c4, .int .i64 l.r.f, .slice a4 l.r.args.length c4]) rfl rfl rfl (fun za zC zh zk => st_58 rfl (zh.ev rfl) (zh.ev rfl) rfl rfl hB25 (by first | decide | simp) (fun v => zk v _ ⟨(Upd.at_ _ _ _ _).trans (Upd.at_ _ _ _ _), (hB25.set_ 1 _).set_ 2 _⟩)) ?_
    rintro v29 w26 ⟨hu27, hB28⟩
    have hb30 : Below w.heap.size w w19 := (bstep (bstep hb5 hb12) hb20)
    have hb31 := upd_below hb30 hu27 (by omega)
    have hB32 := hB16.below hb20
    have hB33 := upd_blk hB32 hu27 (by omega)
    refine WL.val _ rfl rfl rfl (fun za zC zh zk => fld_60_2 rfl (zh.ev rfl) zk) ?_
    refine WL.step (post := fun _ w' => Upd g9 w26 w' ∧ Blk w' g9 60 #[.bool l.neg, .int .i64 l.r.f, .slice a4 l.r.args.length c4, .int .i64 l.l.f, .slice a3 l.l.args.length c3]) rfl rfl rfl (fun za zC zh zk => st_58 rfl (zh.ev rfl) (zh.ev rfl) rfl rfl hB28 (by first | decide | simp) (fun v => zk v _ ⟨(Upd.at_ _ _ _ _).trans (Upd.at_ _ _ _ _), (hB28.set_ 3 _).set_ 4 _⟩)) ?_
    rintro v37 w34 ⟨hu35, hB36⟩
    have hb38 := upd_below hb31 hu35 (by omega)
    have hB39 := upd_blk hB33 hu35 (by omega)
    refine WL.nil (WE.next (WC.seq (WC.region (WL.mv rfl rfl rfl rfl rfl ?_))))
    have hl40 : g2 < w34.heap.size := hB39.lt
    have hl41 : w.heap.size ≤ g2 := by have z : w.heap.size ≤ w.heap.size := (Nat.le_refl _); omega
    have hl42 : g9 < w34.heap.size := hB36.lt
    have hl43 : w.heap.size ≤ g9 := by have z : w.heap.size ≤ w1.heap.size := hb5.size; omega
    have ho45 := h.below hb38
    have hgo44 : MatGo w34 C g st w34 := MatGo.start ho45
    have hA1 : ∀ b, (A b ∧ b < w.heap.size) → ¬ Since w34 C b := fun b q q2 => q2.elim (hA b q.1) (fun q2 => by have z := hb38.size; omega)
    have hpl1 := InT.mono (S' := fun b => A b ∧ b < w.heap.size) (fun b q z => ⟨q, z⟩) hpl
    have hpr1 := InT.mono (S' := fun b => A b ∧ b < w.heap.size) (fun b q z => ⟨q, z⟩) hpr
    have hll1 := InT.mono (S' := fun b => A b ∧ b < w.heap.size) (fun b q z => ⟨q, z⟩) hll
    have hlr1 := InT.mono (S' := fun b => A b ∧ b < w.heap.size) (fun b q z => ⟨q, z⟩) hlr
    refine WL.step (post := fun v w' => v = .int .i64 (st.length : Nat) ∧ Below w34.heap.size w34 w') rfl rfl rfl (fun za zC zh zk => wp_invk (by kernel_rfl) (inv_mark _ _) rfl (zh.ev rfl) (hv0) (mark_go hgo44) (fun v w' h => zk v w' h)) ?_
    rintro _ w46 ⟨rfl, hb47⟩
    refine WL.asg rfl rfl rfl rfl rfl (WL.nil (WE.next (WC.seq (WC.seq (WC.region (WL.mv rfl rfl rfl rfl rfl ?_))))))
    refine WL.val _ rfl rfl rfl (fun za zC zh zk => fld_60_1 rfl (zh.ev rfl) zk) ?_
    have hB48 := hB39.below hb47
    refine WL.val _ rfl rfl rfl (fun za zC zh zk => ld_58 rfl (zh.ev rfl) ((hB48.cell 1).trans rfl) ((hB48.cell 2).trans rfl) zk) ?_
    refine WL.val _ rfl rfl rfl (fun za zC zh zk => fld_60_1 rfl (zh.ev rfl) zk) ?_
    have hB49 := hB36.below hb47
    refine WL.val _ rfl rfl rfl (fun za zC zh zk => ld_58 rfl (zh.ev rfl) ((hB49.cell 1).trans rfl) ((hB49.cell 2).trans rfl) zk) ?_
    have ho50 := hgo44.below hb47
    have hs51 : Chg ((Since w34 C)) w34 w46 := (Chg.trans2 (Chg.refl ((Since w34 C)) _) (Chg.ofBelow (S := fun k => k < 0) hb47) (fun i h1 h2 => by first | exact h2 | exact .inl ⟨h2, h1⟩ | exact .inl h2 | exact .inr h2 | exact .inr (.inl h2) | exact .inr (.inr h2) | ((try dsimp only at *); omega)))
    refine WL.step (post := fun v w' => (v = .bool (mOk p.l l.r st) ∧ MatGo w34 C g (mTo p.l l.r st) w') ∧ Chg (Since w34 C) w46 w') rfl rfl rfl (fun za zC zh zk => wp_invk (by kernel_rfl) (inv_term _ _) rfl (zh.ev rfl) (hv2 (zh.ev rfl) (zh.ev rfl)) (term_go p.l l.r ho50 ((hpl1.below hb38).chg hs51 hA1) (InT.isT ((hlr1.below hb38).chg hs51 hA1)) hA1 hp1 hl2 (by have z := mTo_take p.l l.r st; omega)) (fun v w' h => zk v w' h)) ?_
    rintro _ w52 ⟨⟨rfl, hgo53⟩, hc54⟩
    have hB55 := chg_blk hB48 hc54 (fun h => h.elim (fun h => by have z := hClt _ h; (try dsimp only at *); omega) (fun h => by (try dsimp only at *); omega))
    have hB56 := chg_blk hB49 hc54 (fun h => h.elim (fun h => by have z := hClt _ h; (try dsimp only at *); omega) (fun h => by (try dsimp only at *); omega))
    refine WL.mv rfl rfl rfl rfl rfl ?_
    refine bool_split ((mOk p.l l.r st)) (fun h57 => ?_) (fun h57 => ?_)
    ·refine WL.setb (d := 35) (b := true) rfl h57 ?_
     refine WL.want (d := 35) rfl rfl rfl ?_
     refine WL.mv rfl rfl rfl rfl rfl ?_
     refine WL.want (d := 35) rfl rfl rfl ?_
     refine WL.val _ rfl rfl rfl (fun za zC zh zk => fld_60_2 rfl (zh.ev rfl) zk) ?_
     refine WL.want (d := 35) rfl rfl rfl ?_
     refine WL.val _ rfl rfl rfl (fun za zC zh zk => ld_58 rfl (zh.ev rfl) ((hB55.cell 3).trans rfl) ((hB55.cell 4).trans rfl) zk) ?_
     refine WL.want (d := 35) rfl rfl rfl ?_
     refine WL.val _ rfl rfl rfl (fun za zC zh zk => fld_60_2 rfl (zh.ev rfl) zk) ?_
     refine WL.want (d := 35) rfl rfl rfl ?_
     refine WL.val _ rfl rfl rfl (fun za zC zh zk => ld_58 rfl (zh.ev rfl) ((hB56.cell 3).trans rfl) ((hB56.cell 4).trans rfl) zk) ?_
     refine WL.want (d := 35) rfl rfl rfl ?_
     have hs58 : Chg ((Since w34 C)) w34 w52 := (Chg.trans2 (Chg.trans2 (Chg.refl ((Since w34 C)) _) (Chg.ofBelow (S := fun k => k < 0) hb47) (fun i h1 h2 => by first | exact h2 | exact .inl ⟨h2, h1⟩ | exact .inl h2 | exact .inr h2 | exact .inr (.inl h2) | exact .inr (.inr h2) | ((try dsimp only at *); omega))) hc54 (fun i h1 h2 => by first | exact h2 | exact .inl ⟨h2, h1⟩ | exact .inl h2 | exact .inr h2 | exact .inr (.inl h2) | exact .inr (.inr h2) | ((try dsimp only at *); omega)))
     refine WL.step (post := fun v w' => (v = .bool (mOk p.r l.l (mTo p.l l.r st)) ∧ MatGo w34 C g (mTo p.r l.l (mTo p.l l.r st)) w') ∧ Chg (Since w34 C) w52 w') rfl rfl rfl (fun za zC zh zk => wp_invk (by kernel_rfl) (inv_term _ _) rfl (zh.ev rfl) (hv2 (zh.ev rfl) (zh.ev rfl)) (term_go p.r l.l hgo53 ((hpr1.below hb38).chg hs58 hA1) (InT.isT ((hll1.below hb38).chg hs58 hA1)) hA1 hp2 hl1 (by have z := mTo_take p.l l.r st; omega)) (fun v w' h => zk v w' h)) ?_
     rintro _ w59 ⟨⟨rfl, hgo60⟩, hc61⟩
     have hB62 := chg_blk hB55 hc61 (fun h => h.elim (fun h => by have z := hClt _ h; (try dsimp only at *); omega) (fun h => by (try dsimp only at *); omega))
     have hB63 := chg_blk hB56 hc61 (fun h => h.elim (fun h => by have z := hClt _ h; (try dsimp only at *); omega) (fun h => by (try dsimp only at *); omega))
     refine WL.val (.bool ((mOk p.r l.l (mTo p.l l.r st)))) rfl rfl rfl (fun za zC zh zk => wp_pickT rfl (zh.ev rfl) (zh.ev rfl) zk) ?_
     refine WL.nil (WE.sub (K' := [(0, .iface 78 (.pointer (some ⟨g, 0, none⟩))), (1, .agg #[.bool p.neg, .int .i64 p.l.f, .slice a1 p.l.args.length c1, .int .i64 p.r.f, .slice a2 p.r.args.length c2]), (2, .agg #[.bool l.neg, .int .i64 l.l.f, .slice a3 l.l.args.length c3, .int .i64 l.r.f, .slice a4 l.r.args.length c4]), (3, .bool tu), (5, .pointer (some ⟨g2, 0, none⟩)), (6, .pointer (some ⟨g9, 0, none⟩)), (8, .bool false), (9, .int .i64 (((st.length : Nat) : Int))), (19, .bool (((p.neg != l.neg) || (p.atom != l.atom)))), (20, .bool tu), (42, .bool ((mOk p.r l.l (mTo p.l l.r st))))]) ⟨rfl, rfl, rfl, rfl, rfl, rfl, rfl, rfl, rfl, rfl, rfl, trivial⟩ ?_)
     refine WE.next ?_
     refine WC.cond rfl (fun h64 => ?_) (fun h64 => ?_)
     ·skip
      refine WC.seq (WC.region (WL.asg rfl rfl rfl rfl rfl (WL.nil (WE.next (WC.ret (WE.thenRet (WE.ret1 rfl rfl ?_)))))))
      have hs65 : Chg ((Since w34 C)) w34 w59 := (Chg.trans2 (Chg.trans2 (Chg.trans2 (Chg.refl ((Since w34 C)) _) (Chg.ofBelow (S := fun k => k < 0) hb47) (fun i h1 h2 => by first | exact h2 | exact .inl ⟨h2, h1⟩ | exact .inl h2 | exact .inr h2 | exact .inr (.inl h2) | exact .inr (.inr h2) | ((try dsimp only at *); omega))) hc54 (fun i h1 h2 => by first | exact h2 | exact .inl ⟨h2, h1⟩ | exact .inl h2 | exact .inr h2 | exact .inr (.inl h2) | exact .inr (.inr h2) | ((try dsimp only at *); omega))) hc61 (fun i h1 h2 => by first | exact h2 | exact .inl ⟨h2, h1⟩ | exact .inl h2 | exact .inr h2 | exact .inr (.inl h2) | exact .inr (.inr h2) | ((try dsimp only at *); omega)))
      have htu9 : tu = true := by simpa using h24
      have hsm : p.neg = l.neg ∧ p.atom = l.atom := by have z := h21; simp at z; exact z
      have hfin := lOk_yes (p := p) (l := l) (b := tu) (st := st) hsm (by rw [htu9]; exact h57) (by rw [htu9]; exact h64)
      rw [htu9] at hfin
      subst htu9
      exact ⟨_, rfl, by rw [hfin.1, hfin.2]; obtain ⟨C9, z1, z2⟩ := MatGo.done hgo60 hb38.size; exact ⟨C9, rfl, z1, z2⟩, chg_since hb38 hs65⟩
     ·skip
      refine WC.skip (WE.next (WC.seq (WC.region (WL.mv rfl rfl rfl rfl rfl (WL.mv rfl rfl rfl rfl rfl ?_)))))
      refine WL.step (post := fun v w' => MatGo w34 C g (backTo (mTo p.r l.l (mTo p.l l.r st)) (st.length : Nat)) w' ∧ Chg (Since w34 C) w59 w') rfl rfl rfl (fun za zC zh zk => wp_invk (by kernel_rfl) (inv_back _ _) rfl (zh.ev rfl) (hv1 (zh.ev rfl)) (back_go (st.length : Nat) hgo60) (fun v w' h => zk v w' h)) ?_
      rintro _ w66 ⟨hgo67, hc68⟩
      have hB69 := chg_blk hB62 hc68 (fun h => h.elim (fun h => by have z := hClt _ h; (try dsimp only at *); omega) (fun h => by (try dsimp only at *); omega))
      have hB70 := chg_blk hB63 hc68 (fun h => h.elim (fun h => by have z := hClt _ h; (try dsimp only at *); omega) (fun h => by (try dsimp only at *); omega))
      refine WL.nil (WE.next (WC.seq (WC.region (WL.asg rfl rfl rfl rfl rfl (WL.nil (WE.next (WC.ret (WE.ret1 rfl rfl ?_))))))))
      have hs71 : Chg ((Since w34 C)) w34 w66 := (Chg.trans2 (Chg.trans2 (Chg.trans2 (Chg.trans2 (Chg.refl ((Since w34 C)) _) (Chg.ofBelow (S := fun k => k < 0) hb47) (fun i h1 h2 => by first | exact h2 | exact .inl ⟨h2, h1⟩ | exact .inl h2 | exact .inr h2 | exact .inr (.inl h2) | exact .inr (.inr h2) | ((try dsimp only at *); omega))) hc54 (fun i h1 h2 => by first | exact h2 | exact .inl ⟨h2, h1⟩ | exact .inl h2 | exact .inr h2 | exact .inr (.inl h2) | exact .inr (.inr h2) | ((try dsimp only at *); omega))) hc61 (fun i h1 h2 => by first | exact h2 | exact .inl ⟨h2, h1⟩ | exact .inl h2 | exact .inr h2 | exact .inr (.inl h2) | exact .inr (.inr h2) | ((try dsimp only at *); omega))) hc68 (fun i h1 h2 => by first | exact h2 | exact .inl ⟨h2, h1⟩ | exact .inl h2 | exact .inr h2 | exact .inr (.inl h2) | exact .inr (.inr h2) | ((try dsimp only at *); omega)))
      have htu9 : tu = true := by simpa using h24
      have hsm : p.neg = l.neg ∧ p.atom = l.atom := by have z := h21; simp at z; exact z
      have hfin := lOk_no3 (p := p) (l := l) (b := tu) (st := st) (by rw [htu9]; exact Bool.eq_false_iff.1 h64)
      have hb9 : backTo (mTo p.r l.l (mTo p.l l.r st)) (st.length : Nat) = st := by rw [mTo_no (Bool.eq_false_iff.1 h64)]; have z1 := mTo_take p.l l.r st; rw [backTo_nat (by omega), z1.2.2]
      rw [hb9] at hgo67
      exact ⟨_, rfl, by rw [hfin.1, hfin.2]; obtain ⟨C9, z1, z2⟩ := MatGo.done hgo67 hb38.size; exact ⟨C9, rfl, z1, z2⟩, chg_since hb38 hs71⟩
    ·refine WL.setb (d := 35) (b := false) rfl h57 ?_
     refine WL.skip (d := 35) rfl rfl rfl rfl rfl ?_
     refine WL.skip (d := 35) rfl rfl rfl rfl rfl ?_
     refine WL.skip (d := 35) rfl rfl rfl rfl rfl ?_
     refine WL.skip (d := 35) rfl rfl rfl rfl rfl ?_
     refine WL.skip (d := 35) rfl rfl rfl rfl rfl ?_
     refine WL.skip (d := 35) rfl rfl rfl rfl rfl ?_
     refine WL.val (.bool false) rfl rfl rfl (fun za zC zh zk => wp_pickF rfl (zh.ev rfl) (zh.ev rfl) zk) ?_
     refine WL.nil (WE.sub (K' := [(0, .iface 78 (.pointer (some ⟨g, 0, none⟩))), (1, .agg #[.bool p.neg, .int .i64 p.l.f, .slice a1 p.l.args.length c1, .int .i64 p.r.f, .slice a2 p.r.args.length c2]), (2, .agg #[.bool l.neg, .int .i64 l.l.f, .slice a3 l.l.args.length c3, .int .i64 l.r.f, .slice a4 l.r.args.length c4]), (3, .bool tu), (5, .pointer (some ⟨g2, 0, none⟩)), (6, .pointer (some ⟨g9, 0, none⟩)), (8, .bool false), (9, .int .i64 (((st.length : Nat) : Int))), (19, .bool (((p.neg != l.neg) || (p.atom != l.atom)))), (20, .bool tu), (42, .bool false)]) ⟨rfl, rfl, rfl, rfl, rfl, rfl, rfl, rfl, rfl, rfl, rfl, trivial⟩ ?_)
     refine WE.next ?_
     refine WC.condF rfl rfl ?_
     refine WC.skip (WE.next (WC.seq (WC.region (WL.mv rfl rfl rfl rfl rfl (WL.mv rfl rfl rfl rfl rfl ?_)))))
     refine WL.step (post := fun v w' => MatGo w34 C g (backTo (mTo p.l l.r st) (st.length : Nat)) w' ∧ Chg (Since w34 C) w52 w') rfl rfl rfl (fun za zC zh zk => wp_invk (by kernel_rfl) (inv_back _ _) rfl (zh.ev rfl) (hv1 (zh.ev rfl)) (back_go (st.length : Nat) hgo53) (fun v w' h => zk v w' h)) ?_
     rintro _ w72 ⟨hgo73, hc74⟩
     have hB75 := chg_blk hB55 hc74 (fun h => h.elim (fun h => by have z := hClt _ h; (try dsimp only at *); omega) (fun h => by (try dsimp only at *); omega))
     have hB76 := chg_blk hB56 hc74 (fun h => h.elim (fun h => by have z := hClt _ h; (try dsimp only at *); omega) (fun h => by (try dsimp only at *); omega))
     refine WL.nil (WE.next (WC.seq (WC.region (WL.asg rfl rfl rfl rfl rfl (WL.nil (WE.next (WC.ret (WE.ret1 rfl rfl ?_))))))))
     have hs77 : Chg ((Since w34 C)) w34 w72 := (Chg.trans2 (Chg.trans2 (Chg.trans2 (Chg.refl ((Since w34 C)) _) (Chg.ofBelow (S := fun k => k < 0) hb47) (fun i h1 h2 => by first | exact h2 | exact .inl ⟨h2, h1⟩ | exact .inl h2 | exact .inr h2 | exact .inr (.inl h2) | exact .inr (.inr h2) | ((try dsimp only at *); omega))) hc54 (fun i h1 h2 => by first | exact h2 | exact .inl ⟨h2, h1⟩ | exact .inl h2 | exact .inr h2 | exact .inr (.inl h2) | exact .inr (.inr h2) | ((try dsimp only at *); omega))) hc74 (fun i h1 h2 => by first | exact h2 | exact .inl ⟨h2, h1⟩ | exact .inl h2 | exact .inr h2 | exact .inr (.inl h2) | exact .inr (.inr h2) | ((try dsimp only at *); omega)))
     have htu9 : tu = true := by simpa using h24
     have hsm : p.neg = l.neg ∧ p.atom = l.atom := by have z := h21; simp at z; exact z
     have hfin := lOk_no2 (p := p) (l := l) (b := tu) (st := st) (by rw [htu9]; exact Bool.eq_false_iff.1 h57)
     have hb9 : backTo (mTo p.l l.r st) (st.length : Nat) = st := by have z1 := mTo_take p.l l.r st; rw [backTo_nat (by omega), z1.2.2]
     rw [hb9] at hgo73
     exact ⟨_, rfl, by rw [hfin.1, hfin.2]; obtain ⟨C9, z1, z2⟩ := MatGo.done hgo73 hb38.size; exact ⟨C9, rfl, z1, z2⟩, chg_since hb38 hs77⟩
   ·skip
    refine WC.skip (WE.next (WC.seq (WC.region (WL.mv rfl rfl rfl rfl rfl ?_))))
    have hB78 := hB16.below hb20
    have hl79 : g2 < w19.heap.size := hB78.lt
    have hl80 : w.heap.size ≤ g2 := by have z : w.heap.size ≤ w.heap.size := (Nat.le_refl _); omega
    have hB81 := hB11.below hb20
    have hl82 : g9 < w19.heap.size := hB81.lt
    have hl83 : w.heap.size ≤ g9 := by have z : w.heap.size ≤ w1.heap.size := hb5.size; omega
    have hb86 : Below w.heap.size w w19 := (bstep (bstep hb5 hb12) hb20)
    have ho85 := h.below hb86
    have hgo84 : MatGo w19 C g st w19 := MatGo.start ho85
    have hA1 : ∀ b, (A b ∧ b < w.heap.size) → ¬ Since w19 C b := fun b q q2 => q2.elim (hA b q.1) (fun q2 => by have z := hb86.size; omega)
    have hpl1 := InT.mono (S' := fun b => A b ∧ b < w.heap.size) (fun b q z => ⟨q, z⟩) hpl
    have hpr1 := InT.mono (S' := fun b => A b ∧ b < w.heap.size) (fun b q z => ⟨q, z⟩) hpr
    have hll1 := InT.mono (S' := fun b => A b ∧ b < w.heap.size) (fun b q z => ⟨q, z⟩) hll
    have hlr1 := InT.mono (S' := fun b => A b ∧ b < w.heap.size) (fun b q z => ⟨q, z⟩) hlr
    refine WL.step (post := fun v w' => v = .int .i64 (st.length : Nat) ∧ Below w19.heap.size w19 w') rfl rfl rfl (fun za zC zh zk => wp_invk (by kernel_rfl) (inv_mark _ _) rfl (zh.ev rfl) (hv0) (mark_go hgo84) (fun v w' h => zk v w' h)) ?_
    rintro _ w87 ⟨rfl, hb88⟩
    refine WL.asg rfl rfl rfl rfl rfl (WL.nil (WE.next (WC.seq (WC.seq (WC.region (WL.mv rfl rfl rfl rfl rfl ?_))))))
    refine WL.val _ rfl rfl rfl (fun za zC zh zk => fld_60_1 rfl (zh.ev rfl) zk) ?_
    have hB89 := hB78.below hb88
    refine WL.val _ rfl rfl rfl (fun za zC zh zk => ld_58 rfl (zh.ev rfl) ((hB89.cell 1).trans rfl) ((hB89.cell 2).trans rfl) zk) ?_
    refine WL.val _ rfl rfl rfl (fun za zC zh zk => fld_60_1 rfl (zh.ev rfl) zk) ?_
    have hB90 := hB81.below hb88
    refine WL.val _ rfl rfl rfl (fun za zC zh zk => ld_58 rfl (zh.ev rfl) ((hB90.cell 1).trans rfl) ((hB90.cell 2).trans rfl) zk) ?_
    have ho91 := hgo84.below hb88
    have hs92 : Chg ((Since w19 C)) w19 w87 := (Chg.trans2 (Chg.refl ((Since w19 C)) _) (Chg.ofBelow (S := fun k => k < 0) hb88) (fun i h1 h2 => by first | exact h2 | exact .inl ⟨h2, h1⟩ | exact .inl h2 | exact .inr h2 | exact .inr (.inl h2) | exact .inr (.inr h2) | ((try dsimp only at *); omega)))
    refine WL.step (post := fun v w' => (v = .bool (mOk p.l l.l st) ∧ MatGo w19 C g (mTo p.l l.l st) w') ∧ Chg (Since w19 C) w87 w') rfl rfl rfl (fun za zC zh zk => wp_invk (by kernel_rfl) (inv_term _ _) rfl (zh.ev rfl) (hv2 (zh.ev rfl) (zh.ev rfl)) (term_go p.l l.l ho91 ((hpl1.below hb86).chg hs92 hA1) (InT.isT ((hll1.below hb86).chg hs92 hA1)) hA1 hp1 hl1 (by have z := mTo_take p.l l.l st; omega)) (fun v w' h => zk v w' h)) ?_
    rintro _ w93 ⟨⟨rfl, hgo94⟩, hc95⟩
    have hB96 := chg_blk hB89 hc95 (fun h => h.elim (fun h => by have z := hClt _ h; (try dsimp only at *); omega) (fun h => by (try dsimp only at *); omega))
    have hB97 := chg_blk hB90 hc95 (fun h => h.elim (fun h => by have z := hClt _ h; (try dsimp only at *); omega) (fun h => by (try dsimp only at *); omega))
    refine WL.mv rfl rfl rfl rfl rfl ?_
    refine bool_split ((mOk p.l l.l st)) (fun h98 => ?_) (fun h98 => ?_)
    ·refine WL.setb (d := 35) (b := true) rfl h98 ?_
     refine WL.want (d := 35) rfl rfl rfl ?_
     refine WL.mv rfl rfl rfl rfl rfl ?_
     refine WL.want (d := 35) rfl rfl rfl ?_
     refine WL.val _ rfl rfl rfl (fun za zC zh zk => fld_60_2 rfl (zh.ev rfl) zk) ?_
     refine WL.want (d := 35) rfl rfl rfl ?_
     refine WL.val _ rfl rfl rfl (fun za zC zh zk => ld_58 rfl (zh.ev rfl) ((hB96.cell 3).trans rfl) ((hB96.cell 4).trans rfl) zk) ?_
     refine WL.want (d := 35) rfl rfl rfl ?_
     refine WL.val _ rfl rfl rfl (fun za zC zh zk => fld_60_2 rfl (zh.ev rfl) zk) ?_
     refine WL.want (d := 35) rfl rfl rfl ?_
     refine WL.val _ rfl rfl rfl (fun za zC zh zk => ld_58 rfl (zh.ev rfl) ((hB97.cell 3).trans rfl) ((hB97.cell 4).trans rfl) zk) ?_
     refine WL.want (d := 35) rfl rfl rfl ?_
     have hs99 : Chg ((Since w19 C)) w19 w93 := (Chg.trans2 (Chg.trans2 (Chg.refl ((Since w19 C)) _) (Chg.ofBelow (S := fun k => k < 0) hb88) (fun i h1 h2 => by first | exact h2 | exact .inl ⟨h2, h1⟩ | exact .inl h2 | exact .inr h2 | exact .inr (.inl h2) | exact .inr (.inr h2) | ((try dsimp only at *); omega))) hc95 (fun i h1 h2 => by first | exact h2 | exact .inl ⟨h2, h1⟩ | exact .inl h2 | exact .inr h2 | exact .inr (.inl h2) | exact .inr (.inr h2) | ((try dsimp only at *); omega)))
     refine WL.step (post := fun v w' => (v = .bool (mOk p.r l.r (mTo p.l l.l st)) ∧ MatGo w19 C g (mTo p.r l.r (mTo p.l l.l st)) w') ∧ Chg (Since w19 C) w93 w') rfl rfl rfl (fun za zC zh zk => wp_invk (by kernel_rfl) (inv_term _ _) rfl (zh.ev rfl) (hv2 (zh.ev rfl) (zh.ev rfl)) (term_go p.r l.r hgo94 ((hpr1.below hb86).chg hs99 hA1) (InT.isT ((hlr1.below hb86).chg hs99 hA1)) hA1 hp2 hl2 (by have z := mTo_take p.l l.l st; omega)) (fun v w' h => zk v w' h)) ?_
     rintro _ w100 ⟨⟨rfl, hgo101⟩, hc102⟩
     have hB103 := chg_blk hB96 hc102 (fun h => h.elim (fun h => by have z := hClt _ h; (try dsimp only at *); omega) (fun h => by (try dsimp only at *); omega))
     have hB104 := chg_blk hB97 hc102 (fun h => h.elim (fun h => by have z := hClt _ h; (try dsimp only at *); omega) (fun h => by (try dsimp only at *); omega))
     refine WL.val (.bool ((mOk p.r l.r (mTo p.l l.l st)))) rfl rfl rfl (fun za zC zh zk => wp_pickT rfl (zh.ev rfl) (zh.ev rfl) zk) ?_
     refine WL.nil (WE.sub (K' := [(0, .iface 78 (.pointer (some ⟨g, 0, none⟩))), (1, .agg #[.bool p.neg, .int .i64 p.l.f, .slice a1 p.l.args.length c1, .int .i64 p.r.f, .slice a2 p.r.args.length c2]), (2, .agg #[.bool l.neg, .int .i64 l.l.f, .slice a3 l.l.args.length c3, .int .i64 l.r.f, .slice a4 l.r.args.length c4]), (3, .bool tu), (5, .pointer (some ⟨g2, 0, none⟩)), (6, .pointer (some ⟨g9, 0, none⟩)), (8, .bool false), (9, .int .i64 (((st.length : Nat) : Int))), (19, .bool (((p.neg != l.neg) || (p.atom != l.atom)))), (20, .bool tu), (42, .bool ((mOk p.r l.r (mTo p.l l.l st))))]) ⟨rfl, rfl, rfl, rfl, rfl, rfl, rfl, rfl, rfl, rfl, rfl, trivial⟩ ?_)
     refine WE.next ?_
     refine WC.cond rfl (fun h105 => ?_) (fun h105 => ?_)
     ·skip
      refine WC.seq (WC.region (WL.asg rfl rfl rfl rfl rfl (WL.nil (WE.next (WC.ret (WE.thenRet (WE.ret1 rfl rfl ?_)))))))
      have hs106 : Chg ((Since w19 C)) w19 w100 := (Chg.trans2 (Chg.trans2 (Chg.trans2 (Chg.refl ((Since w19 C)) _) (Chg.ofBelow (S := fun k => k < 0) hb88) (fun i h1 h2 => by first | exact h2 | exact .inl ⟨h2, h1⟩ | exact .inl h2 | exact .inr h2 | exact .inr (.inl h2) | exact .inr (.inr h2) | ((try dsimp only at *); omega))) hc95 (fun i h1 h2 => by first | exact h2 | exact .inl ⟨h2, h1⟩ | exact .inl h2 | exact .inr h2 | exact .inr (.inl h2) | exact .inr (.inr h2) | ((try dsimp only at *); omega))) hc102 (fun i h1 h2 => by first | exact h2 | exact .inl ⟨h2, h1⟩ | exact .inl h2 | exact .inr h2 | exact .inr (.inl h2) | exact .inr (.inr h2) | ((try dsimp only at *); omega)))
      have htu9 : tu = false := by simpa using h24
      have hsm : p.neg = l.neg ∧ p.atom = l.atom := by have z := h21; simp at z; exact z
      have hfin := lOk_yes (p := p) (l := l) (b := tu) (st := st) hsm (by rw [htu9]; exact h98) (by rw [htu9]; exact h105)
      rw [htu9] at hfin
      subst htu9
      exact ⟨_, rfl, by rw [hfin.1, hfin.2]; obtain ⟨C9, z1, z2⟩ := MatGo.done hgo101 hb86.size; exact ⟨C9, rfl, z1, z2⟩, chg_since hb86 hs106⟩
     ·skip
      refine WC.skip (WE.next (WC.seq (WC.region (WL.mv rfl rfl rfl rfl rfl (WL.mv rfl rfl rfl rfl rfl ?_)))))
      refine WL.step (post := fun v w' => MatGo w19 C g (backTo (mTo p.r l.r (mTo p.l l.l st)) (st.length : Nat)) w' ∧ Chg (Since w19 C) w100 w') rfl rfl rfl (fun za zC zh zk => wp_invk (by kernel_rfl) (inv_back _ _) rfl (zh.ev rfl) (hv1 (zh.ev rfl)) (back_go (st.length : Nat) hgo101) (fun v w' h => zk v w' h)) ?_
      rintro _ w107 ⟨hgo108, hc109⟩
      have hB110 := chg_blk hB103 hc109 (fun h => h.elim (fun h => by have z := hClt _ h; (try dsimp only at *); omega) (fun h => by (try dsimp only at *); omega))
      have hB111 := chg_blk hB104 hc109 (fun h => h.elim (fun h => by have z := hClt _ h; (try dsimp only at *); omega) (fun h => by (try dsimp only at *); omega))
      refine WL.nil (WE.next (WC.seq (WC.region (WL.asg rfl rfl rfl rfl rfl (WL.nil (WE.next (WC.ret (WE.ret1 rfl rfl ?_))))))))
      have hs112 : Chg ((Since w19 C)) w19 w107 := (Chg.trans2 (Chg.trans2 (Chg.trans2 (Chg.trans2 (Chg.refl ((Since w19 C)) _) (Chg.ofBelow (S := fun k => k < 0) hb88) (fun i h1 h2 => by first | exact h2 | exact .inl ⟨h2, h1⟩ | exact .inl h2 | exact .inr h2 | exact .inr (.inl h2) | exact .inr (.inr h2) | ((try dsimp only at *); omega))) hc95 (fun i h1 h2 => by first | exact h2 | exact .inl ⟨h2, h1⟩ | exact .inl h2 | exact .inr h2 | exact .inr (.inl h2) | exact .inr (.inr h2) | ((try dsimp only at *); omega))) hc102 (fun i h1 h2 => by first | exact h2 | exact .inl ⟨h2, h1⟩ | exact .inl h2 | exact .inr h2 | exact .inr (.inl h2) | exact .inr (.inr h2) | ((try dsimp only at *); omega))) hc109 (fun i h1 h2 => by first | exact h2 | exact .inl ⟨h2, h1⟩ | exact .inl h2 | exact .inr h2 | exact .inr (.inl h2) | exact .inr (.inr h2) | ((try dsimp only at *); omega)))
      have htu9 : tu = false := by simpa using h24
      have hsm : p.neg = l.neg ∧ p.atom = l.atom := by have z := h21; simp at z; exact z
      have hfin := lOk_no3 (p := p) (l := l) (b := tu) (st := st) (by rw [htu9]; exact Bool.eq_false_iff.1 h105)
      have hb9 : backTo (mTo p.r l.r (mTo p.l l.l st)) (st.length : Nat) = st := by rw [mTo_no (Bool.eq_false_iff.1 h105)]; have z1 := mTo_take p.l l.l st; rw [backTo_nat (by omega), z1.2.2]
      rw [hb9] at hgo108
      exact ⟨_, rfl, by rw [hfin.1, hfin.2]; obtain ⟨C9, z1, z2⟩ := MatGo.done hgo108 hb86.size; exact ⟨C9, rfl, z1, z2⟩, chg_since hb86 hs112⟩
    ·refine WL.setb (d := 35) (b := false) rfl h98 ?_
     refine WL.skip (d := 35) rfl rfl rfl rfl rfl ?_
     refine WL.skip (d := 35) rfl rfl rfl rfl rfl ?_
     refine WL.skip (d := 35) rfl rfl rfl rfl rfl ?_
     refine WL.skip (d := 35) rfl rfl rfl rfl rfl ?_
     refine WL.skip (d := 35) rfl rfl rfl rfl rfl ?_
     refine WL.skip (d := 35) rfl rfl rfl rfl rfl ?_
     refine WL.val (.bool false) rfl rfl rfl (fun za zC zh zk => wp_pickF rfl (zh.ev rfl) (zh.ev rfl) zk) ?_
     refine WL.nil (WE.sub (K' := [(0, .iface 78 (.pointer (some ⟨g, 0, none⟩))), (1, .agg #[.bool p.neg, .int .i64 p.l.f, .slice a1 p.l.args.length c1, .int .i64 p.r.f, .slice a2 p.r.args.length c2]), (2, .agg #[.bool l.neg, .int .i64 l.l.f, .slice a3 l.l.args.length c3, .int .i64 l.r.f, .slice a4 l.r.args.length c4]), (3, .bool tu), (5, .pointer (some ⟨g2, 0, none⟩)), (6, .pointer (some ⟨g9, 0, none⟩)), (8, .bool false), (9, .int .i64 (((st.length : Nat) : Int))), (19, .bool (((p.neg != l.neg) || (p.atom != l.atom)))), (20, .bool tu), (42, .bool false)]) ⟨rfl, rfl, rfl, rfl, rfl, rfl, rfl, rfl, rfl, rfl, rfl, trivial⟩ ?_)
     refine WE.next ?_
     refine WC.condF rfl rfl ?_
     refine WC.skip (WE.next (WC.seq (WC.region (WL.mv rfl rfl rfl rfl rfl (WL.mv rfl rfl rfl rfl rfl ?_)))))
     refine WL.step (post := fun v w' => MatGo w19 C g (backTo (mTo p.l l.l st) (st.length : Nat)) w' ∧ Chg (Since w19 C) w93 w') rfl rfl rfl (fun za zC zh zk => wp_invk (by kernel_rfl) (inv_back _ _) rfl (zh.ev rfl) (hv1 (zh.ev rfl)) (back_go (st.length : Nat) hgo94) (fun v w' h => zk v w' h)) ?_
     rintro _ w113 ⟨hgo114, hc115⟩
     have hB116 := chg_blk hB96 hc115 (fun h => h.elim (fun h => by have z := hClt _ h; (try dsimp only at *); omega) (fun h => by (try dsimp only at *); omega))
     have hB117 := chg_blk hB97 hc115 (fun h => h.elim (fun h => by have z := hClt _ h; (try dsimp only at *); omega) (fun h => by (try dsimp only at *); omega))
     refine WL.nil (WE.next (WC.seq (WC.region (WL.asg rfl rfl rfl rfl rfl (WL.nil (WE.next (WC.ret (WE.ret1 rfl rfl ?_))))))))
     have hs118 : Chg ((Since w19 C)) w19 w113 := (Chg.trans2 (Chg.trans2 (Chg.trans2 (Chg.refl ((Since w19 C)) _) (Chg.ofBelow (S := fun k => k < 0) hb88) (fun i h1 h2 => by first | exact h2 | exact .inl ⟨h2, h1⟩ | exact .inl h2 | exact .inr h2 | exact .inr (.inl h2) | exact .inr (.inr h2) | ((try dsimp only at *); omega))) hc95 (fun i h1 h2 => by first | exact h2 | exact .inl ⟨h2, h1⟩ | exact .inl h2 | exact .inr h2 | exact .inr (.inl h2) | exact .inr (.inr h2) | ((try dsimp only at *); omega))) hc115 (fun i h1 h2 => by first | exact h2 | exact .inl ⟨h2, h1⟩ | exact .inl h2 | exact .inr h2 | exact .inr (.inl h2) | exact .inr (.inr h2) | ((try dsimp only at *); omega)))
     have htu9 : tu = false := by simpa using h24
     have hsm : p.neg = l.neg ∧ p.atom = l.atom := by have z := h21; simp at z; exact z
     have hfin := lOk_no2 (p := p) (l := l) (b := tu) (st := st) (by rw [htu9]; exact Bool.eq_false_iff.1 h98)
     have hb9 : backTo (mTo p.l l.l st) (st.length : Nat) = st := by have z1 := mTo_take p.l l.l st; rw [backTo_nat (by omega), z1.2.2]
     rw [hb9] at hgo114
     exact ⟨_, rfl, by rw [hfin.1, hfin.2]; obtain ⟨C9, z1, z2⟩ := MatGo.done hgo114 hb86.size; exact ⟨C9, rfl, z1, z2⟩, chg_since hb86 hs118⟩
end Go.Proofs.Ytnmopmdpnpcdhaa

/- The matcher matches literals. -/
namespace Go.Proofs.Ytnmopmdpnpcdhaa
open Go.RowKit Go
set_option linter.unusedVariables false
set_option linter.unusedSimpArgs false
theorem wp_ifc {P : Program} {w : World} {a : Act} {K : Act → World → Prop} {Q : Exit → Act → World → Prop} {o : Oper} {x : Operand} {v : Value} {t e : TypeId} (ht : P.underlying t = some (.pointer e)) (ho : o.op = .makeInterface t x) (hx : a.eval x = v) (hK : K (a.put o.dst (.iface t v)) w) : o.wp P a w K Q := by
 have h1 : (Instr.makeInterface t v).run P w = .ok (.iface t v) w := by simp [Instr.makeInterface, run_underlying ht, go_sem]
 unfold Oper.wp execOp
 simp only [ho, hx, Sem.run_bind, h1, Result.andThen_ok]
 exact hK
set_option maxRecDepth 100000 in
theorem mlit_any {g : Nat} {st : List Bd} {C A : Nat → Prop} (p l : Li) (tu : Bool) (w : World) (u v : Value) (h : MatAt w g st C) (hp : LiIn A w p u) (hl : LiIn A w l v) (hA : ∀ b, A b → ¬ C b) (hp1 : p.l.size ≤ 4294967296) (hp2 : p.r.size ≤ 4294967296) (hl1 : l.l.size ≤ 4294967296) (hl2 : l.r.size ≤ 4294967296) (hn : st.length + p.l.size + p.r.size ≤ 1099511627776) :
  Calls Try.prog 37 #[.pointer (some ⟨g, 0, none⟩), u, v, .bool tu] w (Ret fun v' w' => (∃ C', v' = .bool (lOk p l tu st) ∧ MatAt w' g (lTo p l tu st) C' ∧ ∀ b, C' b → C b ∨ w.heap.size ≤ b) ∧ Chg C w w') := by
 have hClt := h.clt
 obtain ⟨a1, a2, c1, c2, rfl⟩ := hp.parts
 obtain ⟨a3, a4, c3, c4, rfl⟩ := hl.parts
 refine Calls.walk (l := [.pointer (some ⟨g, 0, none⟩), .agg #[.bool p.neg, .int .i64 p.l.f, .slice a1 p.l.args.length c1, .int .i64 p.r.f, .slice a2 p.r.args.length c2], .agg #[.bool l.neg, .int .i64 l.l.f, .slice a3 l.l.args.length c3, .int .i64 l.r.f, .slice a4 l.r.args.length c4], .bool tu]) Try.func37 rfl (by kernel_rfl) ?_
 refine WC.sub (K' := [(0, .pointer (some ⟨g, 0, none⟩)), (1, .agg #[.bool p.neg, .int .i64 p.l.f, .slice a1 p.l.args.length c1, .int .i64 p.r.f, .slice a2 p.r.args.length c2]), (2, .agg #[.bool l.neg, .int .i64 l.l.f, .slice a3 l.l.args.length c3, .int .i64 l.r.f, .slice a4 l.r.args.length c4]), (3, .bool tu)]) ⟨rfl, rfl, rfl, rfl, trivial⟩ ?_
 refine WC.seq (WC.region ?_)
 refine WL.step (post := NewBlk w 60 #[.bool p.neg, .int .i64 p.l.f, .slice a1 p.l.args.length c1, .int .i64 p.r.f, .slice a2 p.r.args.length c2]) rfl rfl rfl (fun za zC zh zk => box_60 rfl (zh.ev rfl) (zk _ _ (newBlk _ _ _))) ?_
 rintro _ w1 ⟨g2, rfl, hg3, hB4, hb5, hz6⟩
 have hl7 : w.heap.size ≤ g2 := by omega
 refine WL.step (post := NewBlk w1 60 #[.bool l.neg, .int .i64 l.l.f, .slice a3 l.l.args.length c3, .int .i64 l.r.f, .slice a4 l.r.args.length c4]) rfl rfl rfl (fun za zC zh zk => box_60 rfl (zh.ev rfl) (zk _ _ (newBlk _ _ _))) ?_
 rintro _ w8 ⟨g9, rfl, hg10, hB11, hb12, hz13⟩
 have hl14 : g2 < g9 := by have z1 := hB4.lt; omega
 have hl15 : w.heap.size ≤ g9 := by have z2 := (hb5).size; omega
 refine WL.asg rfl rfl rfl rfl rfl (WL.nil (WE.next (WC.seq (WC.region (WL.mv rfl rfl rfl rfl rfl ?_)))))
 refine WL.val (.bool true) rfl rfl rfl (fun za zC zh zk => neqp_78 rfl (zh.ev rfl) (zh.ev rfl) zk) ?_
 refine WL.mv rfl rfl rfl rfl rfl ?_
 refine WL.want (d := 11) rfl rfl rfl ?_
 refine WL.mv rfl rfl rfl rfl rfl ?_
 refine WL.want (d := 11) rfl rfl rfl ?_
 refine WL.val (.iface 78 (.pointer (some ⟨g, 0, none⟩))) rfl rfl rfl (fun za zC zh zk => wp_ifc Try.underlying78 rfl (zh.ev rfl) zk) ?_
 refine WL.want (d := 11) rfl rfl rfl ?_
 have hB16 := hB4.below hb12
 refine WL.val _ rfl rfl rfl (fun za zC zh zk => ld_60 rfl (zh.ev rfl) ((hB16.cell 0).trans rfl) ((hB16.cell 1).trans rfl) ((hB16.cell 2).trans rfl) ((hB16.cell 3).trans rfl) ((hB16.cell 4).trans rfl) zk) ?_
 refine WL.want (d := 11) rfl rfl rfl ?_
 refine WL.val _ rfl rfl rfl (fun za zC zh zk => ld_60 rfl (zh.ev rfl) ((hB11.cell 0).trans rfl) ((hB11.cell 1).trans rfl) ((hB11.cell 2).trans rfl) ((hB11.cell 3).trans rfl) ((hB11.cell 4).trans rfl) zk) ?_
 refine WL.want (d := 11) rfl rfl rfl ?_
 refine WL.mv rfl rfl rfl rfl rfl ?_
 refine WL.want (d := 11) rfl rfl rfl ?_
 have hb17 : Below w.heap.size w w8 := (bstep hb5 hb12)
 refine WL.call rfl rfl rfl (fun za zh zC => wp_call (by kernel_rfl) rfl (hv4 (zh.ev rfl) (zh.ev rfl) (zh.ev rfl) (zh.ev rfl))) (lit_any p l tu _ _ _ (h.below hb17) (hp.keep (fun p x _ hx => bkeeps hb17 p x hx)) (hl.keep (fun p x _ hx => bkeeps hb17 p x hx)) hA hp1 hp2 hl1 hl2 hn) ?_
 rintro _ w18 ⟨⟨C2, rfl, hM2, hC2⟩, hcL⟩
 refine WL.val (.bool ((lOk p l tu st))) rfl rfl rfl (fun za zC zh zk => wp_pickT rfl (zh.ev rfl) (zh.ev rfl) zk) ?_
 refine WL.asg rfl rfl rfl rfl rfl (WL.nil (WE.next (WC.ret (WE.ret1 rfl rfl ?_))))
 exact ⟨_, rfl, ⟨C2, rfl, hM2, fun b q => (hC2 b q).imp id (fun q => by have z := (hb17).size; omega)⟩, (Chg.refl C w).trans2 (.ofBelow (S := fun _ => False) hb17) (fun _ _ q => q.elim) |>.trans2 hcL (fun _ _ q => q)⟩
end Go.Proofs.Ytnmopmdpnpcdhaa

/- Loops over functions that lay boxes of their own: a round leaves all cells outside 'S' as they are. -/
namespace Go.Proofs.Ytnmopmdpnpcdhaa
open Go.RowKit Go
set_option linter.unusedVariables false
set_option linter.unusedSimpArgs false
/-- What is cells, outside 'S', stays; so does all below 'B', outside 'S'. -/
structure Kpt (S : Nat → Prop) (B : Nat) (w w' : World) : Prop where
  os : w'.os = w.os
  tape : w'.tape = w.tape
  output : w'.output = w.output
  size : w.heap.size ≤ w'.heap.size
  block : ∀ (k : Nat) (o : Obj), w.heap[k]? = some o → (o.isCells = true ∨ k < B) → ¬ S k → w'.heap[k]? = some o
theorem Chg.toBelow {w w' : World} (h : Chg (fun b => b < 0) w w') : Below w.heap.size w w' := ⟨h.os, h.tape, h.output, h.size, fun k hk => h.block k hk (fun q => by omega)⟩
section
variable {S : Nat → Prop} {B : Nat} {w w' w'' : World}
theorem Kpt.refl : Kpt S B w w := ⟨rfl, rfl, rfl, Nat.le_refl _, fun _ _ h _ _ => h⟩
theorem Kpt.trans (h : Kpt S B w w') (k : Kpt S B w' w'') : Kpt S B w w'' :=
  ⟨k.os.trans h.os, k.tape.trans h.tape, k.output.trans h.output, Nat.le_trans h.size k.size, fun i o hi ho hS => k.block i o (h.block i o hi ho hS) ho hS⟩
theorem Kpt.ofChg (h : Chg S w w') : Kpt S B w w' := ⟨h.os, h.tape, h.output, h.size, fun k o hk _ hS => (h.block k (Array.getElem?_eq_some_iff.1 hk).1 hS).trans hk⟩
theorem Kpt.ofBelow (h : Below w.heap.size w w') : Kpt S B w w' := Kpt.ofChg (.ofBelow h)
theorem Kpt.put {l : Nat} {o o' : Obj} (hl : B ≤ l) (h : w.heap[l]? = some o) (ho : o.isCells = false) : Kpt S B w (w.putObj l o') := by
  have hg := grownBy_putObj' w l o'
  refine ⟨hg.os, hg.tape, hg.output, hg.size, fun k u hk hu hS => (hg.block k (Array.getElem?_eq_some_iff.1 hk).1 (fun e => ?_)).trans hk⟩
  obtain rfl : k = l := Option.some.inj e
  rw [h] at hk; obtain rfl := Option.some.inj hk
  rcases hu with hu | hu
  · rw [ho] at hu; cases hu
  · omega
theorem Kpt.blk {b : Nat} {t : TypeId} {cs : Array Value} (k : Kpt S B w w') (h : Blk w b t cs) (hS : ¬ S b) : Blk w' b t cs := k.block b _ h (.inl rfl) hS
theorem Kpt.below {w0 : World} (k : Kpt S B w w') (h : Below w0.heap.size w0 w) (hB : w0.heap.size ≤ B) (hS : ∀ b, b < w0.heap.size → ¬ S b) : Below w0.heap.size w0 w' :=
  ⟨k.os.trans h.os, k.tape.trans h.tape, k.output.trans h.output, Nat.le_trans h.size k.size, fun i hi => by
    have := h.block i hi
    rw [Array.getElem?_eq_getElem hi] at this ⊢
    exact k.block i _ this (.inr (by omega)) (hS i hi)⟩
theorem Kpt.cell {p : Addr} {v : Value} (k : Kpt S B w w') (hS : ¬ S p.block) (h : w.cell? p = some v) : w'.cell? p = some v := by
  have hlt := World.block_lt_of_cell? _ _ h
  have hh := h
  unfold World.cell? at h ⊢
  rw [Array.getElem?_eq_getElem hlt] at h
  have hc : (w.heap[p.block]).isCells = true := by
    cases hx : w.heap[p.block] with
    | cells a b c => rfl
    | _ => simp [hx] at h
  rw [k.block p.block _ (Array.getElem?_eq_getElem hlt) (.inl hc) hS]
  exact h
end
section
variable {P : Program} {N : Nat} {ds : List Deferred}
end
structure Marks (B : Nat) (w : World) (l : List Nat) : Prop where
  nodup : l.Nodup
  at_ : ∀ D, D ∈ l → B ≤ D ∧ Mk w D
section
variable {B : Nat} {w w' : World} {l : List Nat}
theorem Marks.nil : Marks B w [] := ⟨List.nodup_nil, fun D h => by simp at h⟩
theorem Marks.base (h : Marks B w l) {D : Nat} (hD : D ∈ l) : B ≤ D := (h.at_ D hD).1
theorem Marks.lt (h : Marks B w l) {D : Nat} (hD : D ∈ l) : D < w.heap.size := (h.at_ D hD).2.lt
theorem Marks.below (h : Marks B w l) (hb : Below w.heap.size w w') : Marks B w' l := ⟨h.nodup, fun D hD => ⟨h.base hD, (h.at_ D hD).2.below hb⟩⟩
theorem Marks.upd {g : Nat} (h : Marks B w l) (hu : Upd g w w') (hg : ∃ o : Obj, w.heap[g]? = some o ∧ o.isCells = true) : Marks B w' l := ⟨h.nodup, fun D hD => ⟨h.base hD, (h.at_ D hD).2.upd hu (fun e => by
  obtain ⟨o, h1, h2⟩ := hg
  have h3 := (h.at_ D hD).2
  subst e
  unfold Mk at h3
  rw [h1] at h3
  obtain rfl := Option.some.inj h3
  cases h2)⟩⟩
theorem Marks.chg {S : Nat → Prop} (h : Marks B w l) (hc : Chg S w w') (hS : ∀ D, D ∈ l → ¬ S D) : Marks B w' l := ⟨h.nodup, fun D hD => ⟨h.base hD, (h.at_ D hD).2.chg hc (hS D hD)⟩⟩
theorem Marks.turn {Bt : Nat} (h : Marks B w l) (t : Turn Bt w w') (hl : ∀ D, D ∈ l → D < Bt) : Marks B w' l := ⟨h.nodup, fun D hD => ⟨h.base hD, t.block D _ (h.at_ D hD).2 (.inr (hl D hD))⟩⟩
theorem Marks.cons {D : Nat} (h : Marks B w l) (hw : Mk w D) (hB : B ≤ D) (hn : ∀ D', D' ∈ l → D' < D) : Marks B w (D :: l) :=
  ⟨List.nodup_cons.2 ⟨fun q => Nat.lt_irrefl _ (hn D q), h.nodup⟩, fun D' hD' => by
    rcases List.mem_cons.1 hD' with rfl | q
    · exact ⟨hB, hw⟩
    · exact h.at_ D' q⟩
end
section
variable {P : Program} {n : Fr} {K : Known} {w : World} {c : Code} {Q : Exit → Act → World → Prop}
end
end Go.Proofs.Ytnmopmdpnpcdhaa

namespace Go.Proofs.Ytnmopmdpnpcdhaa
open Go.RowKit Go
set_option linter.unusedVariables false
set_option linter.unusedSimpArgs false
/-- The choices, in order: each place, as it is, turned. -/
def chs : Nat → Nat → List (Nat × Bool)
  | 0, _ => []
  | k + 1, j => (j, false) :: (j, true) :: chs k (j + 1)
def intoL (d : List Li) (p : Li) (us : List Bool) (st : List Bd) (f : List Bool → List Bd → Nat → Bool × Nat) : List (Nat × Bool) → Nat → Bool × Nat
  | [], n => (false, n)
  | (j, tu) :: r, n =>
    if us.getD j false = true then intoL d p us st f r n
    else if 10000 < n + 1 then (false, n + 1)
    else if lOk p (lget d j) tu st = true then
      (if (f (us.set j true) (lTo p (lget d j) tu st) (n + 1)).1 = true then (true, (f (us.set j true) (lTo p (lget d j) tu st) (n + 1)).2)
        else intoL d p us st f r (f (us.set j true) (lTo p (lget d j) tu st) (n + 1)).2)
    else intoL d p us st f r (n + 1)
/-- Has each literal a place? And how many tries there were. -/
def into (d : List Li) : List Li → List Bool → List Bd → Nat → Bool × Nat
  | [], _, _, n => (true, n)
  | p :: r, us, st, n => intoL d p us st (into d r) (chs d.length 0) n
theorem intoL_le {d : List Li} {p : Li} {us : List Bool} {st : List Bd} {f : List Bool → List Bd → Nat → Bool × Nat} {k M : Nat} (hM : 10000 ≤ M) (hf : ∀ us st n, n ≤ 10000 → (f us st n).2 ≤ 10000 + k) : ∀ (c : List (Nat × Bool)) (n : Nat), n ≤ M + k → (intoL d p us st f c n).2 ≤ M + k + 1
  | [], n, h => by rw [intoL]; exact Nat.le_succ_of_le h
  | (j, tu) :: r, n, h => by
    rw [intoL]
    split
    · exact intoL_le hM hf r n h
    · split
      · dsimp only; omega
      · have hq := hf (us.set j true) (lTo p (lget d j) tu st) (n + 1) (by omega)
        split
        · split
          · dsimp only; omega
          · exact intoL_le hM hf r _ (by omega)
        · exact intoL_le hM hf r _ (by omega)
theorem into_le {d : List Li} : ∀ (c : List Li) (us : List Bool) (st : List Bd) (n : Nat), (into d c us st n).2 ≤ Nat.max n 10000 + c.length
  | [], us, st, n => by rw [into]; exact Nat.le_trans (Nat.le_max_left _ _) (Nat.le_add_right _ _)
  | p :: r, us, st, n => by
    rw [into]
    have h := intoL_le (d := d) (p := p) (us := us) (st := st) (f := into d r) (k := r.length) (M := Nat.max n 10000) (Nat.le_max_right _ _) (fun us st n hn => by
      have z := into_le (d := d) r us st n
      rw [show Nat.max n 10000 = 10000 from Nat.max_eq_right hn] at z; exact z) (chs d.length 0) n (Nat.le_trans (Nat.le_max_left _ _) (Nat.le_add_right _ _))
    rw [List.length_cons, ← Nat.add_assoc]; exact h
theorem intoL_used {d : List Li} {p : Li} {us : List Bool} {st : List Bd} {f : List Bool → List Bd → Nat → Bool × Nat} {k j n : Nat} (h : us.getD j false = true) : intoL d p us st f (chs (k + 1) j) n = intoL d p us st f (chs k (j + 1)) n := by
  rw [chs, intoL, if_pos h, intoL, if_pos h]
/-- What is left of the choices at a place. -/
def rk (k j m : Nat) : List (Nat × Bool) := (if k = 0 then [(j, false), (j, true)] else if k = 1 then [(j, true)] else []) ++ chs m (j + 1)
theorem rk_0 {k j : Nat} : rk 0 j k = chs (k + 1) j := rfl
theorem rk_2 {k j : Nat} : rk 2 j k = chs k (j + 1) := rfl
theorem rk_step {k j m : Nat} (h : k < 2) : rk k j m = (j, bif decide (k = 0) then false else true) :: rk (k + 1) j m := by
  obtain rfl | rfl : k = 0 ∨ k = 1 := by omega
  · rfl
  · rfl
section
variable {d : List Li} {p : Li} {us : List Bool} {st : List Bd} {f : List Bool → List Bd → Nat → Bool × Nat} {k j m n : Nat}
theorem rk_much (h : k < 2) (hu : us.getD j false = false) (hn : 10000 < n + 1) : intoL d p us st f (rk k j m) n = (false, n + 1) := by
  rw [rk_step h, intoL, if_neg (by rw [hu]; decide), if_pos hn]
theorem rk_no (h : k < 2) (hu : us.getD j false = false) (hn : ¬ 10000 < n + 1) (hl : lOk p (lget d j) (bif decide (k = 0) then false else true) st = false) : intoL d p us st f (rk k j m) n = intoL d p us st f (rk (k + 1) j m) (n + 1) := by
  rw [rk_step h, intoL, if_neg (by rw [hu]; decide), if_neg hn, if_neg (by rw [hl]; decide)]
theorem rk_yes (h : k < 2) (hu : us.getD j false = false) (hn : ¬ 10000 < n + 1) (hl : lOk p (lget d j) (bif decide (k = 0) then false else true) st = true) (hf : (f (us.set j true) (lTo p (lget d j) (bif decide (k = 0) then false else true) st) (n + 1)).1 = true) : (intoL d p us st f (rk k j m) n).1 = true := by
  rw [rk_step h, intoL, if_neg (by rw [hu]; decide), if_neg hn, if_pos hl, if_pos hf]
theorem rk_back (h : k < 2) (hu : us.getD j false = false) (hn : ¬ 10000 < n + 1) (hl : lOk p (lget d j) (bif decide (k = 0) then false else true) st = true) (hf : (f (us.set j true) (lTo p (lget d j) (bif decide (k = 0) then false else true) st) (n + 1)).1 = false) : intoL d p us st f (rk k j m) n = intoL d p us st f (rk (k + 1) j m) (f (us.set j true) (lTo p (lget d j) (bif decide (k = 0) then false else true) st) (n + 1)).2 := by
  rw [rk_step h, intoL, if_neg (by rw [hu]; decide), if_neg hn, if_pos hl, if_neg (by rw [hf]; decide)]
end
theorem into_cons {d c : List Li} {i : Nat} (h : i < c.length) (us : List Bool) (st : List Bd) (n : Nat) : into d (c.drop i) us st n = intoL d (lget c i) us st (into d (c.drop (i + 1))) (chs d.length 0) n := by
  rw [List.drop_eq_getElem_cons h, into, lget_lt h]
theorem into_nil {d c : List Li} {i : Nat} (h : c.length ≤ i) (us : List Bool) (st : List Bd) (n : Nat) : into d (c.drop i) us st n = (true, n) := by
  rw [List.drop_eq_nil_of_le h, into]
theorem set_back {us : List Bool} {j : Nat} (h : us.getD j false = false) : (us.set j true).set j false = us := by
  apply List.ext_getElem?
  intro i
  rw [List.set_set, List.getElem?_set]
  by_cases e : j = i
  · subst e
    rw [List.getD_eq_getElem?_getD] at h
    by_cases hl : j < us.length
    · rw [if_pos rfl, if_pos hl, List.getElem?_eq_getElem hl]
      rw [List.getElem?_eq_getElem hl, Option.getD_some] at h; rw [h]
    · rw [if_pos rfl, if_neg hl, List.getElem?_eq_none (by omega)]
  · rw [if_neg e]
theorem lTo_len {p l : Li} {b : Bool} {st : List Bd} : st.length ≤ (lTo p l b st).length ∧ (lTo p l b st).length ≤ st.length + p.l.size + p.r.size ∧ (lTo p l b st).take st.length = st := by
  unfold lTo
  split
  · have z1 := mTo_take p.l (l.turn b).l st
    have z2 := mTo_take p.r (l.turn b).r (mTo p.l (l.turn b).l st)
    refine ⟨by omega, by omega, ?_⟩
    have e := congrArg (List.take st.length) z2.2.2
    rw [List.take_take, Nat.min_eq_left z1.1, z1.2.2] at e
    exact e
  · simp; omega
theorem lTo_back {p l : Li} {b : Bool} {st : List Bd} : backTo (lTo p l b st) (st.length : Nat) = st := by
  have z := lTo_len (p := p) (l := l) (b := b) (st := st)
  rw [backTo_nat z.1, z.2.2]
/-- What the search may change since 'w0': two blocks, the matcher's, what is new. -/
def FF (w0 : World) (C0 : Nat → Prop) (g gu : Nat) : Nat → Prop := fun b => b = g ∨ b = gu ∨ C0 b ∨ w0.heap.size ≤ b
def Apart (w0 : World) (C0 : Nat → Prop) (g gu : Nat) : Nat → Prop := fun b => (C0 b ∨ w0.heap.size ≤ b) ∧ b ≠ g ∧ b ≠ gu
def Now (w0 : World) (C0 : Nat → Prop) (g gu : Nat) (w : World) : Prop := Chg (FF w0 C0 g gu) w0 w
def MatG (w0 : World) (C0 : Nat → Prop) (g gu gm : Nat) (st : List Bd) (w : World) : Prop := ∃ C, MatAt w gm st C ∧ ∀ b, C b → Apart w0 C0 g gu b
section
variable {w0 w w' : World} {C0 : Nat → Prop} {g gu gm : Nat} {st st' : List Bd} {S : Nat → Prop}
theorem Apart.ff {b : Nat} (h : Apart w0 C0 g gu b) : FF w0 C0 g gu b := .inr (.inr h.1)
theorem Now.chg (h : Now w0 C0 g gu w) (hc : Chg S w w') (hS : ∀ b, S b → FF w0 C0 g gu b) : Now w0 C0 g gu w' := Chg.trans h (hc.mono hS)
theorem Now.below (h : Now w0 C0 g gu w) (hb : Below w.heap.size w w') : Now w0 C0 g gu w' := Chg.trans h (.ofBelow hb)
theorem Now.between (h : Now w0 C0 g gu w) (h' : Now w0 C0 g gu w') (hs : w.heap.size ≤ w'.heap.size) : Chg (FF w0 C0 g gu) w w' :=
  ⟨h'.os.trans h.os.symm, h'.tape.trans h.tape.symm, h'.output.trans h.output.symm, hs, fun k _ hn => by
    have hk : k < w0.heap.size := Nat.lt_of_not_le (fun e => hn (.inr (.inr (.inr e))))
    exact (h'.block k hk hn).trans (h.block k hk hn).symm⟩
theorem cell_chg {p : Addr} {v : Value} (hc : Chg S w w') (hS : ¬ S p.block) (h : w.cell? p = some v) : w'.cell? p = some v := by
  have hb := World.block_lt_of_cell? _ _ h
  unfold World.cell? at h ⊢
  rw [hc.block p.block hb hS]; exact h
theorem InRow.now {α : Type} {E : Elt α} {A : Nat → Prop} {l : List α} {a : Option Addr} (h : InRow E A w0 l a) (hn : Now w0 C0 g gu w) (hA : ∀ b, A b → ¬ FF w0 C0 g gu b) : InRow E A w l a := h.keep (fun p v hp hv => cell_chg hn (hA _ hp) hv)
theorem LiIn.chgA {A : Nat → Prop} {x : Li} {v : Value} (h : LiIn A w x v) (hc : Chg S w w') (hS : ∀ b, A b → ¬ S b) : LiIn A w' x v := h.keep (fun p v hp hv => cell_chg hc (hS _ hp) hv)
theorem MatG.chg (h : MatG w0 C0 g gu gm st w) (hc : Chg S w w') (hS : ∀ b, Apart w0 C0 g gu b → ¬ S b) : MatG w0 C0 g gu gm st w' := by
  obtain ⟨C, h1, h2⟩ := h
  exact ⟨C, h1.chg hc (fun b q => hS b (h2 b q)), h2⟩
theorem MatG.below (h : MatG w0 C0 g gu gm st w) (hb : Below w.heap.size w w') : MatG w0 C0 g gu gm st w' := h.chg (S := fun _ => False) (.ofBelow hb) (fun _ _ => id)
theorem mlit_g {A : Nat → Prop} (p l : Li) (tu : Bool) {u v : Value} (h : MatG w0 C0 g gu gm st w) (hb : w0.heap.size ≤ w.heap.size) (hg : g < w.heap.size) (hu : gu < w.heap.size) (hp : LiIn A w p u) (hl : LiIn A w l v) (hA : ∀ b, A b → ¬ FF w0 C0 g gu b) (hp1 : p.l.size ≤ 4294967296) (hp2 : p.r.size ≤ 4294967296) (hl1 : l.l.size ≤ 4294967296) (hl2 : l.r.size ≤ 4294967296) (hn : st.length + p.l.size + p.r.size ≤ 1099511627776) :
    Calls Try.prog 37 #[.pointer (some ⟨gm, 0, none⟩), u, v, .bool tu] w (Ret fun v' w' => (v' = .bool (lOk p l tu st) ∧ MatG w0 C0 g gu gm (lTo p l tu st) w') ∧ Chg (Apart w0 C0 g gu) w w') := by
  obtain ⟨C, h1, h2⟩ := h
  refine (mlit_any p l tu w u v h1 hp hl (fun b q q2 => hA b q (h2 b q2).ff) hp1 hp2 hl1 hl2 hn).mono ?_
  rintro e w' ⟨v, rfl, ⟨C', rfl, h3, h4⟩, h5⟩
  refine ⟨_, rfl, ⟨rfl, C', h3, fun b q => ?_⟩, h5.mono (fun b q => h2 b q)⟩
  rcases h4 b q with q | q
  · exact h2 b q
  · exact ⟨.inr (by omega), by omega, by omega⟩
theorem back_g (m : Int) (h : MatG w0 C0 g gu gm st w) : Calls Try.prog 45 #[.pointer (some ⟨gm, 0, none⟩), .int .i64 m] w (Ret fun _ w' => MatG w0 C0 g gu gm (backTo st m) w' ∧ Chg (Apart w0 C0 g gu) w w') := by
  obtain ⟨C, h1, h2⟩ := h
  refine (back_any m w h1).mono ?_
  rintro e w' ⟨v, rfl, h3, h4⟩
  exact ⟨_, rfl, ⟨C, h3, h2⟩, h4.mono (fun b q => h2 b q)⟩
theorem mark_g (h : MatG w0 C0 g gu gm st w) : Calls Try.prog 44 #[.pointer (some ⟨gm, 0, none⟩)] w (Ret fun v' w' => v' = .int .i64 (st.length : Nat) ∧ Below w.heap.size w w') := by
  obtain ⟨C, h1, _⟩ := h
  exact mark_any w h1
end
theorem InRow.someS {α : Type} {E : Elt α} {S : Nat → Prop} {w : World} {l : List α} {b o : Nat} (h : InRow E S w l (some ⟨b, o, none⟩)) (k : Nat) (hk : k < l.length) : S b := by
  obtain ⟨b', o', cs, e, hS, _⟩ := h k hk
  simp only [Option.some.injEq, Addr.mk.injEq, and_true] at e
  obtain ⟨rfl, rfl⟩ := e
  exact hS
theorem InRow.inS {α : Type} {E : Elt α} {S : Nat → Prop} {w : World} {l : List α} {a : Option Addr} (h : InRow E S w l a) {k b o : Nat} (hk : k < l.length) (e : a = some ⟨b, o, none⟩) : S b := by
  subst e; exact h.someS k hk
/-- A row of bools of its own. -/
def URow (w : World) (g ty : Nat) (us : List Bool) : Prop := Blk w g ty (us.map Value.bool).toArray
theorem URow.at_ {w : World} {g ty : Nat} {us : List Bool} (h : URow w g ty us) {k : Nat} (hk : k < us.length) : w.cell? ⟨g, k, none⟩ = some (.bool (us.getD k false)) := by
  rw [Blk.cell h]
  simp [hk]
theorem URow.set {w : World} {g ty : Nat} {us : List Bool} (h : URow w g ty us) {k : Nat} (b : Bool) (hk : k < us.length) : URow (w.setCell ⟨g, k, none⟩ (.bool b)) g ty (us.set k b) := by
  unfold URow
  have z := Blk.set_ h k (.bool b)
  have e : ((us.set k b).map Value.bool).toArray = (us.map Value.bool).toArray.set! k (.bool b) := by
    rw [List.map_set]; simp
  rw [e]; exact z
theorem URow.at0 {w : World} {g ty : Nat} {us : List Bool} (h : URow w g ty us) {k : Nat} (hk : k < us.length) : w.cell? ⟨g, 0 + k, none⟩ = some (.bool (us.getD k false)) := by rw [Nat.zero_add]; exact h.at_ hk
theorem URow.set0 {w : World} {g ty : Nat} {us : List Bool} (h : URow w g ty us) {k : Nat} (b : Bool) (hk : k < us.length) : URow (w.setCell ⟨g, 0 + k, none⟩ (.bool b)) g ty (us.set k b) := by rw [Nat.zero_add]; exact h.set b hk
theorem URow.chg {S : Nat → Prop} {w w' : World} {g ty : Nat} {us : List Bool} (h : URow w g ty us) (hc : Chg S w w') (hS : ¬ S g) : URow w' g ty us := chg_blk h hc hS
theorem URow.below {w w' : World} {g ty : Nat} {us : List Bool} (h : URow w g ty us) (hb : Below w.heap.size w w') : URow w' g ty us := Blk.below h hb
theorem URow.neInt {w : World} {g ty b k : Nat} {us : List Bool} {n : Int} (h : URow w g ty us) (hc : w.cell? ⟨b, k, none⟩ = some (.int .i64 n)) : b ≠ g := by
  rintro rfl
  rw [Blk.cell h] at hc
  simp at hc
mutual
theorem InT.apartU {S : Nat → Prop} {w : World} {g ty : Nat} {us : List Bool} (hU : URow w g ty us) : ∀ {t : T} {v : Value}, InT S w t v → InT (fun b => S b ∧ b ≠ g) w t v
  | .mk _ _, _, ⟨h0, a, c, h1, h2, h3, h4⟩ => ⟨h0, a, c, h1, h2, h3, InTs.apartU hU h4⟩
theorem InTs.apartU {S : Nat → Prop} {w : World} {g ty : Nat} {us : List Bool} (hU : URow w g ty us) : ∀ {l : List T} {a : Option Addr} {i : Nat}, InTs S w l a i → InTs (fun b => S b ∧ b ≠ g) w l a i
  | [], _, _, h => h
  | _ :: _, _, _, ⟨⟨b, o, u, v, ha, hs, h1, h2, h3⟩, h4⟩ => ⟨⟨b, o, u, v, ha, ⟨hs, by
      obtain ⟨_, _, e, _⟩ := InT.parts h3
      rw [e] at h1; exact hU.neInt h1⟩, h1, h2, InT.apartU hU h3⟩, InTs.apartU hU h4⟩
end
theorem InRow.apartU {S : Nat → Prop} {w : World} {g ty : Nat} {us : List Bool} {l : List Li} {a : Option Addr} (hU : URow w g ty us) (h : InRow eltL S w l a) : InRow eltL (fun b => S b ∧ b ≠ g) w l a := fun i hi => by
  obtain ⟨b, o, cs, e, hS, ⟨u1, u2, u3, u4, e1, k1, k2⟩, h2⟩ := h i hi
  subst e1
  have hne : b ≠ g := by
    obtain ⟨_, _, e3, _⟩ := InT.parts k1
    have z := h2 1 (by decide)
    rw [e3] at z
    exact hU.neInt z
  exact ⟨b, o, _, e, ⟨hS, hne⟩, ⟨u1, u2, u3, u4, rfl, k1.apartU hU, k2.apartU hU⟩, h2⟩
theorem MatAt.apartU {w : World} {g gm : Nat} {C : Nat → Prop} {us : List Bool} (h : MatAt w gm [] C) (hU : URow w g 4 us) : MatAt w gm [] (fun b => C b ∧ b ≠ g) := by
  obtain ⟨mb, es, cl, a, c, ps, h⟩ := h
  have hgm : gm ≠ g := by
    rintro rfl
    have h1 := h.blk
    have h2 := hU
    unfold URow at h2
    unfold Blk at h1 h2
    have := h1.symm.trans h2
    simp at this
  exact ⟨mb, es, cl, a, c, ps, { h with
    ptr := fun i hi => absurd hi (Nat.not_lt_zero i)
    cg := ⟨h.cg, hgm⟩
    cmb := ⟨h.cmb, fun e => h.map.neBlk (g := g) hU e.symm⟩
    crow := fun b q => ⟨h.crow b q, fun e => h.row.neBlk hU (by decide) (e ▸ q)⟩
    clt := fun b q => h.clt b q.1 }⟩
end Go.Proofs.Ytnmopmdpnpcdhaa
