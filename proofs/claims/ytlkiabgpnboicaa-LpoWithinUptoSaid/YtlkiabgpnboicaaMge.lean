/- The lexicographic path order of the program: the walk that remembers. -/
import Derived.Test.YtlkiabgpnboicaaMgd

namespace Go.Proofs.Ytlkiabgpnboicaa
open Go.RowKit Go

theorem lg_reasons {o : Od} {s t : T} (h : ¬ s.f < 0) : o.lg s t = ((decide (t.f < 0) && T.has t.f s) || (!decide (t.f < 0) && s.args.any (fun a => T.same a t || o.lg a t)) || (((decide ((0 : Int) ≤ t.f) && (s.f != t.f)) && decide (o.rank t.f < o.rank s.f)) && t.args.all (o.lg s)) || ((decide (s.f = t.f) && t.args.all (o.lg s)) && lexR o.lg s.args t.args)) := by
  rw [Od.lg_eq, Od.lstep, if_neg h]
  by_cases ht : t.f < 0
  · rw [if_pos ht]
    have e1 : ¬ (0 : Int) ≤ t.f := by omega
    have e2 : ¬ s.f = t.f := by omega
    simp [ht, e1, e2]
  · rw [if_neg ht]
    have e1 : (0 : Int) ≤ t.f := by omega
    by_cases e2 : s.f = t.f
    · simp [ht, e1, e2]
    · have e3 : (s.f != t.f) = true := by simpa using e2
      simp [ht, e1, e2, e3]
theorem lg_var {o : Od} {s t : T} (h : s.f < 0) : false = o.lg s t := by rw [Od.lg_eq, Od.lstep, if_pos h]
set_option maxRecDepth 100000 in
set_option maxHeartbeats 1000000 in
theorem labove_step (o : Od) (L1 L2 : List Nd) (q : LpoQ) (w0 : World) (n : Nat) (hH : LpoH o L1 L2) (hA : AboveOK o L1 L2 q w0 n) : AboveOK o L1 L2 q w0 (n + 1) := by
  intro i k w hi hk hz hst
  have hst0 := hst
  obtain ⟨hl1, hl2, hl3, hl4⟩ := hst.glt
  have hgm := hst.hgm
  refine Calls.walk (l := [.pointer (some ⟨q.gw, 0, none⟩), .int .i64 (((i : Nat) : Int)), .int .i64 (((k : Nat) : Int))]) Try.func37 rfl (by kernel_rfl) ?_
  refine WC.sub (K' := [(0, .pointer (some ⟨q.gw, 0, none⟩)), (1, .int .i64 (((i : Nat) : Int))), (2, .int .i64 (((k : Nat) : Int)))]) ⟨rfl, rfl, rfl, trivial⟩ ?_
  refine WC.seq ?_
  refine WC.region ?_
  refine WL.val (.bool false) rfl rfl rfl (fun za zC zh zk => wp_assign rfl (zh.ev rfl) zk) ?_
  refine WL.nil (WE.sub (K' := [(0, .pointer (some ⟨q.gw, 0, none⟩)), (1, .int .i64 (((i : Nat) : Int))), (2, .int .i64 (((k : Nat) : Int))), (6, .bool false)]) ⟨rfl, rfl, rfl, rfl, trivial⟩ ?_)
  refine WE.next ?_
  refine WC.seq ?_
  refine WC.region ?_
  refine WL.val (.int .i64 (((i : Nat) : Int))) rfl rfl rfl (fun za zC zh zk => wp_move rfl (zh.ev rfl) zk) ?_
  refine WL.val (.int .i64 (((k : Nat) : Int))) rfl rfl rfl (fun za zC zh zk => wp_move rfl (zh.ev rfl) zk) ?_
  refine WL.val (.agg #[.int .i64 (((i : Nat) : Int)), .int .i64 (((k : Nat) : Int))]) rfl rfl rfl (fun za zC zh zk => build_88_0_1 rfl (zh.ev rfl) (zh.ev rfl) zk) ?_
  refine WL.step (post := NewBlk w 88 #[.int .i64 0, .int .i64 0]) rfl rfl rfl (fun za zC zh zk => alloc_88 rfl (zk _ _ (newBlk _ _ _))) ?_
  rintro _ w1 ⟨g2, rfl, hg3, hB4, hb5, hz6⟩
  have hl7 : q.gw < g2 := by have z1 := hst.blk.lt; omega
  have hl8 : w0.heap.size ≤ g2 := by have z2 := (hst.below).size; omega
  have hl9 : w.heap.size ≤ g2 := by omega
  refine WL.step (post := fun _ w' => Upd g2 w1 w' ∧ Blk w' g2 88 #[.int .i64 (((i : Nat) : Int)), .int .i64 (((k : Nat) : Int))]) rfl rfl rfl (fun za zC zh zk => st_88 rfl (zh.ev rfl) (zh.ev rfl) rfl rfl hB4 (by first | decide | simp) (fun v => zk v _ ⟨(Upd.at_ _ _ _ _).trans (Upd.at_ _ _ _ _), (hB4.set_ 0 _).set_ 1 _⟩)) ?_
  rintro v13 w10 ⟨hu11, hB12⟩
  have hb14 : Below w0.heap.size w0 w1 := (bstep hst.below hb5)
  have hb15 := upd_below hb14 hu11 (by omega)
  have hb16 := upd_below hb5 hu11 (by omega)
  have hB17 := hst.blk.below hb5
  have hB18 := upd_blk hB17 hu11 (by omega)
  refine WL.nil (WE.sub (K' := [(0, .pointer (some ⟨q.gw, 0, none⟩)), (1, .int .i64 (((i : Nat) : Int))), (2, .int .i64 (((k : Nat) : Int))), (6, .bool false), (7, .pointer (some ⟨g2, 0, none⟩))]) ⟨rfl, rfl, rfl, rfl, rfl, trivial⟩ ?_)
  refine WE.next ?_
  refine WC.seq ?_
  refine WC.seq ?_
  obtain ⟨bb, ff, hbf, hlk⟩ := wp_lookup_pr (i, k) (hst.bel hb16).map
  refine WC.opt [(true, .val (.pointer (some ⟨q.gw, 0, none⟩))), (true, .val (.pointer (some ⟨q.gw, 0, none⟩))), (true, .val (.pointer (some ⟨q.gw, 6, none⟩))), (true, .val (.map ((some q.gm)))), (true, .val (.agg #[.int .i64 (((i : Nat) : Int)), .int .i64 (((k : Nat) : Int))])), (true, .val (.tuple #[.bool bb, .bool ff])), (true, .val (.tuple #[.bool bb, .bool ff])), (true, .val (.bool bb)), (true, .val (.bool ff)), (true, .val (.bool bb)), (true, .val (.bool ff))] [(0, .pointer (some ⟨q.gw, 0, none⟩)), (1, .int .i64 (((i : Nat) : Int))), (2, .int .i64 (((k : Nat) : Int))), (6, .bool false), (7, .pointer (some ⟨g2, 0, none⟩))] ⟨rfl, rfl, rfl, rfl, rfl, trivial⟩ (by kernel_rfl) (by kernel_rfl) (by kernel_rfl) ?_ ?_
  · refine ⟨⟨true, .none rfl, fun h w => optUndef h, fun zβ za zw zc => ?_⟩, ?_⟩
    · exact wp_move rfl (zc.kn.ev rfl) ⟨_, rfl, Below.refl _ _, optDef zβ rfl⟩
    refine ⟨⟨true, .none rfl, fun h w => optUndef h, fun zβ za zw zc => ?_⟩, ?_⟩
    · exact nilCheck_ rfl ((show za.eval (.tmp 17) = za.tmps.getD 17 undef from rfl).trans (optVal (zc.dep 0 17 (by kernel_rfl)) rfl rfl)) ⟨_, rfl, Below.refl _ _, optDef zβ rfl⟩
    refine ⟨⟨true, .none rfl, fun h w => optUndef h, fun zβ za zw zc => ?_⟩, ?_⟩
    · exact fld_75_3 rfl ((show za.eval (.tmp 18) = za.tmps.getD 18 undef from rfl).trans (optVal (zc.dep 1 18 (by kernel_rfl)) rfl rfl)) ⟨_, rfl, Below.refl _ _, optDef zβ rfl⟩
    refine ⟨⟨true, .none rfl, fun h w => optUndef h, fun zβ za zw zc => ?_⟩, ?_⟩
    · exact ld_73 rfl ((show za.eval (.tmp 19) = za.tmps.getD 19 undef from rfl).trans (optVal (zc.dep 2 19 (by kernel_rfl)) rfl rfl)) (bkeeps zc.below _ _ ((hB18.cell 6).trans rfl)) ⟨_, rfl, Below.refl _ _, optDef zβ rfl⟩
    refine ⟨⟨true, .none rfl, fun h w => optUndef h, fun zβ za zw zc => ?_⟩, ?_⟩
    · exact ld_88 rfl (zc.kn.ev rfl) (bkeeps zc.below _ _ ((hB12.cell 0).trans rfl)) (bkeeps zc.below _ _ ((hB12.cell 1).trans rfl)) ⟨_, rfl, Below.refl _ _, optDef zβ rfl⟩
    refine ⟨⟨true, .none rfl, fun h w => optUndef h, fun zβ za zw zc => ?_⟩, ?_⟩
    · exact hlk (zc.below.block _ (hst.bel hb16).glt.1) rfl ((show za.eval (.tmp 20) = za.tmps.getD 20 undef from rfl).trans (optVal (zc.dep 3 20 (by kernel_rfl)) rfl rfl)) ((show za.eval (.tmp 21) = za.tmps.getD 21 undef from rfl).trans (optVal (zc.dep 4 21 (by kernel_rfl)) rfl rfl)) ⟨_, rfl, Below.refl _ _, optDef zβ rfl⟩
    refine ⟨⟨true, .none rfl, fun h w => optUndef h, fun zβ za zw zc => ?_⟩, ?_⟩
    · exact wp_move rfl ((show za.eval (.tmp 22) = za.tmps.getD 22 undef from rfl).trans (optVal (zc.dep 5 22 (by kernel_rfl)) rfl rfl)) ⟨_, rfl, Below.refl _ _, optDef zβ rfl⟩
    refine ⟨⟨true, .none rfl, fun h w => optUndef h, fun zβ za zw zc => ?_⟩, ?_⟩
    · exact ext2_0 rfl ((show za.eval (.tmp 16) = za.tmps.getD 16 undef from rfl).trans (optVal (zc.dep 6 16 (by kernel_rfl)) rfl rfl)) ⟨_, rfl, Below.refl _ _, optDef zβ rfl⟩
    refine ⟨⟨true, .none rfl, fun h w => optUndef h, fun zβ za zw zc => ?_⟩, ?_⟩
    · exact ext2_1 rfl ((show za.eval (.tmp 16) = za.tmps.getD 16 undef from rfl).trans (optVal (zc.dep 6 16 (by kernel_rfl)) rfl rfl)) ⟨_, rfl, Below.refl _ _, optDef zβ rfl⟩
    refine ⟨⟨true, .none rfl, fun h w => optUndef h, fun zβ za zw zc => ?_⟩, ?_⟩
    · exact wp_assign rfl ((show za.eval (.tmp 23) = za.tmps.getD 23 undef from rfl).trans (optVal (zc.dep 7 23 (by kernel_rfl)) rfl rfl)) ⟨_, rfl, Below.refl _ _, optDef zβ rfl⟩
    refine ⟨⟨true, .none rfl, fun h w => optUndef h, fun zβ za zw zc => ?_⟩, ?_⟩
    · exact wp_assign rfl ((show za.eval (.tmp 24) = za.tmps.getD 24 undef from rfl).trans (optVal (zc.dep 8 24 (by kernel_rfl)) rfl rfl)) ⟨_, rfl, Below.refl _ _, optDef zβ rfl⟩
    exact trivial
  · intro za w19 zh hb20 zu
    have zh := zh.cons (d := 8) (v := .bool bb) (optVal (zu 9 8 (by kernel_rfl)) rfl rfl)
    have zh := zh.cons (d := 9) (v := .bool ff) (optVal (zu 10 9 (by kernel_rfl)) rfl rfl)
    clear zu
    refine (show WE _ [(0, .pointer (some ⟨q.gw, 0, none⟩)), (1, .int .i64 (((i : Nat) : Int))), (2, .int .i64 (((k : Nat) : Int))), (6, .bool false), (7, .pointer (some ⟨g2, 0, none⟩)), (8, .bool bb), (9, .bool ff)] w19 _ .normal from ?_) za (zh.sub ⟨rfl, rfl, rfl, rfl, rfl, rfl, rfl, trivial⟩)
    refine WE.next ?_
    refine WC.seq ?_
    refine WC.region ?_
    refine WL.val (.bool ff) rfl rfl rfl (fun za zC zh zk => wp_move rfl (zh.ev rfl) zk) ?_
    refine WL.nil (WE.sub (K' := [(0, .pointer (some ⟨q.gw, 0, none⟩)), (1, .int .i64 (((i : Nat) : Int))), (2, .int .i64 (((k : Nat) : Int))), (6, .bool false), (7, .pointer (some ⟨g2, 0, none⟩)), (8, .bool bb), (9, .bool ff), (25, .bool ff)]) ⟨rfl, rfl, rfl, rfl, rfl, rfl, rfl, rfl, trivial⟩ ?_)
    refine WE.next ?_
    refine WC.cond rfl (fun h21 => ?_) (fun h21 => ?_)
    · skip
      have hres : bb = o.lg (ndget L1 i).t (ndget L2 k).t := hbf h21
      refine WC.seq ?_
      refine WC.region ?_
      refine WL.val (.bool bb) rfl rfl rfl (fun za zC zh zk => wp_move rfl (zh.ev rfl) zk) ?_
      refine WL.val (.bool bb) rfl rfl rfl (fun za zC zh zk => wp_assign rfl (zh.ev rfl) zk) ?_
      refine WL.nil (WE.sub (K' := [(0, .pointer (some ⟨q.gw, 0, none⟩)), (1, .int .i64 (((i : Nat) : Int))), (2, .int .i64 (((k : Nat) : Int))), (6, .bool bb), (7, .pointer (some ⟨g2, 0, none⟩)), (8, .bool bb), (9, .bool ff), (25, .bool ff)]) ⟨rfl, rfl, rfl, rfl, rfl, rfl, rfl, rfl, trivial⟩ ?_)
      refine WE.next ?_
      refine WC.ret ?_
      refine WE.thenRet ?_
      refine WE.ret1 rfl rfl ?_
      have hb22 : Below w.heap.size w w19 := (bstep hb16 hb20)
      have hs23 : Chg ((fun b => b = q.gm)) w w19 := (Chg.trans2 (Chg.refl ((fun b => b = q.gm)) _) (Chg.ofBelow (S := fun k => k < 0) hb22) (fun i h1 h2 => by (try dsimp only at *); omega))
      exact ⟨_, rfl, congrArg Value.bool (by first | exact hres | exact lg_var (by omega)), (hst.bel hb22), hs23⟩
    · skip
      refine WC.skip ?_
      refine WE.next ?_
      refine WC.seq ?_
      refine WC.seq ?_
      refine WC.region ?_
      refine WL.val (.pointer (some ⟨q.gw, 0, none⟩)) rfl rfl rfl (fun za zC zh zk => wp_move rfl (zh.ev rfl) zk) ?_
      refine WL.val (.pointer (some ⟨q.gw, 0, none⟩)) rfl rfl rfl (fun za zC zh zk => nilCheck_ rfl (zh.ev rfl) zk) ?_
      refine WL.val (.pointer (some ⟨q.gw, 4, none⟩)) rfl rfl rfl (fun za zC zh zk => fld_75_1 rfl (zh.ev rfl) zk) ?_
      have hB24 := hB18.below hb20
      refine WL.val (.slice ((some ⟨q.b1, 0, none⟩)) L1.length q.r1) rfl rfl rfl (fun za zC zh zk => ld_71 rfl (zh.ev rfl) ((hB24.cell 4).trans rfl) zk) ?_
      refine WL.val (.int .i64 (((i : Nat) : Int))) rfl rfl rfl (fun za zC zh zk => wp_move rfl (zh.ev rfl) zk) ?_
      refine WL.val (.pointer (some ⟨q.b1, 0 + i * 3, none⟩)) rfl rfl rfl (fun za zC zh zk => ix_71 (k := i) rfl (zh.ev rfl) rfl (zh.ev rfl) (by first | omega | (simp; omega)) zk) ?_
      refine WL.val (.pointer (some ⟨q.b1, 0 + i * 3, none⟩)) rfl rfl rfl (fun za zC zh zk => fld_86_0 rfl (zh.ev rfl) zk) ?_
      refine WL.val (.pointer (some ⟨q.b1, 0 + i * 3, none⟩)) rfl rfl rfl (fun za zC zh zk => fld_27_0 rfl (zh.ev rfl) zk) ?_
      have hb25 : Below w.heap.size w w19 := (bstep hb16 hb20)
      refine WL.val (.int .i64 ((ndget L1 i).t.f)) rfl rfl rfl (fun za zC zh zk => ld_3 rfl (zh.ev rfl) ((hst.bel hb25).n1.c0 i (by first | omega | (simp; omega))) zk) ?_
      refine WL.val (.bool ((decide (((ndget L1 i).t.f : Int) < (0 : Int))))) rfl rfl rfl (fun za zC zh zk => lss_3 rfl (zh.ev rfl) (zh.ev rfl) zk) ?_
      refine WL.nil (WE.sub (K' := [(0, .pointer (some ⟨q.gw, 0, none⟩)), (1, .int .i64 (((i : Nat) : Int))), (2, .int .i64 (((k : Nat) : Int))), (6, .bool false), (7, .pointer (some ⟨g2, 0, none⟩)), (8, .bool bb), (9, .bool ff), (25, .bool ff), (36, .bool ((decide (((ndget L1 i).t.f : Int) < (0 : Int)))))]) ⟨rfl, rfl, rfl, rfl, rfl, rfl, rfl, rfl, rfl, trivial⟩ ?_)
      refine WE.next ?_
      refine WC.cond rfl (fun h26 => ?_) (fun h26 => ?_)
      · have h26 : ((ndget L1 i).t.f : Int) < (0 : Int) := by simpa using h26
        refine WC.seq ?_
        refine WC.region ?_
        refine WL.val (.bool false) rfl rfl rfl (fun za zC zh zk => wp_assign rfl (zh.ev rfl) zk) ?_
        refine WL.nil (WE.sub (K' := [(0, .pointer (some ⟨q.gw, 0, none⟩)), (1, .int .i64 (((i : Nat) : Int))), (2, .int .i64 (((k : Nat) : Int))), (6, .bool false), (7, .pointer (some ⟨g2, 0, none⟩)), (8, .bool bb), (9, .bool ff), (25, .bool ff), (36, .bool ((decide (((ndget L1 i).t.f : Int) < (0 : Int)))))]) ⟨rfl, rfl, rfl, rfl, rfl, rfl, rfl, rfl, rfl, trivial⟩ ?_)
        refine WE.next ?_
        refine WC.ret ?_
        refine WE.thenRet ?_
        refine WE.ret1 rfl rfl ?_
        have hs27 : Chg ((fun b => b = q.gm)) w w19 := (Chg.trans2 (Chg.refl ((fun b => b = q.gm)) _) (Chg.ofBelow (S := fun k => k < 0) hb25) (fun i h1 h2 => by (try dsimp only at *); omega))
        exact ⟨_, rfl, congrArg Value.bool (by first | exact hres | exact lg_var (by omega)), (hst.bel hb25), hs27⟩
      · have h26 : ¬ (((ndget L1 i).t.f : Int) < (0 : Int)) := by simpa using h26
        refine WC.skip ?_
        refine WE.next ?_
        refine WC.seq ?_
        refine WC.region ?_
        refine WL.val (.bool false) rfl rfl rfl (fun za zC zh zk => wp_assign rfl (zh.ev rfl) zk) ?_
        refine WL.nil (WE.sub (K' := [(0, .pointer (some ⟨q.gw, 0, none⟩)), (1, .int .i64 (((i : Nat) : Int))), (2, .int .i64 (((k : Nat) : Int))), (6, .bool false), (7, .pointer (some ⟨g2, 0, none⟩)), (8, .bool bb), (9, .bool ff), (10, .bool false), (25, .bool ff), (36, .bool ((decide (((ndget L1 i).t.f : Int) < (0 : Int)))))]) ⟨rfl, rfl, rfl, rfl, rfl, rfl, rfl, rfl, rfl, rfl, trivial⟩ ?_)
        refine WE.next ?_
        refine WC.seq ?_
        refine WC.seq ?_
        refine WC.region ?_
        refine WL.val (.pointer (some ⟨q.gw, 0, none⟩)) rfl rfl rfl (fun za zC zh zk => wp_move rfl (zh.ev rfl) zk) ?_
        refine WL.val (.func (Fn.func 45) #[.pointer (some ⟨q.gw, 0, none⟩)] #[]) rfl rfl rfl (fun za zC zh zk => mkfn rfl (hv1 (zh.ev rfl)) (hv0) zk) ?_
        refine WL.val (.pointer (some ⟨q.gw, 0, none⟩)) rfl rfl rfl (fun za zC zh zk => wp_move rfl (zh.ev rfl) zk) ?_
        refine WL.val (.func (Fn.func 46) #[.pointer (some ⟨q.gw, 0, none⟩)] #[]) rfl rfl rfl (fun za zC zh zk => mkfn rfl (hv1 (zh.ev rfl)) (hv0) zk) ?_
        refine WL.val (.pointer (some ⟨q.gw, 0, none⟩)) rfl rfl rfl (fun za zC zh zk => wp_move rfl (zh.ev rfl) zk) ?_
        refine WL.val (.func (Fn.func 47) #[.pointer (some ⟨q.gw, 0, none⟩)] #[]) rfl rfl rfl (fun za zC zh zk => mkfn rfl (hv1 (zh.ev rfl)) (hv0) zk) ?_
        refine WL.val (.pointer (some ⟨q.gw, 0, none⟩)) rfl rfl rfl (fun za zC zh zk => wp_move rfl (zh.ev rfl) zk) ?_
        refine WL.val (.func (Fn.func 48) #[.pointer (some ⟨q.gw, 0, none⟩)] #[]) rfl rfl rfl (fun za zC zh zk => mkfn rfl (hv1 (zh.ev rfl)) (hv0) zk) ?_
        refine WL.step (post := NewRow w19 68 #[.func (Fn.func 45) #[.pointer (some ⟨q.gw, 0, none⟩)] #[], .func (Fn.func 46) #[.pointer (some ⟨q.gw, 0, none⟩)] #[], .func (Fn.func 47) #[.pointer (some ⟨q.gw, 0, none⟩)] #[], .func (Fn.func 48) #[.pointer (some ⟨q.gw, 0, none⟩)] #[]] 4) rfl rfl rfl (fun za zC zh zk => row_90_4 rfl (zh.ev rfl) (zh.ev rfl) (zh.ev rfl) (zh.ev rfl) (zk _ _ (newRow _ _ _ _))) ?_
        rintro _ w28 ⟨g29, rfl, hg30, hB31, hb32, hz33⟩
        have hl34 : q.gw < g29 := by have z1 := hB24.lt; omega
        have hl35 : g2 < g29 := by have z1 := hB12.lt; have z2 := (hb20).size; omega
        have hb36 : Below w0.heap.size w0 w19 := (bstep hst.below hb25)
        have hl37 : w0.heap.size ≤ g29 := by have z2 := (hb36).size; omega
        have hl38 : w.heap.size ≤ g29 := by have z2 := (hb25).size; omega
        refine WL.val (.int .i64 4) rfl rfl rfl (fun za zC zh zk => len_90 rfl (zh.ev rfl) zk) ?_
        refine WL.val (.int .i64 0) rfl rfl rfl (fun za zC zh zk => wp_move rfl (zh.ev rfl) zk) ?_
        refine WL.nil (WE.sub (K' := [(0, .pointer (some ⟨q.gw, 0, none⟩)), (1, .int .i64 (((i : Nat) : Int))), (2, .int .i64 (((k : Nat) : Int))), (6, .bool false), (7, .pointer (some ⟨g2, 0, none⟩)), (8, .bool bb), (9, .bool ff), (10, .bool false), (25, .bool ff), (36, .bool ((decide (((ndget L1 i).t.f : Int) < (0 : Int))))), (45, .slice ((some ⟨g29, 0, none⟩)) 4 4), (46, .int .i64 4), (47, .int .i64 0)]) ⟨rfl, rfl, rfl, rfl, rfl, rfl, rfl, rfl, rfl, rfl, rfl, rfl, rfl, trivial⟩ ?_)
        refine WE.next ?_
        refine WC.block ?_
        refine WC.loop (X := Nat) (fun j => 4 - j) (fun j => [(0, .pointer (some ⟨q.gw, 0, none⟩)), (1, .int .i64 (((i : Nat) : Int))), (2, .int .i64 (((k : Nat) : Int))), (6, .bool false), (7, .pointer (some ⟨g2, 0, none⟩)), (8, .bool bb), (9, .bool ff), (10, .bool false), (25, .bool ff), (36, .bool ((decide (((ndget L1 i).t.f : Int) < (0 : Int))))), (45, .slice ((some ⟨g29, 0, none⟩)) 4 4), (46, .int .i64 4), (47, .int .i64 (((j : Nat) : Int)))]) (fun j w39 => (j = 0 ∨ j = 1 ∨ j = 2 ∨ j = 3 ∨ j = 4) ∧ (1 ≤ j → (decide ((ndget L2 k).t.f < 0) && T.has (ndget L2 k).t.f (ndget L1 i).t) = false) ∧ (2 ≤ j → (!decide ((ndget L2 k).t.f < 0) && (ndget L1 i).t.args.any (fun a => T.same a (ndget L2 k).t || o.lg a (ndget L2 k).t)) = false) ∧ (3 ≤ j → (((decide ((0 : Int) ≤ (ndget L2 k).t.f) && ((ndget L1 i).t.f != (ndget L2 k).t.f)) && decide (o.rank (ndget L2 k).t.f < o.rank (ndget L1 i).t.f)) && (ndget L2 k).t.args.all (o.lg (ndget L1 i).t)) = false) ∧ (4 ≤ j → ((decide ((ndget L1 i).t.f = (ndget L2 k).t.f) && (ndget L2 k).t.args.all (o.lg (ndget L1 i).t)) && lexR o.lg (ndget L1 i).t.args (ndget L2 k).t.args) = false) ∧ LpoSt o L1 L2 q w0 w39 ∧ Below w0.heap.size w0 w39 ∧ Blk w39 q.gw 75 #[.bool o.lpo, .slice q.p1 o.prec.length q.k1, .slice q.p2 o.weights.length q.k2, .int .i64 o.var, .slice ((some ⟨q.b1, 0, none⟩)) L1.length q.r1, .slice ((some ⟨q.b2, 0, none⟩)) L2.length q.r2, .map ((some q.gm))] ∧ Blk w39 g2 88 #[.int .i64 (((i : Nat) : Int)), .int .i64 (((k : Nat) : Int))] ∧ Blk w39 g29 68 #[.func (Fn.func 45) #[.pointer (some ⟨q.gw, 0, none⟩)] #[], .func (Fn.func 46) #[.pointer (some ⟨q.gw, 0, none⟩)] #[], .func (Fn.func 47) #[.pointer (some ⟨q.gw, 0, none⟩)] #[], .func (Fn.func 48) #[.pointer (some ⟨q.gw, 0, none⟩)] #[]] ∧ Chg ((fun b => b = q.gm)) w w39) 0 ⟨rfl, rfl, rfl, rfl, rfl, rfl, rfl, rfl, rfl, rfl, rfl, rfl, rfl, trivial⟩ ?_ ?_
        · have hb40 : Below w.heap.size w w28 := (bstep hb25 hb32)
          have hb41 : Below w0.heap.size w0 w28 := (bstep hst.below hb40)
          have hB42 := hB24.below hb32
          have hb44 : Below w10.heap.size w10 w28 := (bstep hb20 hb32)
          have hB43 := hB12.below hb44
          have hs45 : Chg ((fun b => b = q.gm)) w w28 := (Chg.trans2 (Chg.refl ((fun b => b = q.gm)) _) (Chg.ofBelow (S := fun k => k < 0) hb40) (fun i h1 h2 => by (try dsimp only at *); omega))
          exact ⟨(by decide), (fun z => absurd z (by decide)), (fun z => absurd z (by decide)), (fun z => absurd z (by decide)), (fun z => absurd z (by decide)), (hst.bel hb40), hb41, hB42, hB43, hB31, hs45⟩
        · rintro j w39 ⟨hj, hr1, hr2, hr3, hr4, hstl, hb46, hB47, hB48, hB49, hc50⟩
          obtain ⟨hl51, hl52, hl53, hl54⟩ := hstl.glt
          rcases hj with rfl | rfl | rfl | rfl | rfl
          · refine WC.seq ?_
            refine WC.region ?_
            refine WL.val (.bool ((decide ((0 : Int) < (4 : Int))))) rfl rfl rfl (fun za zC zh zk => lss_3 rfl (zh.ev rfl) (zh.ev rfl) zk) ?_
            refine WL.nil (WE.sub (K' := [(0, .pointer (some ⟨q.gw, 0, none⟩)), (1, .int .i64 (((i : Nat) : Int))), (2, .int .i64 (((k : Nat) : Int))), (6, .bool false), (7, .pointer (some ⟨g2, 0, none⟩)), (8, .bool bb), (9, .bool ff), (10, .bool false), (25, .bool ff), (36, .bool ((decide (((ndget L1 i).t.f : Int) < (0 : Int))))), (45, .slice ((some ⟨g29, 0, none⟩)) 4 4), (46, .int .i64 4), (47, .int .i64 0), (48, .bool ((decide ((0 : Int) < (4 : Int)))))]) ⟨rfl, rfl, rfl, rfl, rfl, rfl, rfl, rfl, rfl, rfl, rfl, rfl, rfl, rfl, trivial⟩ ?_)
            refine WE.next ?_
            refine WC.seq ?_
            refine WC.condT rfl (by decide) ?_
            refine WC.skip ?_
            refine WE.next ?_
            refine WC.seq ?_
            refine WC.block ?_
            refine WC.seq ?_
            refine WC.region ?_
            refine WL.val (.pointer (some ⟨g29, 0, none⟩)) rfl rfl rfl (fun za zC zh zk => ix_90 (k := 0) rfl (zh.ev rfl) rfl (zh.ev rfl) (by first | omega | (simp; omega)) zk) ?_
            refine WL.val (.func (Fn.func 45) #[.pointer (some ⟨q.gw, 0, none⟩)] #[]) rfl rfl rfl (fun za zC zh zk => ld_68 rfl (zh.ev rfl) ((hB49.cell 0).trans rfl) zk) ?_
            refine WL.val (.func (Fn.func 45) #[.pointer (some ⟨q.gw, 0, none⟩)] #[]) rfl rfl rfl (fun za zC zh zk => wp_assign rfl (zh.ev rfl) zk) ?_
            refine WL.nil (WE.sub (K' := [(0, .pointer (some ⟨q.gw, 0, none⟩)), (1, .int .i64 (((i : Nat) : Int))), (2, .int .i64 (((k : Nat) : Int))), (6, .bool false), (7, .pointer (some ⟨g2, 0, none⟩)), (8, .bool bb), (9, .bool ff), (10, .bool false), (12, .func (Fn.func 45) #[.pointer (some ⟨q.gw, 0, none⟩)] #[]), (25, .bool ff), (36, .bool ((decide (((ndget L1 i).t.f : Int) < (0 : Int))))), (45, .slice ((some ⟨g29, 0, none⟩)) 4 4), (46, .int .i64 4), (47, .int .i64 0), (48, .bool ((decide ((0 : Int) < (4 : Int)))))]) ⟨rfl, rfl, rfl, rfl, rfl, rfl, rfl, rfl, rfl, rfl, rfl, rfl, rfl, rfl, rfl, trivial⟩ ?_)
            refine WE.next ?_
            refine WC.seq ?_
            refine WC.region ?_
            refine WL.val (.func (Fn.func 45) #[.pointer (some ⟨q.gw, 0, none⟩)] #[]) rfl rfl rfl (fun za zC zh zk => wp_move rfl (zh.ev rfl) zk) ?_
            refine WL.val (.int .i64 (((i : Nat) : Int))) rfl rfl rfl (fun za zC zh zk => wp_move rfl (zh.ev rfl) zk) ?_
            refine WL.val (.int .i64 (((k : Nat) : Int))) rfl rfl rfl (fun za zC zh zk => wp_move rfl (zh.ev rfl) zk) ?_
            refine WL.call rfl rfl rfl (fun za zh zC => wp_callv (by kernel_rfl) rfl (zh.ev rfl) (hv2 (zh.ev rfl) (zh.ev rfl))) (lvariable_any o L1 L2 q w0 n hH hA i k _ hi hk hz hstl) ?_
            rintro _ w57 ⟨rfl, hst55, hc56⟩
            have hl58 := hB47.lt
            have hl59 := hB48.lt
            have hl60 := hB49.lt
            have hb61 := chg_below hb46 hc56 (fun b hb => (by (try dsimp only at *); omega))
            have hB62 := chg_blk hB47 hc56 (by (try dsimp only at *); omega)
            have hB63 := chg_blk hB48 hc56 (by (try dsimp only at *); omega)
            have hB64 := chg_blk hB49 hc56 (by (try dsimp only at *); omega)
            obtain ⟨hl65, hl66, hl67, hl68⟩ := hst55.glt
            refine WL.nil (WE.sub (K' := [(0, .pointer (some ⟨q.gw, 0, none⟩)), (1, .int .i64 (((i : Nat) : Int))), (2, .int .i64 (((k : Nat) : Int))), (6, .bool false), (7, .pointer (some ⟨g2, 0, none⟩)), (8, .bool bb), (9, .bool ff), (10, .bool false), (12, .func (Fn.func 45) #[.pointer (some ⟨q.gw, 0, none⟩)] #[]), (25, .bool ff), (36, .bool ((decide (((ndget L1 i).t.f : Int) < (0 : Int))))), (45, .slice ((some ⟨g29, 0, none⟩)) 4 4), (46, .int .i64 4), (47, .int .i64 0), (48, .bool ((decide ((0 : Int) < (4 : Int))))), (54, .bool ((decide ((ndget L2 k).t.f < 0) && T.has (ndget L2 k).t.f (ndget L1 i).t)))]) ⟨rfl, rfl, rfl, rfl, rfl, rfl, rfl, rfl, rfl, rfl, rfl, rfl, rfl, rfl, rfl, rfl, trivial⟩ ?_)
            refine WE.next ?_
            refine WC.cond rfl (fun h69 => ?_) (fun h69 => ?_)
            · skip
              have hres : true = o.lg (ndget L1 i).t (ndget L2 k).t := by rw [lg_reasons (by omega), show (decide ((ndget L2 k).t.f < 0) && T.has (ndget L2 k).t.f (ndget L1 i).t) = true from h69]; simp
              refine WC.seq ?_
              refine WC.region ?_
              refine WL.val (.bool true) rfl rfl rfl (fun za zC zh zk => wp_assign rfl (zh.ev rfl) zk) ?_
              refine WL.nil (WE.sub (K' := [(0, .pointer (some ⟨q.gw, 0, none⟩)), (1, .int .i64 (((i : Nat) : Int))), (2, .int .i64 (((k : Nat) : Int))), (6, .bool false), (7, .pointer (some ⟨g2, 0, none⟩)), (8, .bool bb), (9, .bool ff), (10, .bool true), (12, .func (Fn.func 45) #[.pointer (some ⟨q.gw, 0, none⟩)] #[]), (25, .bool ff), (36, .bool ((decide (((ndget L1 i).t.f : Int) < (0 : Int))))), (45, .slice ((some ⟨g29, 0, none⟩)) 4 4), (46, .int .i64 4), (47, .int .i64 0), (48, .bool ((decide ((0 : Int) < (4 : Int))))), (54, .bool ((decide ((ndget L2 k).t.f < 0) && T.has (ndget L2 k).t.f (ndget L1 i).t)))]) ⟨rfl, rfl, rfl, rfl, rfl, rfl, rfl, rfl, rfl, rfl, rfl, rfl, rfl, rfl, rfl, rfl, trivial⟩ ?_)
              refine WE.next ?_
              refine WC.exit ?_
              refine WE.blockNot rfl ?_
              refine WE.thenExit ?_
              refine WE.thenExit ?_
              refine WE.blockIs rfl ?_
              refine WE.next ?_
              refine WC.seq ?_
              refine WC.optc [(true, .pointer (some ⟨q.gw, 0, none⟩)), (true, .pointer (some ⟨q.gw, 0, none⟩)), (true, .pointer (some ⟨q.gw, 6, none⟩)), (true, .map ((some q.gm))), (true, .agg #[.int .i64 (((i : Nat) : Int)), .int .i64 (((k : Nat) : Int))]), (true, .bool true), (true, undef)] [(0, .pointer (some ⟨q.gw, 0, none⟩)), (1, .int .i64 (((i : Nat) : Int))), (2, .int .i64 (((k : Nat) : Int))), (6, .bool false), (7, .pointer (some ⟨g2, 0, none⟩)), (8, .bool bb), (9, .bool ff), (10, .bool true), (12, .func (Fn.func 45) #[.pointer (some ⟨q.gw, 0, none⟩)] #[]), (25, .bool ff), (36, .bool ((decide (((ndget L1 i).t.f : Int) < (0 : Int))))), (45, .slice ((some ⟨g29, 0, none⟩)) 4 4), (46, .int .i64 4), (47, .int .i64 0), (48, .bool ((decide ((0 : Int) < (4 : Int))))), (54, .bool ((decide ((ndget L2 k).t.f < 0) && T.has (ndget L2 k).t.f (ndget L1 i).t)))] (S := (fun b => b = q.gm)) (I := (LpoSt o L1 L2 q w0)) (fun _ _ hb h => h.bel hb) hst55 ⟨rfl, rfl, rfl, rfl, rfl, rfl, rfl, rfl, rfl, rfl, rfl, rfl, rfl, rfl, rfl, rfl, trivial⟩ (by kernel_rfl) (by kernel_rfl) (by kernel_rfl) ?_ ?_
              · refine ⟨⟨true, .none rfl, fun h => optUndef h, fun zβ za zw zc => ?_⟩, ?_⟩
                · exact wp_move rfl (zc.kn.ev rfl) ⟨_, rfl, zc.chg, zc.inv, optDef zβ rfl⟩
                refine ⟨⟨true, .none rfl, fun h => optUndef h, fun zβ za zw zc => ?_⟩, ?_⟩
                · exact nilCheck_ rfl ((show za.eval (.tmp 56) = za.tmps.getD 56 undef from rfl).trans (valVal (zc.dep 0 56 (by kernel_rfl)) rfl rfl)) ⟨_, rfl, zc.chg, zc.inv, optDef zβ rfl⟩
                refine ⟨⟨true, .none rfl, fun h => optUndef h, fun zβ za zw zc => ?_⟩, ?_⟩
                · exact fld_75_3 rfl ((show za.eval (.tmp 57) = za.tmps.getD 57 undef from rfl).trans (valVal (zc.dep 1 57 (by kernel_rfl)) rfl rfl)) ⟨_, rfl, zc.chg, zc.inv, optDef zβ rfl⟩
                refine ⟨⟨true, .none rfl, fun h => optUndef h, fun zβ za zw zc => ?_⟩, ?_⟩
                · exact ld_73 rfl ((show za.eval (.tmp 58) = za.tmps.getD 58 undef from rfl).trans (valVal (zc.dep 2 58 (by kernel_rfl)) rfl rfl)) (chg_cell zc.chg (by (try dsimp only at *); omega) ((hB62.cell 6).trans rfl)) ⟨_, rfl, zc.chg, zc.inv, optDef zβ rfl⟩
                refine ⟨⟨true, .none rfl, fun h => optUndef h, fun zβ za zw zc => ?_⟩, ?_⟩
                · exact ld_88 rfl (zc.kn.ev rfl) (chg_cell zc.chg (by (try dsimp only at *); omega) ((hB63.cell 0).trans rfl)) (chg_cell zc.chg (by (try dsimp only at *); omega) ((hB63.cell 1).trans rfl)) ⟨_, rfl, zc.chg, zc.inv, optDef zβ rfl⟩
                refine ⟨⟨true, .none rfl, fun h => optUndef h, fun zβ za zw zc => ?_⟩, ?_⟩
                · exact wp_move rfl (zc.kn.ev rfl) ⟨_, rfl, zc.chg, zc.inv, optDef zβ rfl⟩
                refine ⟨⟨true, .none rfl, fun h => optUndef h, fun zβ za zw zc => ?_⟩, ?_⟩
                · exact wp_mapUpdate_pr (s := (i, k)) rfl ((show za.eval (.tmp 59) = za.tmps.getD 59 undef from rfl).trans (valVal (zc.dep 3 59 (by kernel_rfl)) rfl rfl)) ((show za.eval (.tmp 60) = za.tmps.getD 60 undef from rfl).trans (valVal (zc.dep 4 60 (by kernel_rfl)) rfl rfl)) ((show za.eval (.tmp 61) = za.tmps.getD 61 undef from rfl).trans (valVal (zc.dep 5 61 (by kernel_rfl)) rfl rfl)) zc.inv.map hres (fun w' hm hu => ⟨_, rfl, zc.chg.trans (.ofUpd hu rfl), zc.inv.step (.ofUpd hu rfl) hm, optDef zβ rfl⟩)
                exact trivial
              · intro za w70 zh hb71 hst72 zu
                have hl73 := hB62.lt
                have hl74 := hB63.lt
                have hl75 := hB64.lt
                have hb76 := chg_below hb61 hb71 (fun b hb => (by (try dsimp only at *); omega))
                have hB77 := chg_blk hB62 hb71 (by (try dsimp only at *); omega)
                have hB78 := chg_blk hB63 hb71 (by (try dsimp only at *); omega)
                have hB79 := chg_blk hB64 hb71 (by (try dsimp only at *); omega)
                obtain ⟨hl80, hl81, hl82, hl83⟩ := hst72.glt
                clear zu
                refine (show WE _ [(0, .pointer (some ⟨q.gw, 0, none⟩)), (1, .int .i64 (((i : Nat) : Int))), (2, .int .i64 (((k : Nat) : Int))), (6, .bool false), (7, .pointer (some ⟨g2, 0, none⟩)), (8, .bool bb), (9, .bool ff), (10, .bool true), (12, .func (Fn.func 45) #[.pointer (some ⟨q.gw, 0, none⟩)] #[]), (25, .bool ff), (36, .bool ((decide (((ndget L1 i).t.f : Int) < (0 : Int))))), (45, .slice ((some ⟨g29, 0, none⟩)) 4 4), (46, .int .i64 4), (47, .int .i64 0), (48, .bool ((decide ((0 : Int) < (4 : Int))))), (54, .bool ((decide ((ndget L2 k).t.f < 0) && T.has (ndget L2 k).t.f (ndget L1 i).t)))] w70 _ .normal from ?_) za (zh.sub ⟨rfl, rfl, rfl, rfl, rfl, rfl, rfl, rfl, rfl, rfl, rfl, rfl, rfl, rfl, rfl, rfl, trivial⟩)
                refine WE.next ?_
                refine WC.seq ?_
                refine WC.region ?_
                refine WL.val (.bool true) rfl rfl rfl (fun za zC zh zk => wp_move rfl (zh.ev rfl) zk) ?_
                refine WL.val (.bool true) rfl rfl rfl (fun za zC zh zk => wp_assign rfl (zh.ev rfl) zk) ?_
                refine WL.nil (WE.sub (K' := [(0, .pointer (some ⟨q.gw, 0, none⟩)), (1, .int .i64 (((i : Nat) : Int))), (2, .int .i64 (((k : Nat) : Int))), (6, .bool true), (7, .pointer (some ⟨g2, 0, none⟩)), (8, .bool bb), (9, .bool ff), (10, .bool true), (12, .func (Fn.func 45) #[.pointer (some ⟨q.gw, 0, none⟩)] #[]), (25, .bool ff), (36, .bool ((decide (((ndget L1 i).t.f : Int) < (0 : Int))))), (45, .slice ((some ⟨g29, 0, none⟩)) 4 4), (46, .int .i64 4), (47, .int .i64 0), (48, .bool ((decide ((0 : Int) < (4 : Int))))), (54, .bool ((decide ((ndget L2 k).t.f < 0) && T.has (ndget L2 k).t.f (ndget L1 i).t)))]) ⟨rfl, rfl, rfl, rfl, rfl, rfl, rfl, rfl, rfl, rfl, rfl, rfl, rfl, rfl, rfl, rfl, trivial⟩ ?_)
                refine WE.next ?_
                refine WC.ret ?_
                refine WE.ret1 rfl rfl ?_
                have hs84 : Chg ((fun b => b = q.gm)) w w70 := (Chg.trans2 (Chg.trans2 (Chg.trans2 (Chg.refl ((fun b => b = q.gm)) _) hc50 (fun i h1 h2 => by (try dsimp only at *); omega)) hc56 (fun i h1 h2 => by (try dsimp only at *); omega)) hb71 (fun i h1 h2 => by (try dsimp only at *); omega))
                exact ⟨_, rfl, congrArg Value.bool (by first | exact hres | exact lg_var (by omega)), hst72, hs84⟩
            · skip
              refine WC.skip ?_
              refine WE.blockNormal ?_
              refine WE.next ?_
              refine WC.region ?_
              refine WL.val (.int .i64 1) rfl rfl rfl (fun za zC zh zk => addb_3 rfl (zh.ev rfl) (zh.ev rfl) (wrap_eq (by omega) (by omega) (by omega)) zk) ?_
              refine WL.val (.int .i64 1) rfl rfl rfl (fun za zC zh zk => wp_move rfl (zh.ev rfl) zk) ?_
              refine WL.nil (WE.sub (K' := [(0, .pointer (some ⟨q.gw, 0, none⟩)), (1, .int .i64 (((i : Nat) : Int))), (2, .int .i64 (((k : Nat) : Int))), (6, .bool false), (7, .pointer (some ⟨g2, 0, none⟩)), (8, .bool bb), (9, .bool ff), (10, .bool false), (12, .func (Fn.func 45) #[.pointer (some ⟨q.gw, 0, none⟩)] #[]), (25, .bool ff), (36, .bool ((decide (((ndget L1 i).t.f : Int) < (0 : Int))))), (45, .slice ((some ⟨g29, 0, none⟩)) 4 4), (46, .int .i64 4), (47, .int .i64 1), (48, .bool ((decide ((0 : Int) < (4 : Int))))), (54, .bool ((decide ((ndget L2 k).t.f < 0) && T.has (ndget L2 k).t.f (ndget L1 i).t)))]) ⟨rfl, rfl, rfl, rfl, rfl, rfl, rfl, rfl, rfl, rfl, rfl, rfl, rfl, rfl, rfl, rfl, trivial⟩ ?_)
              refine WE.round 1 ⟨rfl, rfl, rfl, rfl, rfl, rfl, rfl, rfl, rfl, rfl, rfl, rfl, rfl, trivial⟩ ?_ ?_
              · have hs85 : Chg ((fun b => b = q.gm)) w w57 := (Chg.trans2 (Chg.trans2 (Chg.refl ((fun b => b = q.gm)) _) hc50 (fun i h1 h2 => by (try dsimp only at *); omega)) hc56 (fun i h1 h2 => by (try dsimp only at *); omega))
                exact ⟨(by decide), (fun _ => h69), (fun z => absurd z (by decide)), (fun z => absurd z (by decide)), (fun z => absurd z (by decide)), hst55, hb61, hB62, hB63, hB64, hs85⟩
              · omega
          · refine WC.seq ?_
            refine WC.region ?_
            refine WL.val (.bool ((decide ((1 : Int) < (4 : Int))))) rfl rfl rfl (fun za zC zh zk => lss_3 rfl (zh.ev rfl) (zh.ev rfl) zk) ?_
            refine WL.nil (WE.sub (K' := [(0, .pointer (some ⟨q.gw, 0, none⟩)), (1, .int .i64 (((i : Nat) : Int))), (2, .int .i64 (((k : Nat) : Int))), (6, .bool false), (7, .pointer (some ⟨g2, 0, none⟩)), (8, .bool bb), (9, .bool ff), (10, .bool false), (25, .bool ff), (36, .bool ((decide (((ndget L1 i).t.f : Int) < (0 : Int))))), (45, .slice ((some ⟨g29, 0, none⟩)) 4 4), (46, .int .i64 4), (47, .int .i64 1), (48, .bool ((decide ((1 : Int) < (4 : Int)))))]) ⟨rfl, rfl, rfl, rfl, rfl, rfl, rfl, rfl, rfl, rfl, rfl, rfl, rfl, rfl, trivial⟩ ?_)
            refine WE.next ?_
            refine WC.seq ?_
            refine WC.condT rfl (by decide) ?_
            refine WC.skip ?_
            refine WE.next ?_
            refine WC.seq ?_
            refine WC.block ?_
            refine WC.seq ?_
            refine WC.region ?_
            refine WL.val (.pointer (some ⟨g29, 1, none⟩)) rfl rfl rfl (fun za zC zh zk => ix_90 (k := 1) rfl (zh.ev rfl) rfl (zh.ev rfl) (by first | omega | (simp; omega)) zk) ?_
            refine WL.val (.func (Fn.func 46) #[.pointer (some ⟨q.gw, 0, none⟩)] #[]) rfl rfl rfl (fun za zC zh zk => ld_68 rfl (zh.ev rfl) ((hB49.cell 1).trans rfl) zk) ?_
            refine WL.val (.func (Fn.func 46) #[.pointer (some ⟨q.gw, 0, none⟩)] #[]) rfl rfl rfl (fun za zC zh zk => wp_assign rfl (zh.ev rfl) zk) ?_
            refine WL.nil (WE.sub (K' := [(0, .pointer (some ⟨q.gw, 0, none⟩)), (1, .int .i64 (((i : Nat) : Int))), (2, .int .i64 (((k : Nat) : Int))), (6, .bool false), (7, .pointer (some ⟨g2, 0, none⟩)), (8, .bool bb), (9, .bool ff), (10, .bool false), (12, .func (Fn.func 46) #[.pointer (some ⟨q.gw, 0, none⟩)] #[]), (25, .bool ff), (36, .bool ((decide (((ndget L1 i).t.f : Int) < (0 : Int))))), (45, .slice ((some ⟨g29, 0, none⟩)) 4 4), (46, .int .i64 4), (47, .int .i64 1), (48, .bool ((decide ((1 : Int) < (4 : Int)))))]) ⟨rfl, rfl, rfl, rfl, rfl, rfl, rfl, rfl, rfl, rfl, rfl, rfl, rfl, rfl, rfl, trivial⟩ ?_)
            refine WE.next ?_
            refine WC.seq ?_
            refine WC.region ?_
            refine WL.val (.func (Fn.func 46) #[.pointer (some ⟨q.gw, 0, none⟩)] #[]) rfl rfl rfl (fun za zC zh zk => wp_move rfl (zh.ev rfl) zk) ?_
            refine WL.val (.int .i64 (((i : Nat) : Int))) rfl rfl rfl (fun za zC zh zk => wp_move rfl (zh.ev rfl) zk) ?_
            refine WL.val (.int .i64 (((k : Nat) : Int))) rfl rfl rfl (fun za zC zh zk => wp_move rfl (zh.ev rfl) zk) ?_
            refine WL.call rfl rfl rfl (fun za zh zC => wp_callv (by kernel_rfl) rfl (zh.ev rfl) (hv2 (zh.ev rfl) (zh.ev rfl))) (lwithin_any o L1 L2 q w0 n hH hA i k _ hi hk hz hstl) ?_
            rintro _ w88 ⟨rfl, hst86, hc87⟩
            have hl89 := hB47.lt
            have hl90 := hB48.lt
            have hl91 := hB49.lt
            have hb92 := chg_below hb46 hc87 (fun b hb => (by (try dsimp only at *); omega))
            have hB93 := chg_blk hB47 hc87 (by (try dsimp only at *); omega)
            have hB94 := chg_blk hB48 hc87 (by (try dsimp only at *); omega)
            have hB95 := chg_blk hB49 hc87 (by (try dsimp only at *); omega)
            obtain ⟨hl96, hl97, hl98, hl99⟩ := hst86.glt
            refine WL.nil (WE.sub (K' := [(0, .pointer (some ⟨q.gw, 0, none⟩)), (1, .int .i64 (((i : Nat) : Int))), (2, .int .i64 (((k : Nat) : Int))), (6, .bool false), (7, .pointer (some ⟨g2, 0, none⟩)), (8, .bool bb), (9, .bool ff), (10, .bool false), (12, .func (Fn.func 46) #[.pointer (some ⟨q.gw, 0, none⟩)] #[]), (25, .bool ff), (36, .bool ((decide (((ndget L1 i).t.f : Int) < (0 : Int))))), (45, .slice ((some ⟨g29, 0, none⟩)) 4 4), (46, .int .i64 4), (47, .int .i64 1), (48, .bool ((decide ((1 : Int) < (4 : Int))))), (54, .bool ((!decide ((ndget L2 k).t.f < 0) && (ndget L1 i).t.args.any (fun a => T.same a (ndget L2 k).t || o.lg a (ndget L2 k).t))))]) ⟨rfl, rfl, rfl, rfl, rfl, rfl, rfl, rfl, rfl, rfl, rfl, rfl, rfl, rfl, rfl, rfl, trivial⟩ ?_)
            refine WE.next ?_
            refine WC.cond rfl (fun h100 => ?_) (fun h100 => ?_)
            · skip
              have hres : true = o.lg (ndget L1 i).t (ndget L2 k).t := by rw [lg_reasons (by omega), show (!decide ((ndget L2 k).t.f < 0) && (ndget L1 i).t.args.any (fun a => T.same a (ndget L2 k).t || o.lg a (ndget L2 k).t)) = true from h100]; simp
              refine WC.seq ?_
              refine WC.region ?_
              refine WL.val (.bool true) rfl rfl rfl (fun za zC zh zk => wp_assign rfl (zh.ev rfl) zk) ?_
              refine WL.nil (WE.sub (K' := [(0, .pointer (some ⟨q.gw, 0, none⟩)), (1, .int .i64 (((i : Nat) : Int))), (2, .int .i64 (((k : Nat) : Int))), (6, .bool false), (7, .pointer (some ⟨g2, 0, none⟩)), (8, .bool bb), (9, .bool ff), (10, .bool true), (12, .func (Fn.func 46) #[.pointer (some ⟨q.gw, 0, none⟩)] #[]), (25, .bool ff), (36, .bool ((decide (((ndget L1 i).t.f : Int) < (0 : Int))))), (45, .slice ((some ⟨g29, 0, none⟩)) 4 4), (46, .int .i64 4), (47, .int .i64 1), (48, .bool ((decide ((1 : Int) < (4 : Int))))), (54, .bool ((!decide ((ndget L2 k).t.f < 0) && (ndget L1 i).t.args.any (fun a => T.same a (ndget L2 k).t || o.lg a (ndget L2 k).t))))]) ⟨rfl, rfl, rfl, rfl, rfl, rfl, rfl, rfl, rfl, rfl, rfl, rfl, rfl, rfl, rfl, rfl, trivial⟩ ?_)
              refine WE.next ?_
              refine WC.exit ?_
              refine WE.blockNot rfl ?_
              refine WE.thenExit ?_
              refine WE.thenExit ?_
              refine WE.blockIs rfl ?_
              refine WE.next ?_
              refine WC.seq ?_
              refine WC.optc [(true, .pointer (some ⟨q.gw, 0, none⟩)), (true, .pointer (some ⟨q.gw, 0, none⟩)), (true, .pointer (some ⟨q.gw, 6, none⟩)), (true, .map ((some q.gm))), (true, .agg #[.int .i64 (((i : Nat) : Int)), .int .i64 (((k : Nat) : Int))]), (true, .bool true), (true, undef)] [(0, .pointer (some ⟨q.gw, 0, none⟩)), (1, .int .i64 (((i : Nat) : Int))), (2, .int .i64 (((k : Nat) : Int))), (6, .bool false), (7, .pointer (some ⟨g2, 0, none⟩)), (8, .bool bb), (9, .bool ff), (10, .bool true), (12, .func (Fn.func 46) #[.pointer (some ⟨q.gw, 0, none⟩)] #[]), (25, .bool ff), (36, .bool ((decide (((ndget L1 i).t.f : Int) < (0 : Int))))), (45, .slice ((some ⟨g29, 0, none⟩)) 4 4), (46, .int .i64 4), (47, .int .i64 1), (48, .bool ((decide ((1 : Int) < (4 : Int))))), (54, .bool ((!decide ((ndget L2 k).t.f < 0) && (ndget L1 i).t.args.any (fun a => T.same a (ndget L2 k).t || o.lg a (ndget L2 k).t))))] (S := (fun b => b = q.gm)) (I := (LpoSt o L1 L2 q w0)) (fun _ _ hb h => h.bel hb) hst86 ⟨rfl, rfl, rfl, rfl, rfl, rfl, rfl, rfl, rfl, rfl, rfl, rfl, rfl, rfl, rfl, rfl, trivial⟩ (by kernel_rfl) (by kernel_rfl) (by kernel_rfl) ?_ ?_
              · refine ⟨⟨true, .none rfl, fun h => optUndef h, fun zβ za zw zc => ?_⟩, ?_⟩
                · exact wp_move rfl (zc.kn.ev rfl) ⟨_, rfl, zc.chg, zc.inv, optDef zβ rfl⟩
                refine ⟨⟨true, .none rfl, fun h => optUndef h, fun zβ za zw zc => ?_⟩, ?_⟩
                · exact nilCheck_ rfl ((show za.eval (.tmp 56) = za.tmps.getD 56 undef from rfl).trans (valVal (zc.dep 0 56 (by kernel_rfl)) rfl rfl)) ⟨_, rfl, zc.chg, zc.inv, optDef zβ rfl⟩
                refine ⟨⟨true, .none rfl, fun h => optUndef h, fun zβ za zw zc => ?_⟩, ?_⟩
                · exact fld_75_3 rfl ((show za.eval (.tmp 57) = za.tmps.getD 57 undef from rfl).trans (valVal (zc.dep 1 57 (by kernel_rfl)) rfl rfl)) ⟨_, rfl, zc.chg, zc.inv, optDef zβ rfl⟩
                refine ⟨⟨true, .none rfl, fun h => optUndef h, fun zβ za zw zc => ?_⟩, ?_⟩
                · exact ld_73 rfl ((show za.eval (.tmp 58) = za.tmps.getD 58 undef from rfl).trans (valVal (zc.dep 2 58 (by kernel_rfl)) rfl rfl)) (chg_cell zc.chg (by (try dsimp only at *); omega) ((hB93.cell 6).trans rfl)) ⟨_, rfl, zc.chg, zc.inv, optDef zβ rfl⟩
                refine ⟨⟨true, .none rfl, fun h => optUndef h, fun zβ za zw zc => ?_⟩, ?_⟩
                · exact ld_88 rfl (zc.kn.ev rfl) (chg_cell zc.chg (by (try dsimp only at *); omega) ((hB94.cell 0).trans rfl)) (chg_cell zc.chg (by (try dsimp only at *); omega) ((hB94.cell 1).trans rfl)) ⟨_, rfl, zc.chg, zc.inv, optDef zβ rfl⟩
                refine ⟨⟨true, .none rfl, fun h => optUndef h, fun zβ za zw zc => ?_⟩, ?_⟩
                · exact wp_move rfl (zc.kn.ev rfl) ⟨_, rfl, zc.chg, zc.inv, optDef zβ rfl⟩
                refine ⟨⟨true, .none rfl, fun h => optUndef h, fun zβ za zw zc => ?_⟩, ?_⟩
                · exact wp_mapUpdate_pr (s := (i, k)) rfl ((show za.eval (.tmp 59) = za.tmps.getD 59 undef from rfl).trans (valVal (zc.dep 3 59 (by kernel_rfl)) rfl rfl)) ((show za.eval (.tmp 60) = za.tmps.getD 60 undef from rfl).trans (valVal (zc.dep 4 60 (by kernel_rfl)) rfl rfl)) ((show za.eval (.tmp 61) = za.tmps.getD 61 undef from rfl).trans (valVal (zc.dep 5 61 (by kernel_rfl)) rfl rfl)) zc.inv.map hres (fun w' hm hu => ⟨_, rfl, zc.chg.trans (.ofUpd hu rfl), zc.inv.step (.ofUpd hu rfl) hm, optDef zβ rfl⟩)
                exact trivial
              · intro za w101 zh hb102 hst103 zu
                have hl104 := hB93.lt
                have hl105 := hB94.lt
                have hl106 := hB95.lt
                have hb107 := chg_below hb92 hb102 (fun b hb => (by (try dsimp only at *); omega))
                have hB108 := chg_blk hB93 hb102 (by (try dsimp only at *); omega)
                have hB109 := chg_blk hB94 hb102 (by (try dsimp only at *); omega)
                have hB110 := chg_blk hB95 hb102 (by (try dsimp only at *); omega)
                obtain ⟨hl111, hl112, hl113, hl114⟩ := hst103.glt
                clear zu
                refine (show WE _ [(0, .pointer (some ⟨q.gw, 0, none⟩)), (1, .int .i64 (((i : Nat) : Int))), (2, .int .i64 (((k : Nat) : Int))), (6, .bool false), (7, .pointer (some ⟨g2, 0, none⟩)), (8, .bool bb), (9, .bool ff), (10, .bool true), (12, .func (Fn.func 46) #[.pointer (some ⟨q.gw, 0, none⟩)] #[]), (25, .bool ff), (36, .bool ((decide (((ndget L1 i).t.f : Int) < (0 : Int))))), (45, .slice ((some ⟨g29, 0, none⟩)) 4 4), (46, .int .i64 4), (47, .int .i64 1), (48, .bool ((decide ((1 : Int) < (4 : Int))))), (54, .bool ((!decide ((ndget L2 k).t.f < 0) && (ndget L1 i).t.args.any (fun a => T.same a (ndget L2 k).t || o.lg a (ndget L2 k).t))))] w101 _ .normal from ?_) za (zh.sub ⟨rfl, rfl, rfl, rfl, rfl, rfl, rfl, rfl, rfl, rfl, rfl, rfl, rfl, rfl, rfl, rfl, trivial⟩)
                refine WE.next ?_
                refine WC.seq ?_
                refine WC.region ?_
                refine WL.val (.bool true) rfl rfl rfl (fun za zC zh zk => wp_move rfl (zh.ev rfl) zk) ?_
                refine WL.val (.bool true) rfl rfl rfl (fun za zC zh zk => wp_assign rfl (zh.ev rfl) zk) ?_
                refine WL.nil (WE.sub (K' := [(0, .pointer (some ⟨q.gw, 0, none⟩)), (1, .int .i64 (((i : Nat) : Int))), (2, .int .i64 (((k : Nat) : Int))), (6, .bool true), (7, .pointer (some ⟨g2, 0, none⟩)), (8, .bool bb), (9, .bool ff), (10, .bool true), (12, .func (Fn.func 46) #[.pointer (some ⟨q.gw, 0, none⟩)] #[]), (25, .bool ff), (36, .bool ((decide (((ndget L1 i).t.f : Int) < (0 : Int))))), (45, .slice ((some ⟨g29, 0, none⟩)) 4 4), (46, .int .i64 4), (47, .int .i64 1), (48, .bool ((decide ((1 : Int) < (4 : Int))))), (54, .bool ((!decide ((ndget L2 k).t.f < 0) && (ndget L1 i).t.args.any (fun a => T.same a (ndget L2 k).t || o.lg a (ndget L2 k).t))))]) ⟨rfl, rfl, rfl, rfl, rfl, rfl, rfl, rfl, rfl, rfl, rfl, rfl, rfl, rfl, rfl, rfl, trivial⟩ ?_)
                refine WE.next ?_
                refine WC.ret ?_
                refine WE.ret1 rfl rfl ?_
                have hs115 : Chg ((fun b => b = q.gm)) w w101 := (Chg.trans2 (Chg.trans2 (Chg.trans2 (Chg.refl ((fun b => b = q.gm)) _) hc50 (fun i h1 h2 => by (try dsimp only at *); omega)) hc87 (fun i h1 h2 => by (try dsimp only at *); omega)) hb102 (fun i h1 h2 => by (try dsimp only at *); omega))
                exact ⟨_, rfl, congrArg Value.bool (by first | exact hres | exact lg_var (by omega)), hst103, hs115⟩
            · skip
              refine WC.skip ?_
              refine WE.blockNormal ?_
              refine WE.next ?_
              refine WC.region ?_
              refine WL.val (.int .i64 2) rfl rfl rfl (fun za zC zh zk => addb_3 rfl (zh.ev rfl) (zh.ev rfl) (wrap_eq (by omega) (by omega) (by omega)) zk) ?_
              refine WL.val (.int .i64 2) rfl rfl rfl (fun za zC zh zk => wp_move rfl (zh.ev rfl) zk) ?_
              refine WL.nil (WE.sub (K' := [(0, .pointer (some ⟨q.gw, 0, none⟩)), (1, .int .i64 (((i : Nat) : Int))), (2, .int .i64 (((k : Nat) : Int))), (6, .bool false), (7, .pointer (some ⟨g2, 0, none⟩)), (8, .bool bb), (9, .bool ff), (10, .bool false), (12, .func (Fn.func 46) #[.pointer (some ⟨q.gw, 0, none⟩)] #[]), (25, .bool ff), (36, .bool ((decide (((ndget L1 i).t.f : Int) < (0 : Int))))), (45, .slice ((some ⟨g29, 0, none⟩)) 4 4), (46, .int .i64 4), (47, .int .i64 2), (48, .bool ((decide ((1 : Int) < (4 : Int))))), (54, .bool ((!decide ((ndget L2 k).t.f < 0) && (ndget L1 i).t.args.any (fun a => T.same a (ndget L2 k).t || o.lg a (ndget L2 k).t))))]) ⟨rfl, rfl, rfl, rfl, rfl, rfl, rfl, rfl, rfl, rfl, rfl, rfl, rfl, rfl, rfl, rfl, trivial⟩ ?_)
              refine WE.round 2 ⟨rfl, rfl, rfl, rfl, rfl, rfl, rfl, rfl, rfl, rfl, rfl, rfl, rfl, trivial⟩ ?_ ?_
              · have hs116 : Chg ((fun b => b = q.gm)) w w88 := (Chg.trans2 (Chg.trans2 (Chg.refl ((fun b => b = q.gm)) _) hc50 (fun i h1 h2 => by (try dsimp only at *); omega)) hc87 (fun i h1 h2 => by (try dsimp only at *); omega))
                exact ⟨(by decide), (fun z => hr1 (by omega)), (fun _ => h100), (fun z => absurd z (by decide)), (fun z => absurd z (by decide)), hst86, hb92, hB93, hB94, hB95, hs116⟩
              · omega
          · refine WC.seq ?_
            refine WC.region ?_
            refine WL.val (.bool ((decide ((2 : Int) < (4 : Int))))) rfl rfl rfl (fun za zC zh zk => lss_3 rfl (zh.ev rfl) (zh.ev rfl) zk) ?_
            refine WL.nil (WE.sub (K' := [(0, .pointer (some ⟨q.gw, 0, none⟩)), (1, .int .i64 (((i : Nat) : Int))), (2, .int .i64 (((k : Nat) : Int))), (6, .bool false), (7, .pointer (some ⟨g2, 0, none⟩)), (8, .bool bb), (9, .bool ff), (10, .bool false), (25, .bool ff), (36, .bool ((decide (((ndget L1 i).t.f : Int) < (0 : Int))))), (45, .slice ((some ⟨g29, 0, none⟩)) 4 4), (46, .int .i64 4), (47, .int .i64 2), (48, .bool ((decide ((2 : Int) < (4 : Int)))))]) ⟨rfl, rfl, rfl, rfl, rfl, rfl, rfl, rfl, rfl, rfl, rfl, rfl, rfl, rfl, trivial⟩ ?_)
            refine WE.next ?_
            refine WC.seq ?_
            refine WC.condT rfl (by decide) ?_
            refine WC.skip ?_
            refine WE.next ?_
            refine WC.seq ?_
            refine WC.block ?_
            refine WC.seq ?_
            refine WC.region ?_
            refine WL.val (.pointer (some ⟨g29, 2, none⟩)) rfl rfl rfl (fun za zC zh zk => ix_90 (k := 2) rfl (zh.ev rfl) rfl (zh.ev rfl) (by first | omega | (simp; omega)) zk) ?_
            refine WL.val (.func (Fn.func 47) #[.pointer (some ⟨q.gw, 0, none⟩)] #[]) rfl rfl rfl (fun za zC zh zk => ld_68 rfl (zh.ev rfl) ((hB49.cell 2).trans rfl) zk) ?_
            refine WL.val (.func (Fn.func 47) #[.pointer (some ⟨q.gw, 0, none⟩)] #[]) rfl rfl rfl (fun za zC zh zk => wp_assign rfl (zh.ev rfl) zk) ?_
            refine WL.nil (WE.sub (K' := [(0, .pointer (some ⟨q.gw, 0, none⟩)), (1, .int .i64 (((i : Nat) : Int))), (2, .int .i64 (((k : Nat) : Int))), (6, .bool false), (7, .pointer (some ⟨g2, 0, none⟩)), (8, .bool bb), (9, .bool ff), (10, .bool false), (12, .func (Fn.func 47) #[.pointer (some ⟨q.gw, 0, none⟩)] #[]), (25, .bool ff), (36, .bool ((decide (((ndget L1 i).t.f : Int) < (0 : Int))))), (45, .slice ((some ⟨g29, 0, none⟩)) 4 4), (46, .int .i64 4), (47, .int .i64 2), (48, .bool ((decide ((2 : Int) < (4 : Int)))))]) ⟨rfl, rfl, rfl, rfl, rfl, rfl, rfl, rfl, rfl, rfl, rfl, rfl, rfl, rfl, rfl, trivial⟩ ?_)
            refine WE.next ?_
            refine WC.seq ?_
            refine WC.region ?_
            refine WL.val (.func (Fn.func 47) #[.pointer (some ⟨q.gw, 0, none⟩)] #[]) rfl rfl rfl (fun za zC zh zk => wp_move rfl (zh.ev rfl) zk) ?_
            refine WL.val (.int .i64 (((i : Nat) : Int))) rfl rfl rfl (fun za zC zh zk => wp_move rfl (zh.ev rfl) zk) ?_
            refine WL.val (.int .i64 (((k : Nat) : Int))) rfl rfl rfl (fun za zC zh zk => wp_move rfl (zh.ev rfl) zk) ?_
            refine WL.call rfl rfl rfl (fun za zh zC => wp_callv (by kernel_rfl) rfl (zh.ev rfl) (hv2 (zh.ev rfl) (zh.ev rfl))) (lranked_any o L1 L2 q w0 n hH hA i k _ hi hk hz (by omega) hstl) ?_
            rintro _ w119 ⟨rfl, hst117, hc118⟩
            have hl120 := hB47.lt
            have hl121 := hB48.lt
            have hl122 := hB49.lt
            have hb123 := chg_below hb46 hc118 (fun b hb => (by (try dsimp only at *); omega))
            have hB124 := chg_blk hB47 hc118 (by (try dsimp only at *); omega)
            have hB125 := chg_blk hB48 hc118 (by (try dsimp only at *); omega)
            have hB126 := chg_blk hB49 hc118 (by (try dsimp only at *); omega)
            obtain ⟨hl127, hl128, hl129, hl130⟩ := hst117.glt
            refine WL.nil (WE.sub (K' := [(0, .pointer (some ⟨q.gw, 0, none⟩)), (1, .int .i64 (((i : Nat) : Int))), (2, .int .i64 (((k : Nat) : Int))), (6, .bool false), (7, .pointer (some ⟨g2, 0, none⟩)), (8, .bool bb), (9, .bool ff), (10, .bool false), (12, .func (Fn.func 47) #[.pointer (some ⟨q.gw, 0, none⟩)] #[]), (25, .bool ff), (36, .bool ((decide (((ndget L1 i).t.f : Int) < (0 : Int))))), (45, .slice ((some ⟨g29, 0, none⟩)) 4 4), (46, .int .i64 4), (47, .int .i64 2), (48, .bool ((decide ((2 : Int) < (4 : Int))))), (54, .bool ((((decide ((0 : Int) ≤ (ndget L2 k).t.f) && ((ndget L1 i).t.f != (ndget L2 k).t.f)) && decide (o.rank (ndget L2 k).t.f < o.rank (ndget L1 i).t.f)) && (ndget L2 k).t.args.all (o.lg (ndget L1 i).t))))]) ⟨rfl, rfl, rfl, rfl, rfl, rfl, rfl, rfl, rfl, rfl, rfl, rfl, rfl, rfl, rfl, rfl, trivial⟩ ?_)
            refine WE.next ?_
            refine WC.cond rfl (fun h131 => ?_) (fun h131 => ?_)
            · skip
              have hres : true = o.lg (ndget L1 i).t (ndget L2 k).t := by rw [lg_reasons (by omega), show (((decide ((0 : Int) ≤ (ndget L2 k).t.f) && ((ndget L1 i).t.f != (ndget L2 k).t.f)) && decide (o.rank (ndget L2 k).t.f < o.rank (ndget L1 i).t.f)) && (ndget L2 k).t.args.all (o.lg (ndget L1 i).t)) = true from h131]; simp
              refine WC.seq ?_
              refine WC.region ?_
              refine WL.val (.bool true) rfl rfl rfl (fun za zC zh zk => wp_assign rfl (zh.ev rfl) zk) ?_
              refine WL.nil (WE.sub (K' := [(0, .pointer (some ⟨q.gw, 0, none⟩)), (1, .int .i64 (((i : Nat) : Int))), (2, .int .i64 (((k : Nat) : Int))), (6, .bool false), (7, .pointer (some ⟨g2, 0, none⟩)), (8, .bool bb), (9, .bool ff), (10, .bool true), (12, .func (Fn.func 47) #[.pointer (some ⟨q.gw, 0, none⟩)] #[]), (25, .bool ff), (36, .bool ((decide (((ndget L1 i).t.f : Int) < (0 : Int))))), (45, .slice ((some ⟨g29, 0, none⟩)) 4 4), (46, .int .i64 4), (47, .int .i64 2), (48, .bool ((decide ((2 : Int) < (4 : Int))))), (54, .bool ((((decide ((0 : Int) ≤ (ndget L2 k).t.f) && ((ndget L1 i).t.f != (ndget L2 k).t.f)) && decide (o.rank (ndget L2 k).t.f < o.rank (ndget L1 i).t.f)) && (ndget L2 k).t.args.all (o.lg (ndget L1 i).t))))]) ⟨rfl, rfl, rfl, rfl, rfl, rfl, rfl, rfl, rfl, rfl, rfl, rfl, rfl, rfl, rfl, rfl, trivial⟩ ?_)
              refine WE.next ?_
              refine WC.exit ?_
              refine WE.blockNot rfl ?_
              refine WE.thenExit ?_
              refine WE.thenExit ?_
              refine WE.blockIs rfl ?_
              refine WE.next ?_
              refine WC.seq ?_
              refine WC.optc [(true, .pointer (some ⟨q.gw, 0, none⟩)), (true, .pointer (some ⟨q.gw, 0, none⟩)), (true, .pointer (some ⟨q.gw, 6, none⟩)), (true, .map ((some q.gm))), (true, .agg #[.int .i64 (((i : Nat) : Int)), .int .i64 (((k : Nat) : Int))]), (true, .bool true), (true, undef)] [(0, .pointer (some ⟨q.gw, 0, none⟩)), (1, .int .i64 (((i : Nat) : Int))), (2, .int .i64 (((k : Nat) : Int))), (6, .bool false), (7, .pointer (some ⟨g2, 0, none⟩)), (8, .bool bb), (9, .bool ff), (10, .bool true), (12, .func (Fn.func 47) #[.pointer (some ⟨q.gw, 0, none⟩)] #[]), (25, .bool ff), (36, .bool ((decide (((ndget L1 i).t.f : Int) < (0 : Int))))), (45, .slice ((some ⟨g29, 0, none⟩)) 4 4), (46, .int .i64 4), (47, .int .i64 2), (48, .bool ((decide ((2 : Int) < (4 : Int))))), (54, .bool ((((decide ((0 : Int) ≤ (ndget L2 k).t.f) && ((ndget L1 i).t.f != (ndget L2 k).t.f)) && decide (o.rank (ndget L2 k).t.f < o.rank (ndget L1 i).t.f)) && (ndget L2 k).t.args.all (o.lg (ndget L1 i).t))))] (S := (fun b => b = q.gm)) (I := (LpoSt o L1 L2 q w0)) (fun _ _ hb h => h.bel hb) hst117 ⟨rfl, rfl, rfl, rfl, rfl, rfl, rfl, rfl, rfl, rfl, rfl, rfl, rfl, rfl, rfl, rfl, trivial⟩ (by kernel_rfl) (by kernel_rfl) (by kernel_rfl) ?_ ?_
              · refine ⟨⟨true, .none rfl, fun h => optUndef h, fun zβ za zw zc => ?_⟩, ?_⟩
                · exact wp_move rfl (zc.kn.ev rfl) ⟨_, rfl, zc.chg, zc.inv, optDef zβ rfl⟩
                refine ⟨⟨true, .none rfl, fun h => optUndef h, fun zβ za zw zc => ?_⟩, ?_⟩
                · exact nilCheck_ rfl ((show za.eval (.tmp 56) = za.tmps.getD 56 undef from rfl).trans (valVal (zc.dep 0 56 (by kernel_rfl)) rfl rfl)) ⟨_, rfl, zc.chg, zc.inv, optDef zβ rfl⟩
                refine ⟨⟨true, .none rfl, fun h => optUndef h, fun zβ za zw zc => ?_⟩, ?_⟩
                · exact fld_75_3 rfl ((show za.eval (.tmp 57) = za.tmps.getD 57 undef from rfl).trans (valVal (zc.dep 1 57 (by kernel_rfl)) rfl rfl)) ⟨_, rfl, zc.chg, zc.inv, optDef zβ rfl⟩
                refine ⟨⟨true, .none rfl, fun h => optUndef h, fun zβ za zw zc => ?_⟩, ?_⟩
                · exact ld_73 rfl ((show za.eval (.tmp 58) = za.tmps.getD 58 undef from rfl).trans (valVal (zc.dep 2 58 (by kernel_rfl)) rfl rfl)) (chg_cell zc.chg (by (try dsimp only at *); omega) ((hB124.cell 6).trans rfl)) ⟨_, rfl, zc.chg, zc.inv, optDef zβ rfl⟩
                refine ⟨⟨true, .none rfl, fun h => optUndef h, fun zβ za zw zc => ?_⟩, ?_⟩
                · exact ld_88 rfl (zc.kn.ev rfl) (chg_cell zc.chg (by (try dsimp only at *); omega) ((hB125.cell 0).trans rfl)) (chg_cell zc.chg (by (try dsimp only at *); omega) ((hB125.cell 1).trans rfl)) ⟨_, rfl, zc.chg, zc.inv, optDef zβ rfl⟩
                refine ⟨⟨true, .none rfl, fun h => optUndef h, fun zβ za zw zc => ?_⟩, ?_⟩
                · exact wp_move rfl (zc.kn.ev rfl) ⟨_, rfl, zc.chg, zc.inv, optDef zβ rfl⟩
                refine ⟨⟨true, .none rfl, fun h => optUndef h, fun zβ za zw zc => ?_⟩, ?_⟩
                · exact wp_mapUpdate_pr (s := (i, k)) rfl ((show za.eval (.tmp 59) = za.tmps.getD 59 undef from rfl).trans (valVal (zc.dep 3 59 (by kernel_rfl)) rfl rfl)) ((show za.eval (.tmp 60) = za.tmps.getD 60 undef from rfl).trans (valVal (zc.dep 4 60 (by kernel_rfl)) rfl rfl)) ((show za.eval (.tmp 61) = za.tmps.getD 61 undef from rfl).trans (valVal (zc.dep 5 61 (by kernel_rfl)) rfl rfl)) zc.inv.map hres (fun w' hm hu => ⟨_, rfl, zc.chg.trans (.ofUpd hu rfl), zc.inv.step (.ofUpd hu rfl) hm, optDef zβ rfl⟩)
                exact trivial
              · intro za w132 zh hb133 hst134 zu
                have hl135 := hB124.lt
                have hl136 := hB125.lt
                have hl137 := hB126.lt
                have hb138 := chg_below hb123 hb133 (fun b hb => (by (try dsimp only at *); omega))
                have hB139 := chg_blk hB124 hb133 (by (try dsimp only at *); omega)
                have hB140 := chg_blk hB125 hb133 (by (try dsimp only at *); omega)
                have hB141 := chg_blk hB126 hb133 (by (try dsimp only at *); omega)
                obtain ⟨hl142, hl143, hl144, hl145⟩ := hst134.glt
                clear zu
                refine (show WE _ [(0, .pointer (some ⟨q.gw, 0, none⟩)), (1, .int .i64 (((i : Nat) : Int))), (2, .int .i64 (((k : Nat) : Int))), (6, .bool false), (7, .pointer (some ⟨g2, 0, none⟩)), (8, .bool bb), (9, .bool ff), (10, .bool true), (12, .func (Fn.func 47) #[.pointer (some ⟨q.gw, 0, none⟩)] #[]), (25, .bool ff), (36, .bool ((decide (((ndget L1 i).t.f : Int) < (0 : Int))))), (45, .slice ((some ⟨g29, 0, none⟩)) 4 4), (46, .int .i64 4), (47, .int .i64 2), (48, .bool ((decide ((2 : Int) < (4 : Int))))), (54, .bool ((((decide ((0 : Int) ≤ (ndget L2 k).t.f) && ((ndget L1 i).t.f != (ndget L2 k).t.f)) && decide (o.rank (ndget L2 k).t.f < o.rank (ndget L1 i).t.f)) && (ndget L2 k).t.args.all (o.lg (ndget L1 i).t))))] w132 _ .normal from ?_) za (zh.sub ⟨rfl, rfl, rfl, rfl, rfl, rfl, rfl, rfl, rfl, rfl, rfl, rfl, rfl, rfl, rfl, rfl, trivial⟩)
                refine WE.next ?_
                refine WC.seq ?_
                refine WC.region ?_
                refine WL.val (.bool true) rfl rfl rfl (fun za zC zh zk => wp_move rfl (zh.ev rfl) zk) ?_
                refine WL.val (.bool true) rfl rfl rfl (fun za zC zh zk => wp_assign rfl (zh.ev rfl) zk) ?_
                refine WL.nil (WE.sub (K' := [(0, .pointer (some ⟨q.gw, 0, none⟩)), (1, .int .i64 (((i : Nat) : Int))), (2, .int .i64 (((k : Nat) : Int))), (6, .bool true), (7, .pointer (some ⟨g2, 0, none⟩)), (8, .bool bb), (9, .bool ff), (10, .bool true), (12, .func (Fn.func 47) #[.pointer (some ⟨q.gw, 0, none⟩)] #[]), (25, .bool ff), (36, .bool ((decide (((ndget L1 i).t.f : Int) < (0 : Int))))), (45, .slice ((some ⟨g29, 0, none⟩)) 4 4), (46, .int .i64 4), (47, .int .i64 2), (48, .bool ((decide ((2 : Int) < (4 : Int))))), (54, .bool ((((decide ((0 : Int) ≤ (ndget L2 k).t.f) && ((ndget L1 i).t.f != (ndget L2 k).t.f)) && decide (o.rank (ndget L2 k).t.f < o.rank (ndget L1 i).t.f)) && (ndget L2 k).t.args.all (o.lg (ndget L1 i).t))))]) ⟨rfl, rfl, rfl, rfl, rfl, rfl, rfl, rfl, rfl, rfl, rfl, rfl, rfl, rfl, rfl, rfl, trivial⟩ ?_)
                refine WE.next ?_
                refine WC.ret ?_
                refine WE.ret1 rfl rfl ?_
                have hs146 : Chg ((fun b => b = q.gm)) w w132 := (Chg.trans2 (Chg.trans2 (Chg.trans2 (Chg.refl ((fun b => b = q.gm)) _) hc50 (fun i h1 h2 => by (try dsimp only at *); omega)) hc118 (fun i h1 h2 => by (try dsimp only at *); omega)) hb133 (fun i h1 h2 => by (try dsimp only at *); omega))
                exact ⟨_, rfl, congrArg Value.bool (by first | exact hres | exact lg_var (by omega)), hst134, hs146⟩
            · skip
              refine WC.skip ?_
              refine WE.blockNormal ?_
              refine WE.next ?_
              refine WC.region ?_
              refine WL.val (.int .i64 3) rfl rfl rfl (fun za zC zh zk => addb_3 rfl (zh.ev rfl) (zh.ev rfl) (wrap_eq (by omega) (by omega) (by omega)) zk) ?_
              refine WL.val (.int .i64 3) rfl rfl rfl (fun za zC zh zk => wp_move rfl (zh.ev rfl) zk) ?_
              refine WL.nil (WE.sub (K' := [(0, .pointer (some ⟨q.gw, 0, none⟩)), (1, .int .i64 (((i : Nat) : Int))), (2, .int .i64 (((k : Nat) : Int))), (6, .bool false), (7, .pointer (some ⟨g2, 0, none⟩)), (8, .bool bb), (9, .bool ff), (10, .bool false), (12, .func (Fn.func 47) #[.pointer (some ⟨q.gw, 0, none⟩)] #[]), (25, .bool ff), (36, .bool ((decide (((ndget L1 i).t.f : Int) < (0 : Int))))), (45, .slice ((some ⟨g29, 0, none⟩)) 4 4), (46, .int .i64 4), (47, .int .i64 3), (48, .bool ((decide ((2 : Int) < (4 : Int))))), (54, .bool ((((decide ((0 : Int) ≤ (ndget L2 k).t.f) && ((ndget L1 i).t.f != (ndget L2 k).t.f)) && decide (o.rank (ndget L2 k).t.f < o.rank (ndget L1 i).t.f)) && (ndget L2 k).t.args.all (o.lg (ndget L1 i).t))))]) ⟨rfl, rfl, rfl, rfl, rfl, rfl, rfl, rfl, rfl, rfl, rfl, rfl, rfl, rfl, rfl, rfl, trivial⟩ ?_)
              refine WE.round 3 ⟨rfl, rfl, rfl, rfl, rfl, rfl, rfl, rfl, rfl, rfl, rfl, rfl, rfl, trivial⟩ ?_ ?_
              · have hs147 : Chg ((fun b => b = q.gm)) w w119 := (Chg.trans2 (Chg.trans2 (Chg.refl ((fun b => b = q.gm)) _) hc50 (fun i h1 h2 => by (try dsimp only at *); omega)) hc118 (fun i h1 h2 => by (try dsimp only at *); omega))
                exact ⟨(by decide), (fun z => hr1 (by omega)), (fun z => hr2 (by omega)), (fun _ => h131), (fun z => absurd z (by decide)), hst117, hb123, hB124, hB125, hB126, hs147⟩
              · omega
          · refine WC.seq ?_
            refine WC.region ?_
            refine WL.val (.bool ((decide ((3 : Int) < (4 : Int))))) rfl rfl rfl (fun za zC zh zk => lss_3 rfl (zh.ev rfl) (zh.ev rfl) zk) ?_
            refine WL.nil (WE.sub (K' := [(0, .pointer (some ⟨q.gw, 0, none⟩)), (1, .int .i64 (((i : Nat) : Int))), (2, .int .i64 (((k : Nat) : Int))), (6, .bool false), (7, .pointer (some ⟨g2, 0, none⟩)), (8, .bool bb), (9, .bool ff), (10, .bool false), (25, .bool ff), (36, .bool ((decide (((ndget L1 i).t.f : Int) < (0 : Int))))), (45, .slice ((some ⟨g29, 0, none⟩)) 4 4), (46, .int .i64 4), (47, .int .i64 3), (48, .bool ((decide ((3 : Int) < (4 : Int)))))]) ⟨rfl, rfl, rfl, rfl, rfl, rfl, rfl, rfl, rfl, rfl, rfl, rfl, rfl, rfl, trivial⟩ ?_)
            refine WE.next ?_
            refine WC.seq ?_
            refine WC.condT rfl (by decide) ?_
            refine WC.skip ?_
            refine WE.next ?_
            refine WC.seq ?_
            refine WC.block ?_
            refine WC.seq ?_
            refine WC.region ?_
            refine WL.val (.pointer (some ⟨g29, 3, none⟩)) rfl rfl rfl (fun za zC zh zk => ix_90 (k := 3) rfl (zh.ev rfl) rfl (zh.ev rfl) (by first | omega | (simp; omega)) zk) ?_
            refine WL.val (.func (Fn.func 48) #[.pointer (some ⟨q.gw, 0, none⟩)] #[]) rfl rfl rfl (fun za zC zh zk => ld_68 rfl (zh.ev rfl) ((hB49.cell 3).trans rfl) zk) ?_
            refine WL.val (.func (Fn.func 48) #[.pointer (some ⟨q.gw, 0, none⟩)] #[]) rfl rfl rfl (fun za zC zh zk => wp_assign rfl (zh.ev rfl) zk) ?_
            refine WL.nil (WE.sub (K' := [(0, .pointer (some ⟨q.gw, 0, none⟩)), (1, .int .i64 (((i : Nat) : Int))), (2, .int .i64 (((k : Nat) : Int))), (6, .bool false), (7, .pointer (some ⟨g2, 0, none⟩)), (8, .bool bb), (9, .bool ff), (10, .bool false), (12, .func (Fn.func 48) #[.pointer (some ⟨q.gw, 0, none⟩)] #[]), (25, .bool ff), (36, .bool ((decide (((ndget L1 i).t.f : Int) < (0 : Int))))), (45, .slice ((some ⟨g29, 0, none⟩)) 4 4), (46, .int .i64 4), (47, .int .i64 3), (48, .bool ((decide ((3 : Int) < (4 : Int)))))]) ⟨rfl, rfl, rfl, rfl, rfl, rfl, rfl, rfl, rfl, rfl, rfl, rfl, rfl, rfl, rfl, trivial⟩ ?_)
            refine WE.next ?_
            refine WC.seq ?_
            refine WC.region ?_
            refine WL.val (.func (Fn.func 48) #[.pointer (some ⟨q.gw, 0, none⟩)] #[]) rfl rfl rfl (fun za zC zh zk => wp_move rfl (zh.ev rfl) zk) ?_
            refine WL.val (.int .i64 (((i : Nat) : Int))) rfl rfl rfl (fun za zC zh zk => wp_move rfl (zh.ev rfl) zk) ?_
            refine WL.val (.int .i64 (((k : Nat) : Int))) rfl rfl rfl (fun za zC zh zk => wp_move rfl (zh.ev rfl) zk) ?_
            refine WL.call rfl rfl rfl (fun za zh zC => wp_callv (by kernel_rfl) rfl (zh.ev rfl) (hv2 (zh.ev rfl) (zh.ev rfl))) (llexical_any o L1 L2 q w0 n hH hA i k _ hi hk hz hstl) ?_
            rintro _ w150 ⟨rfl, hst148, hc149⟩
            have hl151 := hB47.lt
            have hl152 := hB48.lt
            have hl153 := hB49.lt
            have hb154 := chg_below hb46 hc149 (fun b hb => (by (try dsimp only at *); omega))
            have hB155 := chg_blk hB47 hc149 (by (try dsimp only at *); omega)
            have hB156 := chg_blk hB48 hc149 (by (try dsimp only at *); omega)
            have hB157 := chg_blk hB49 hc149 (by (try dsimp only at *); omega)
            obtain ⟨hl158, hl159, hl160, hl161⟩ := hst148.glt
            refine WL.nil (WE.sub (K' := [(0, .pointer (some ⟨q.gw, 0, none⟩)), (1, .int .i64 (((i : Nat) : Int))), (2, .int .i64 (((k : Nat) : Int))), (6, .bool false), (7, .pointer (some ⟨g2, 0, none⟩)), (8, .bool bb), (9, .bool ff), (10, .bool false), (12, .func (Fn.func 48) #[.pointer (some ⟨q.gw, 0, none⟩)] #[]), (25, .bool ff), (36, .bool ((decide (((ndget L1 i).t.f : Int) < (0 : Int))))), (45, .slice ((some ⟨g29, 0, none⟩)) 4 4), (46, .int .i64 4), (47, .int .i64 3), (48, .bool ((decide ((3 : Int) < (4 : Int))))), (54, .bool (((decide ((ndget L1 i).t.f = (ndget L2 k).t.f) && (ndget L2 k).t.args.all (o.lg (ndget L1 i).t)) && lexR o.lg (ndget L1 i).t.args (ndget L2 k).t.args)))]) ⟨rfl, rfl, rfl, rfl, rfl, rfl, rfl, rfl, rfl, rfl, rfl, rfl, rfl, rfl, rfl, rfl, trivial⟩ ?_)
            refine WE.next ?_
            refine WC.cond rfl (fun h162 => ?_) (fun h162 => ?_)
            · skip
              have hres : true = o.lg (ndget L1 i).t (ndget L2 k).t := by rw [lg_reasons (by omega), show ((decide ((ndget L1 i).t.f = (ndget L2 k).t.f) && (ndget L2 k).t.args.all (o.lg (ndget L1 i).t)) && lexR o.lg (ndget L1 i).t.args (ndget L2 k).t.args) = true from h162]; simp
              refine WC.seq ?_
              refine WC.region ?_
              refine WL.val (.bool true) rfl rfl rfl (fun za zC zh zk => wp_assign rfl (zh.ev rfl) zk) ?_
              refine WL.nil (WE.sub (K' := [(0, .pointer (some ⟨q.gw, 0, none⟩)), (1, .int .i64 (((i : Nat) : Int))), (2, .int .i64 (((k : Nat) : Int))), (6, .bool false), (7, .pointer (some ⟨g2, 0, none⟩)), (8, .bool bb), (9, .bool ff), (10, .bool true), (12, .func (Fn.func 48) #[.pointer (some ⟨q.gw, 0, none⟩)] #[]), (25, .bool ff), (36, .bool ((decide (((ndget L1 i).t.f : Int) < (0 : Int))))), (45, .slice ((some ⟨g29, 0, none⟩)) 4 4), (46, .int .i64 4), (47, .int .i64 3), (48, .bool ((decide ((3 : Int) < (4 : Int))))), (54, .bool (((decide ((ndget L1 i).t.f = (ndget L2 k).t.f) && (ndget L2 k).t.args.all (o.lg (ndget L1 i).t)) && lexR o.lg (ndget L1 i).t.args (ndget L2 k).t.args)))]) ⟨rfl, rfl, rfl, rfl, rfl, rfl, rfl, rfl, rfl, rfl, rfl, rfl, rfl, rfl, rfl, rfl, trivial⟩ ?_)
              refine WE.next ?_
              refine WC.exit ?_
              refine WE.blockNot rfl ?_
              refine WE.thenExit ?_
              refine WE.thenExit ?_
              refine WE.blockIs rfl ?_
              refine WE.next ?_
              refine WC.seq ?_
              refine WC.optc [(true, .pointer (some ⟨q.gw, 0, none⟩)), (true, .pointer (some ⟨q.gw, 0, none⟩)), (true, .pointer (some ⟨q.gw, 6, none⟩)), (true, .map ((some q.gm))), (true, .agg #[.int .i64 (((i : Nat) : Int)), .int .i64 (((k : Nat) : Int))]), (true, .bool true), (true, undef)] [(0, .pointer (some ⟨q.gw, 0, none⟩)), (1, .int .i64 (((i : Nat) : Int))), (2, .int .i64 (((k : Nat) : Int))), (6, .bool false), (7, .pointer (some ⟨g2, 0, none⟩)), (8, .bool bb), (9, .bool ff), (10, .bool true), (12, .func (Fn.func 48) #[.pointer (some ⟨q.gw, 0, none⟩)] #[]), (25, .bool ff), (36, .bool ((decide (((ndget L1 i).t.f : Int) < (0 : Int))))), (45, .slice ((some ⟨g29, 0, none⟩)) 4 4), (46, .int .i64 4), (47, .int .i64 3), (48, .bool ((decide ((3 : Int) < (4 : Int))))), (54, .bool (((decide ((ndget L1 i).t.f = (ndget L2 k).t.f) && (ndget L2 k).t.args.all (o.lg (ndget L1 i).t)) && lexR o.lg (ndget L1 i).t.args (ndget L2 k).t.args)))] (S := (fun b => b = q.gm)) (I := (LpoSt o L1 L2 q w0)) (fun _ _ hb h => h.bel hb) hst148 ⟨rfl, rfl, rfl, rfl, rfl, rfl, rfl, rfl, rfl, rfl, rfl, rfl, rfl, rfl, rfl, rfl, trivial⟩ (by kernel_rfl) (by kernel_rfl) (by kernel_rfl) ?_ ?_
              · refine ⟨⟨true, .none rfl, fun h => optUndef h, fun zβ za zw zc => ?_⟩, ?_⟩
                · exact wp_move rfl (zc.kn.ev rfl) ⟨_, rfl, zc.chg, zc.inv, optDef zβ rfl⟩
                refine ⟨⟨true, .none rfl, fun h => optUndef h, fun zβ za zw zc => ?_⟩, ?_⟩
                · exact nilCheck_ rfl ((show za.eval (.tmp 56) = za.tmps.getD 56 undef from rfl).trans (valVal (zc.dep 0 56 (by kernel_rfl)) rfl rfl)) ⟨_, rfl, zc.chg, zc.inv, optDef zβ rfl⟩
                refine ⟨⟨true, .none rfl, fun h => optUndef h, fun zβ za zw zc => ?_⟩, ?_⟩
                · exact fld_75_3 rfl ((show za.eval (.tmp 57) = za.tmps.getD 57 undef from rfl).trans (valVal (zc.dep 1 57 (by kernel_rfl)) rfl rfl)) ⟨_, rfl, zc.chg, zc.inv, optDef zβ rfl⟩
                refine ⟨⟨true, .none rfl, fun h => optUndef h, fun zβ za zw zc => ?_⟩, ?_⟩
                · exact ld_73 rfl ((show za.eval (.tmp 58) = za.tmps.getD 58 undef from rfl).trans (valVal (zc.dep 2 58 (by kernel_rfl)) rfl rfl)) (chg_cell zc.chg (by (try dsimp only at *); omega) ((hB155.cell 6).trans rfl)) ⟨_, rfl, zc.chg, zc.inv, optDef zβ rfl⟩
                refine ⟨⟨true, .none rfl, fun h => optUndef h, fun zβ za zw zc => ?_⟩, ?_⟩
                · exact ld_88 rfl (zc.kn.ev rfl) (chg_cell zc.chg (by (try dsimp only at *); omega) ((hB156.cell 0).trans rfl)) (chg_cell zc.chg (by (try dsimp only at *); omega) ((hB156.cell 1).trans rfl)) ⟨_, rfl, zc.chg, zc.inv, optDef zβ rfl⟩
                refine ⟨⟨true, .none rfl, fun h => optUndef h, fun zβ za zw zc => ?_⟩, ?_⟩
                · exact wp_move rfl (zc.kn.ev rfl) ⟨_, rfl, zc.chg, zc.inv, optDef zβ rfl⟩
                refine ⟨⟨true, .none rfl, fun h => optUndef h, fun zβ za zw zc => ?_⟩, ?_⟩
                · exact wp_mapUpdate_pr (s := (i, k)) rfl ((show za.eval (.tmp 59) = za.tmps.getD 59 undef from rfl).trans (valVal (zc.dep 3 59 (by kernel_rfl)) rfl rfl)) ((show za.eval (.tmp 60) = za.tmps.getD 60 undef from rfl).trans (valVal (zc.dep 4 60 (by kernel_rfl)) rfl rfl)) ((show za.eval (.tmp 61) = za.tmps.getD 61 undef from rfl).trans (valVal (zc.dep 5 61 (by kernel_rfl)) rfl rfl)) zc.inv.map hres (fun w' hm hu => ⟨_, rfl, zc.chg.trans (.ofUpd hu rfl), zc.inv.step (.ofUpd hu rfl) hm, optDef zβ rfl⟩)
                exact trivial
              · intro za w163 zh hb164 hst165 zu
                have hl166 := hB155.lt
                have hl167 := hB156.lt
                have hl168 := hB157.lt
                have hb169 := chg_below hb154 hb164 (fun b hb => (by (try dsimp only at *); omega))
                have hB170 := chg_blk hB155 hb164 (by (try dsimp only at *); omega)
                have hB171 := chg_blk hB156 hb164 (by (try dsimp only at *); omega)
                have hB172 := chg_blk hB157 hb164 (by (try dsimp only at *); omega)
                obtain ⟨hl173, hl174, hl175, hl176⟩ := hst165.glt
                clear zu
                refine (show WE _ [(0, .pointer (some ⟨q.gw, 0, none⟩)), (1, .int .i64 (((i : Nat) : Int))), (2, .int .i64 (((k : Nat) : Int))), (6, .bool false), (7, .pointer (some ⟨g2, 0, none⟩)), (8, .bool bb), (9, .bool ff), (10, .bool true), (12, .func (Fn.func 48) #[.pointer (some ⟨q.gw, 0, none⟩)] #[]), (25, .bool ff), (36, .bool ((decide (((ndget L1 i).t.f : Int) < (0 : Int))))), (45, .slice ((some ⟨g29, 0, none⟩)) 4 4), (46, .int .i64 4), (47, .int .i64 3), (48, .bool ((decide ((3 : Int) < (4 : Int))))), (54, .bool (((decide ((ndget L1 i).t.f = (ndget L2 k).t.f) && (ndget L2 k).t.args.all (o.lg (ndget L1 i).t)) && lexR o.lg (ndget L1 i).t.args (ndget L2 k).t.args)))] w163 _ .normal from ?_) za (zh.sub ⟨rfl, rfl, rfl, rfl, rfl, rfl, rfl, rfl, rfl, rfl, rfl, rfl, rfl, rfl, rfl, rfl, trivial⟩)
                refine WE.next ?_
                refine WC.seq ?_
                refine WC.region ?_
                refine WL.val (.bool true) rfl rfl rfl (fun za zC zh zk => wp_move rfl (zh.ev rfl) zk) ?_
                refine WL.val (.bool true) rfl rfl rfl (fun za zC zh zk => wp_assign rfl (zh.ev rfl) zk) ?_
                refine WL.nil (WE.sub (K' := [(0, .pointer (some ⟨q.gw, 0, none⟩)), (1, .int .i64 (((i : Nat) : Int))), (2, .int .i64 (((k : Nat) : Int))), (6, .bool true), (7, .pointer (some ⟨g2, 0, none⟩)), (8, .bool bb), (9, .bool ff), (10, .bool true), (12, .func (Fn.func 48) #[.pointer (some ⟨q.gw, 0, none⟩)] #[]), (25, .bool ff), (36, .bool ((decide (((ndget L1 i).t.f : Int) < (0 : Int))))), (45, .slice ((some ⟨g29, 0, none⟩)) 4 4), (46, .int .i64 4), (47, .int .i64 3), (48, .bool ((decide ((3 : Int) < (4 : Int))))), (54, .bool (((decide ((ndget L1 i).t.f = (ndget L2 k).t.f) && (ndget L2 k).t.args.all (o.lg (ndget L1 i).t)) && lexR o.lg (ndget L1 i).t.args (ndget L2 k).t.args)))]) ⟨rfl, rfl, rfl, rfl, rfl, rfl, rfl, rfl, rfl, rfl, rfl, rfl, rfl, rfl, rfl, rfl, trivial⟩ ?_)
                refine WE.next ?_
                refine WC.ret ?_
                refine WE.ret1 rfl rfl ?_
                have hs177 : Chg ((fun b => b = q.gm)) w w163 := (Chg.trans2 (Chg.trans2 (Chg.trans2 (Chg.refl ((fun b => b = q.gm)) _) hc50 (fun i h1 h2 => by (try dsimp only at *); omega)) hc149 (fun i h1 h2 => by (try dsimp only at *); omega)) hb164 (fun i h1 h2 => by (try dsimp only at *); omega))
                exact ⟨_, rfl, congrArg Value.bool (by first | exact hres | exact lg_var (by omega)), hst165, hs177⟩
            · skip
              refine WC.skip ?_
              refine WE.blockNormal ?_
              refine WE.next ?_
              refine WC.region ?_
              refine WL.val (.int .i64 4) rfl rfl rfl (fun za zC zh zk => addb_3 rfl (zh.ev rfl) (zh.ev rfl) (wrap_eq (by omega) (by omega) (by omega)) zk) ?_
              refine WL.val (.int .i64 4) rfl rfl rfl (fun za zC zh zk => wp_move rfl (zh.ev rfl) zk) ?_
              refine WL.nil (WE.sub (K' := [(0, .pointer (some ⟨q.gw, 0, none⟩)), (1, .int .i64 (((i : Nat) : Int))), (2, .int .i64 (((k : Nat) : Int))), (6, .bool false), (7, .pointer (some ⟨g2, 0, none⟩)), (8, .bool bb), (9, .bool ff), (10, .bool false), (12, .func (Fn.func 48) #[.pointer (some ⟨q.gw, 0, none⟩)] #[]), (25, .bool ff), (36, .bool ((decide (((ndget L1 i).t.f : Int) < (0 : Int))))), (45, .slice ((some ⟨g29, 0, none⟩)) 4 4), (46, .int .i64 4), (47, .int .i64 4), (48, .bool ((decide ((3 : Int) < (4 : Int))))), (54, .bool (((decide ((ndget L1 i).t.f = (ndget L2 k).t.f) && (ndget L2 k).t.args.all (o.lg (ndget L1 i).t)) && lexR o.lg (ndget L1 i).t.args (ndget L2 k).t.args)))]) ⟨rfl, rfl, rfl, rfl, rfl, rfl, rfl, rfl, rfl, rfl, rfl, rfl, rfl, rfl, rfl, rfl, trivial⟩ ?_)
              refine WE.round 4 ⟨rfl, rfl, rfl, rfl, rfl, rfl, rfl, rfl, rfl, rfl, rfl, rfl, rfl, trivial⟩ ?_ ?_
              · have hs178 : Chg ((fun b => b = q.gm)) w w150 := (Chg.trans2 (Chg.trans2 (Chg.refl ((fun b => b = q.gm)) _) hc50 (fun i h1 h2 => by (try dsimp only at *); omega)) hc149 (fun i h1 h2 => by (try dsimp only at *); omega))
                exact ⟨(by decide), (fun z => hr1 (by omega)), (fun z => hr2 (by omega)), (fun z => hr3 (by omega)), (fun _ => h162), hst148, hb154, hB155, hB156, hB157, hs178⟩
              · omega
          · refine WC.seq ?_
            refine WC.region ?_
            refine WL.val (.bool ((decide ((4 : Int) < (4 : Int))))) rfl rfl rfl (fun za zC zh zk => lss_3 rfl (zh.ev rfl) (zh.ev rfl) zk) ?_
            refine WL.nil (WE.sub (K' := [(0, .pointer (some ⟨q.gw, 0, none⟩)), (1, .int .i64 (((i : Nat) : Int))), (2, .int .i64 (((k : Nat) : Int))), (6, .bool false), (7, .pointer (some ⟨g2, 0, none⟩)), (8, .bool bb), (9, .bool ff), (10, .bool false), (25, .bool ff), (36, .bool ((decide (((ndget L1 i).t.f : Int) < (0 : Int))))), (45, .slice ((some ⟨g29, 0, none⟩)) 4 4), (46, .int .i64 4), (47, .int .i64 4), (48, .bool ((decide ((4 : Int) < (4 : Int)))))]) ⟨rfl, rfl, rfl, rfl, rfl, rfl, rfl, rfl, rfl, rfl, rfl, rfl, rfl, rfl, trivial⟩ ?_)
            refine WE.next ?_
            refine WC.seq ?_
            have hres : false = o.lg (ndget L1 i).t (ndget L2 k).t := by rw [lg_reasons (by omega), hr1 (by decide), hr2 (by decide), hr3 (by decide), hr4 (by decide)]; rfl
            refine WC.condF rfl (by decide) ?_
            refine WC.exit ?_
            refine WE.thenExit ?_
            refine WE.thenExit ?_
            refine WE.blockIs rfl ?_
            refine WE.next ?_
            refine WC.seq ?_
            refine WC.optc [(true, .pointer (some ⟨q.gw, 0, none⟩)), (true, .pointer (some ⟨q.gw, 0, none⟩)), (true, .pointer (some ⟨q.gw, 6, none⟩)), (true, .map ((some q.gm))), (true, .agg #[.int .i64 (((i : Nat) : Int)), .int .i64 (((k : Nat) : Int))]), (true, .bool false), (true, undef)] [(0, .pointer (some ⟨q.gw, 0, none⟩)), (1, .int .i64 (((i : Nat) : Int))), (2, .int .i64 (((k : Nat) : Int))), (6, .bool false), (7, .pointer (some ⟨g2, 0, none⟩)), (8, .bool bb), (9, .bool ff), (10, .bool false), (25, .bool ff), (36, .bool ((decide (((ndget L1 i).t.f : Int) < (0 : Int))))), (45, .slice ((some ⟨g29, 0, none⟩)) 4 4), (46, .int .i64 4), (47, .int .i64 4), (48, .bool ((decide ((4 : Int) < (4 : Int)))))] (S := (fun b => b = q.gm)) (I := (LpoSt o L1 L2 q w0)) (fun _ _ hb h => h.bel hb) hstl ⟨rfl, rfl, rfl, rfl, rfl, rfl, rfl, rfl, rfl, rfl, rfl, rfl, rfl, rfl, trivial⟩ (by kernel_rfl) (by kernel_rfl) (by kernel_rfl) ?_ ?_
            · refine ⟨⟨true, .none rfl, fun h => optUndef h, fun zβ za zw zc => ?_⟩, ?_⟩
              · exact wp_move rfl (zc.kn.ev rfl) ⟨_, rfl, zc.chg, zc.inv, optDef zβ rfl⟩
              refine ⟨⟨true, .none rfl, fun h => optUndef h, fun zβ za zw zc => ?_⟩, ?_⟩
              · exact nilCheck_ rfl ((show za.eval (.tmp 56) = za.tmps.getD 56 undef from rfl).trans (valVal (zc.dep 0 56 (by kernel_rfl)) rfl rfl)) ⟨_, rfl, zc.chg, zc.inv, optDef zβ rfl⟩
              refine ⟨⟨true, .none rfl, fun h => optUndef h, fun zβ za zw zc => ?_⟩, ?_⟩
              · exact fld_75_3 rfl ((show za.eval (.tmp 57) = za.tmps.getD 57 undef from rfl).trans (valVal (zc.dep 1 57 (by kernel_rfl)) rfl rfl)) ⟨_, rfl, zc.chg, zc.inv, optDef zβ rfl⟩
              refine ⟨⟨true, .none rfl, fun h => optUndef h, fun zβ za zw zc => ?_⟩, ?_⟩
              · exact ld_73 rfl ((show za.eval (.tmp 58) = za.tmps.getD 58 undef from rfl).trans (valVal (zc.dep 2 58 (by kernel_rfl)) rfl rfl)) (chg_cell zc.chg (by (try dsimp only at *); omega) ((hB47.cell 6).trans rfl)) ⟨_, rfl, zc.chg, zc.inv, optDef zβ rfl⟩
              refine ⟨⟨true, .none rfl, fun h => optUndef h, fun zβ za zw zc => ?_⟩, ?_⟩
              · exact ld_88 rfl (zc.kn.ev rfl) (chg_cell zc.chg (by (try dsimp only at *); omega) ((hB48.cell 0).trans rfl)) (chg_cell zc.chg (by (try dsimp only at *); omega) ((hB48.cell 1).trans rfl)) ⟨_, rfl, zc.chg, zc.inv, optDef zβ rfl⟩
              refine ⟨⟨true, .none rfl, fun h => optUndef h, fun zβ za zw zc => ?_⟩, ?_⟩
              · exact wp_move rfl (zc.kn.ev rfl) ⟨_, rfl, zc.chg, zc.inv, optDef zβ rfl⟩
              refine ⟨⟨true, .none rfl, fun h => optUndef h, fun zβ za zw zc => ?_⟩, ?_⟩
              · exact wp_mapUpdate_pr (s := (i, k)) rfl ((show za.eval (.tmp 59) = za.tmps.getD 59 undef from rfl).trans (valVal (zc.dep 3 59 (by kernel_rfl)) rfl rfl)) ((show za.eval (.tmp 60) = za.tmps.getD 60 undef from rfl).trans (valVal (zc.dep 4 60 (by kernel_rfl)) rfl rfl)) ((show za.eval (.tmp 61) = za.tmps.getD 61 undef from rfl).trans (valVal (zc.dep 5 61 (by kernel_rfl)) rfl rfl)) zc.inv.map hres (fun w' hm hu => ⟨_, rfl, zc.chg.trans (.ofUpd hu rfl), zc.inv.step (.ofUpd hu rfl) hm, optDef zβ rfl⟩)
              exact trivial
            · intro za w179 zh hb180 hst181 zu
              have hl182 := hB47.lt
              have hl183 := hB48.lt
              have hl184 := hB49.lt
              have hb185 := chg_below hb46 hb180 (fun b hb => (by (try dsimp only at *); omega))
              have hB186 := chg_blk hB47 hb180 (by (try dsimp only at *); omega)
              have hB187 := chg_blk hB48 hb180 (by (try dsimp only at *); omega)
              have hB188 := chg_blk hB49 hb180 (by (try dsimp only at *); omega)
              obtain ⟨hl189, hl190, hl191, hl192⟩ := hst181.glt
              clear zu
              refine (show WE _ [(0, .pointer (some ⟨q.gw, 0, none⟩)), (1, .int .i64 (((i : Nat) : Int))), (2, .int .i64 (((k : Nat) : Int))), (6, .bool false), (7, .pointer (some ⟨g2, 0, none⟩)), (8, .bool bb), (9, .bool ff), (10, .bool false), (25, .bool ff), (36, .bool ((decide (((ndget L1 i).t.f : Int) < (0 : Int))))), (45, .slice ((some ⟨g29, 0, none⟩)) 4 4), (46, .int .i64 4), (47, .int .i64 4), (48, .bool ((decide ((4 : Int) < (4 : Int)))))] w179 _ .normal from ?_) za (zh.sub ⟨rfl, rfl, rfl, rfl, rfl, rfl, rfl, rfl, rfl, rfl, rfl, rfl, rfl, rfl, trivial⟩)
              refine WE.next ?_
              refine WC.seq ?_
              refine WC.region ?_
              refine WL.val (.bool false) rfl rfl rfl (fun za zC zh zk => wp_move rfl (zh.ev rfl) zk) ?_
              refine WL.val (.bool false) rfl rfl rfl (fun za zC zh zk => wp_assign rfl (zh.ev rfl) zk) ?_
              refine WL.nil (WE.sub (K' := [(0, .pointer (some ⟨q.gw, 0, none⟩)), (1, .int .i64 (((i : Nat) : Int))), (2, .int .i64 (((k : Nat) : Int))), (6, .bool false), (7, .pointer (some ⟨g2, 0, none⟩)), (8, .bool bb), (9, .bool ff), (10, .bool false), (25, .bool ff), (36, .bool ((decide (((ndget L1 i).t.f : Int) < (0 : Int))))), (45, .slice ((some ⟨g29, 0, none⟩)) 4 4), (46, .int .i64 4), (47, .int .i64 4), (48, .bool ((decide ((4 : Int) < (4 : Int)))))]) ⟨rfl, rfl, rfl, rfl, rfl, rfl, rfl, rfl, rfl, rfl, rfl, rfl, rfl, rfl, trivial⟩ ?_)
              refine WE.next ?_
              refine WC.ret ?_
              refine WE.ret1 rfl rfl ?_
              have hs193 : Chg ((fun b => b = q.gm)) w w179 := (Chg.trans2 (Chg.trans2 (Chg.refl ((fun b => b = q.gm)) _) hc50 (fun i h1 h2 => by (try dsimp only at *); omega)) hb180 (fun i h1 h2 => by (try dsimp only at *); omega))
              exact ⟨_, rfl, congrArg Value.bool (by first | exact hres | exact lg_var (by omega)), hst181, hs193⟩

theorem labove_any (o : Od) (L1 L2 : List Nd) (q : LpoQ) (w0 : World) (hH : LpoH o L1 L2) : ∀ n, AboveOK o L1 L2 q w0 n
  | 0 => fun i k w hi hk hz _ => by have := T.size_eq (ndget L1 i).t; omega
  | n + 1 => labove_step o L1 L2 q w0 n hH (labove_any o L1 L2 q w0 hH n)

end Go.Proofs.Ytlkiabgpnboicaa
