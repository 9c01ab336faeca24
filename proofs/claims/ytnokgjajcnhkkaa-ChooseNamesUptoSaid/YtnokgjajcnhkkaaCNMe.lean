/- A map from integers to integers, read as a function that is nought where nothing stands. -/
import Derived.Test.YtnokgjajcnhkkaaCNMd
import Derived.Test.YtnokgjajcnhkkaaCNMc
import Derived.Test.YtnokgjajcnhkkaaCNMb
import Derived.Test.YtnokgjajcnhkkaaCNMa
import Derived.Maps.OwnOps
import Derived.Maps.OwnSet
import Derived.Maps.RangeWalk

/- The lexicographic path order of the program: the walk that remembers. -/
namespace Go.Proofs.Ytnokgjajcnhkkaa
open Go.RowKit Go
set_option linter.unusedVariables false
set_option linter.unusedSimpArgs false
theorem lg_reasons {o : Od} {s t : T} (h : ¬ s.f < 0) : o.lg s t = ((decide (t.f < 0) && T.has t.f s) || (!decide (t.f < 0) && s.args.any (fun a => T.same a t || o.lg a t)) || (((decide ((0 : Int) ≤ t.f) && (s.f != t.f)) && decide (o.rank t.f < o.rank s.f)) && t.args.all (o.lg s)) || ((decide (s.f = t.f) && t.args.all (o.lg s)) && lexR o.lg s.args t.args)) := by
 rw [Od.lg_eq, Od.lstep, if_neg h]
 by_cases ht : t.f < 0
 ·rw [if_pos ht]
  have e1 : ¬ (0 : Int) ≤ t.f := by omega
  have e2 : ¬ s.f = t.f := by omega
  simp [ht, e1, e2]
 ·rw [if_neg ht]
  have e1 : (0 : Int) ≤ t.f := by omega
  by_cases e2 : s.f = t.f
  ·simp [ht, e1, e2]
  ·have e3 : (s.f != t.f) = true := by simpa using e2
   simp [ht, e1, e2, e3]
theorem lg_var {o : Od} {s t : T} (h : s.f < 0) : false = o.lg s t := by rw [Od.lg_eq, Od.lstep, if_pos h]
set_option maxRecDepth 100000 in
set_option maxHeartbeats 1000000 in
theorem labove_step (o : Od) (L1 L2 : List Nd) (q : LpoQ) (w0 : World) (n : Nat) (hH : LpoH o L1 L2) (hA : AboveOK o L1 L2 q w0 n) : AboveOK o L1 L2 q w0 (n + 1) := by
 intro i k w hi hk hz hst
 have hst0 := hst
 obtain ⟨hl1, hl2, hl3, hl4⟩ := hst.glt
 have hgm := hst.hgm
 refine Calls.walk (l := [.pointer (some ⟨q.gw, 0, none⟩), .int .i64 (((i : Nat) : Int)), .int .i64 (((k : Nat) : Int))]) Try.func59 rfl (by kernel_rfl) ?_
 refine WC.sub (K' := [(0, .pointer (some ⟨q.gw, 0, none⟩)), (1, .int .i64 (((i : Nat) : Int))), (2, .int .i64 (((k : Nat) : Int)))]) ⟨rfl, rfl, rfl, trivial⟩ ?_
 refine WC.seq (WC.region (WL.asg rfl rfl rfl rfl rfl (WL.nil (WE.next (WC.seq (WC.region (WL.mv rfl rfl rfl rfl rfl (WL.mv rfl rfl rfl rfl rfl ?_))))))))
 refine WL.val (.agg #[.int .i64 (((i : Nat) : Int)), .int .i64 (((k : Nat) : Int))]) rfl rfl rfl (fun za zC zh zk => build_94_0_1 rfl (zh.ev rfl) (zh.ev rfl) zk) ?_
 refine WL.step (post := NewBlk w 94 #[.int .i64 0, .int .i64 0]) rfl rfl rfl (fun za zC zh zk => alloc_94 rfl (zk _ _ (newBlk _ _ _))) ?_
 rintro _ w1 ⟨g2, rfl, hg3, hB4, hb5, hz6⟩
 have hl7 : q.gw < g2 := by have z1 := hst.blk.lt; omega
 have hl8 : w0.heap.size ≤ g2 := by have z2 := (hst.below).size; omega
 have hl9 : w.heap.size ≤ g2 := by omega
 refine WL.step (post := fun _ w' => Upd g2 w1 w' ∧ Blk w' g2 94 #[.int .i64 (((i : Nat) : Int)), .int .i64 (((k : Nat) : Int))]) rfl rfl rfl (fun za zC zh zk => st_94 rfl (zh.ev rfl) (zh.ev rfl) rfl rfl hB4 (by first | decide | simp) (fun v => zk v _ ⟨(Upd.at_ _ _ _ _).trans (Upd.at_ _ _ _ _), (hB4.set_ 0 _).set_ 1 _⟩)) ?_
 rintro v13 w10 ⟨hu11, hB12⟩
 have hb14 : Below w0.heap.size w0 w1 := (bstep hst.below hb5)
 have hb15 := upd_below hb14 hu11 (by omega)
 have hb16 := upd_below hb5 hu11 (by omega)
 have hB17 := hst.blk.below hb5
 have hB18 := upd_blk hB17 hu11 (by omega)
 refine WL.nil (WE.next (WC.seq (WC.seq ?_)))
 obtain ⟨bb, ff, hbf, hlk⟩ := wp_lookup_pr (i, k) (hst.bel hb16).map
 refine WC.opt [(true, .val (.pointer (some ⟨q.gw, 0, none⟩))), (true, .val (.pointer (some ⟨q.gw, 0, none⟩))), (true, .val (.pointer (some ⟨q.gw, 6, none⟩))), (true, .val (.map ((some q.gm)))), (true, .val (.agg #[.int .i64 (((i : Nat) : Int)), .int .i64 (((k : Nat) : Int))])), (true, .val (.tuple #[.bool bb, .bool ff])), (true, .val (.tuple #[.bool bb, .bool ff])), (true, .val (.bool bb)), (true, .val (.bool ff)), (true, .val (.bool bb)), (true, .val (.bool ff))] [(0, .pointer (some ⟨q.gw, 0, none⟩)), (1, .int .i64 (((i : Nat) : Int))), (2, .int .i64 (((k : Nat) : Int))), (6, .bool false), (7, .pointer (some ⟨g2, 0, none⟩))] ⟨rfl, rfl, rfl, rfl, rfl, trivial⟩ (by kernel_rfl) (by kernel_rfl) (by kernel_rfl) ?_ ?_
 ·refine ⟨⟨true, .none rfl, fun h w => optUndef h, fun zβ za zw zc => ?_⟩, ?_⟩
  ·exact wp_move rfl (zc.kn.ev rfl) ⟨_, rfl, Below.refl _ _, optDef zβ rfl⟩
  refine ⟨⟨true, .none rfl, fun h w => optUndef h, fun zβ za zw zc => ?_⟩, ?_⟩
  ·exact nilCheck_ rfl ((evt za 17).trans (optVal (zc.dep 0 17 (by kernel_rfl)) rfl rfl)) ⟨_, rfl, Below.refl _ _, optDef zβ rfl⟩
  refine ⟨⟨true, .none rfl, fun h w => optUndef h, fun zβ za zw zc => ?_⟩, ?_⟩
  ·exact fld_87_3 rfl ((evt za 18).trans (optVal (zc.dep 1 18 (by kernel_rfl)) rfl rfl)) ⟨_, rfl, Below.refl _ _, optDef zβ rfl⟩
  refine ⟨⟨true, .none rfl, fun h w => optUndef h, fun zβ za zw zc => ?_⟩, ?_⟩
  ·exact ld_85 rfl ((evt za 19).trans (optVal (zc.dep 2 19 (by kernel_rfl)) rfl rfl)) (bkeeps zc.below _ _ ((hB18.cell 6).trans rfl)) ⟨_, rfl, Below.refl _ _, optDef zβ rfl⟩
  refine ⟨⟨true, .none rfl, fun h w => optUndef h, fun zβ za zw zc => ?_⟩, ?_⟩
  ·exact ld_94 rfl (zc.kn.ev rfl) (bkeeps zc.below _ _ ((hB12.cell 0).trans rfl)) (bkeeps zc.below _ _ ((hB12.cell 1).trans rfl)) ⟨_, rfl, Below.refl _ _, optDef zβ rfl⟩
  refine ⟨⟨true, .none rfl, fun h w => optUndef h, fun zβ za zw zc => ?_⟩, ?_⟩
  ·exact hlk (zc.below.block _ (hst.bel hb16).glt.1) rfl ((evt za 20).trans (optVal (zc.dep 3 20 (by kernel_rfl)) rfl rfl)) ((evt za 21).trans (optVal (zc.dep 4 21 (by kernel_rfl)) rfl rfl)) ⟨_, rfl, Below.refl _ _, optDef zβ rfl⟩
  refine ⟨⟨true, .none rfl, fun h w => optUndef h, fun zβ za zw zc => ?_⟩, ?_⟩
  ·exact wp_move rfl ((evt za 22).trans (optVal (zc.dep 5 22 (by kernel_rfl)) rfl rfl)) ⟨_, rfl, Below.refl _ _, optDef zβ rfl⟩
  refine ⟨⟨true, .none rfl, fun h w => optUndef h, fun zβ za zw zc => ?_⟩, ?_⟩
  ·exact ext2_0 rfl ((evt za 16).trans (optVal (zc.dep 6 16 (by kernel_rfl)) rfl rfl)) ⟨_, rfl, Below.refl _ _, optDef zβ rfl⟩
  refine ⟨⟨true, .none rfl, fun h w => optUndef h, fun zβ za zw zc => ?_⟩, ?_⟩
  ·exact ext2_1 rfl ((evt za 16).trans (optVal (zc.dep 6 16 (by kernel_rfl)) rfl rfl)) ⟨_, rfl, Below.refl _ _, optDef zβ rfl⟩
  refine ⟨⟨true, .none rfl, fun h w => optUndef h, fun zβ za zw zc => ?_⟩, ?_⟩
  ·exact wp_assign rfl ((evt za 23).trans (optVal (zc.dep 7 23 (by kernel_rfl)) rfl rfl)) ⟨_, rfl, Below.refl _ _, optDef zβ rfl⟩
  refine ⟨⟨true, .none rfl, fun h w => optUndef h, fun zβ za zw zc => ?_⟩, ?_⟩
  ·exact wp_assign rfl ((evt za 24).trans (optVal (zc.dep 8 24 (by kernel_rfl)) rfl rfl)) ⟨_, rfl, Below.refl _ _, optDef zβ rfl⟩
  exact trivial
 ·intro za w19 zh hb20 zu
  have zh := zh.cons (d := 8) (v := .bool bb) (optVal (zu 9 8 (by kernel_rfl)) rfl rfl)
  have zh := zh.cons (d := 9) (v := .bool ff) (optVal (zu 10 9 (by kernel_rfl)) rfl rfl)
  clear zu
  refine WE.go zh ?_
  refine WE.next (WC.seq (WC.region (WL.mv rfl rfl rfl rfl rfl (WL.nil (WE.next ?_)))))
  refine WC.cond rfl (fun h21 => ?_) (fun h21 => ?_)
  ·skip
   have hres : bb = o.lg (ndget L1 i).t (ndget L2 k).t := hbf h21
   refine WC.seq (WC.region (WL.mv rfl rfl rfl rfl rfl (WL.asg rfl rfl rfl rfl rfl (WL.nil (WE.next (WC.ret (WE.thenRet (WE.ret1 rfl rfl ?_))))))))
   have hb22 : Below w.heap.size w w19 := (bstep hb16 hb20)
   have hs23 : Chg ((fun b => b = q.gm)) w w19 := (Chg.trans2 (Chg.refl ((fun b => b = q.gm)) _) (Chg.ofBelow (S := fun k => k < 0) hb22) (fun i h1 h2 => by first | exact h2 | exact .inl ⟨h2, h1⟩ | exact .inl h2 | exact .inr h2 | exact .inr (.inl h2) | exact .inr (.inr h2) | ((try dsimp only at *); omega)))
   exact ⟨_, rfl, congrArg Value.bool (by first | exact hres | exact lg_var (by omega)), (hst.bel hb22), hs23⟩
  ·skip
   refine WC.skip (WE.next (WC.seq (WC.seq (WC.region (WL.mv rfl rfl rfl rfl rfl ?_)))))
   refine WL.val _ rfl rfl rfl (fun za zC zh zk => nilCheck_ rfl (zh.ev rfl) zk) ?_
   refine WL.val _ rfl rfl rfl (fun za zC zh zk => fld_87_1 rfl (zh.ev rfl) zk) ?_
   have hB24 := hB18.below hb20
   refine WL.val _ rfl rfl rfl (fun za zC zh zk => ld_83 rfl (zh.ev rfl) ((hB24.cell 4).trans rfl) zk) ?_
   refine WL.mv rfl rfl rfl rfl rfl ?_
   refine WL.val _ rfl rfl rfl (fun za zC zh zk => ix_83 (k := i) rfl (zh.ev rfl) rfl (zh.ev rfl) (by first | omega | (simp; omega)) zk) ?_
   refine WL.val _ rfl rfl rfl (fun za zC zh zk => fld_92_0 rfl (zh.ev rfl) zk) ?_
   refine WL.val _ rfl rfl rfl (fun za zC zh zk => fld_34_0 rfl (zh.ev rfl) zk) ?_
   have hb25 : Below w.heap.size w w19 := (bstep hb16 hb20)
   refine WL.val _ rfl rfl rfl (fun za zC zh zk => ld_3 rfl (zh.ev rfl) ((hst.bel hb25).n1.c0 i (by first | omega | (simp; omega))) zk) ?_
   refine WL.val (.bool ((decide (((ndget L1 i).t.f : Int) < (0 : Int))))) rfl rfl rfl (fun za zC zh zk => lss_3 rfl (zh.ev rfl) (zh.ev rfl) zk) ?_
   refine WL.nil (WE.next ?_)
   refine WC.cond rfl (fun h26 => ?_) (fun h26 => ?_)
   ·have h26 : ((ndget L1 i).t.f : Int) < (0 : Int) := by simpa using h26
    refine WC.seq (WC.region (WL.asg rfl rfl rfl rfl rfl (WL.nil (WE.next (WC.ret (WE.thenRet (WE.ret1 rfl rfl ?_)))))))
    have hs27 : Chg ((fun b => b = q.gm)) w w19 := (Chg.trans2 (Chg.refl ((fun b => b = q.gm)) _) (Chg.ofBelow (S := fun k => k < 0) hb25) (fun i h1 h2 => by first | exact h2 | exact .inl ⟨h2, h1⟩ | exact .inl h2 | exact .inr h2 | exact .inr (.inl h2) | exact .inr (.inr h2) | ((try dsimp only at *); omega)))
    exact ⟨_, rfl, congrArg Value.bool (by first | exact hres | exact lg_var (by omega)), (hst.bel hb25), hs27⟩
   ·have h26 : ¬ (((ndget L1 i).t.f : Int) < (0 : Int)) := by simpa using h26
    refine WC.skip (WE.next (WC.seq (WC.region (WL.asg rfl rfl rfl rfl rfl (WL.nil (WE.next (WC.seq (WC.seq (WC.region (WL.mv rfl rfl rfl rfl rfl ?_))))))))))
    refine WL.val (.func (Fn.func 62) #[.pointer (some ⟨q.gw, 0, none⟩)] #[]) rfl rfl rfl (fun za zC zh zk => mkfn rfl (hv1 (zh.ev rfl)) (hv0) zk) ?_
    refine WL.mv rfl rfl rfl rfl rfl ?_
    refine WL.val (.func (Fn.func 63) #[.pointer (some ⟨q.gw, 0, none⟩)] #[]) rfl rfl rfl (fun za zC zh zk => mkfn rfl (hv1 (zh.ev rfl)) (hv0) zk) ?_
    refine WL.mv rfl rfl rfl rfl rfl ?_
    refine WL.val (.func (Fn.func 64) #[.pointer (some ⟨q.gw, 0, none⟩)] #[]) rfl rfl rfl (fun za zC zh zk => mkfn rfl (hv1 (zh.ev rfl)) (hv0) zk) ?_
    refine WL.mv rfl rfl rfl rfl rfl ?_
    refine WL.val (.func (Fn.func 65) #[.pointer (some ⟨q.gw, 0, none⟩)] #[]) rfl rfl rfl (fun za zC zh zk => mkfn rfl (hv1 (zh.ev rfl)) (hv0) zk) ?_
    refine WL.step (post := NewRow w19 88 #[.func (Fn.func 62) #[.pointer (some ⟨q.gw, 0, none⟩)] #[], .func (Fn.func 63) #[.pointer (some ⟨q.gw, 0, none⟩)] #[], .func (Fn.func 64) #[.pointer (some ⟨q.gw, 0, none⟩)] #[], .func (Fn.func 65) #[.pointer (some ⟨q.gw, 0, none⟩)] #[]] 4) rfl rfl rfl (fun za zC zh zk => row_95_4 rfl (zh.ev rfl) (zh.ev rfl) (zh.ev rfl) (zh.ev rfl) (zk _ _ (newRow _ _ _ _))) ?_
    rintro _ w28 ⟨g29, rfl, hg30, hB31, hb32, hz33⟩
    have hl34 : q.gw < g29 := by have z1 := hB24.lt; omega
    have hl35 : g2 < g29 := by have z1 := hB12.lt; have z2 := (hb20).size; omega
    have hb36 : Below w0.heap.size w0 w19 := (bstep hst.below hb25)
    have hl37 : w0.heap.size ≤ g29 := by have z2 := (hb36).size; omega
    have hl38 : w.heap.size ≤ g29 := by have z2 := (hb25).size; omega
    refine WL.val (.int .i64 4) rfl rfl rfl (fun za zC zh zk => len_95 rfl (zh.ev rfl) zk) ?_
    refine WL.mv rfl rfl rfl rfl rfl ?_
    refine WL.nil (WE.sub (K' := [(0, .pointer (some ⟨q.gw, 0, none⟩)), (1, .int .i64 (((i : Nat) : Int))), (2, .int .i64 (((k : Nat) : Int))), (6, .bool false), (7, .pointer (some ⟨g2, 0, none⟩)), (8, .bool bb), (9, .bool ff), (10, .bool false), (25, .bool ff), (36, .bool ((decide (((ndget L1 i).t.f : Int) < (0 : Int))))), (45, .slice ((some ⟨g29, 0, none⟩)) 4 4), (46, .int .i64 4), (47, .int .i64 0)]) ⟨rfl, rfl, rfl, rfl, rfl, rfl, rfl, rfl, rfl, rfl, rfl, rfl, rfl, trivial⟩ ?_)
    refine WE.next (WC.block ?_)
    refine WC.loop (X := Nat) (fun j => 4 - j) (fun j => [(0, .pointer (some ⟨q.gw, 0, none⟩)), (1, .int .i64 (((i : Nat) : Int))), (2, .int .i64 (((k : Nat) : Int))), (6, .bool false), (7, .pointer (some ⟨g2, 0, none⟩)), (8, .bool bb), (9, .bool ff), (10, .bool false), (25, .bool ff), (36, .bool ((decide (((ndget L1 i).t.f : Int) < (0 : Int))))), (45, .slice ((some ⟨g29, 0, none⟩)) 4 4), (46, .int .i64 4), (47, .int .i64 (((j : Nat) : Int)))]) (fun j w39 => (j = 0 ∨ j = 1 ∨ j = 2 ∨ j = 3 ∨ j = 4) ∧ (1 ≤ j → (decide ((ndget L2 k).t.f < 0) && T.has (ndget L2 k).t.f (ndget L1 i).t) = false) ∧ (2 ≤ j → (!decide ((ndget L2 k).t.f < 0) && (ndget L1 i).t.args.any (fun a => T.same a (ndget L2 k).t || o.lg a (ndget L2 k).t)) = false) ∧ (3 ≤ j → (((decide ((0 : Int) ≤ (ndget L2 k).t.f) && ((ndget L1 i).t.f != (ndget L2 k).t.f)) && decide (o.rank (ndget L2 k).t.f < o.rank (ndget L1 i).t.f)) && (ndget L2 k).t.args.all (o.lg (ndget L1 i).t)) = false) ∧ (4 ≤ j → ((decide ((ndget L1 i).t.f = (ndget L2 k).t.f) && (ndget L2 k).t.args.all (o.lg (ndget L1 i).t)) && lexR o.lg (ndget L1 i).t.args (ndget L2 k).t.args) = false) ∧ LpoSt o L1 L2 q w0 w39 ∧ Below w0.heap.size w0 w39 ∧ Blk w39 q.gw 87 #[.bool o.lpo, .slice q.p1 o.prec.length q.k1, .slice q.p2 o.weights.length q.k2, .int .i64 o.var, .slice ((some ⟨q.b1, 0, none⟩)) L1.length q.r1, .slice ((some ⟨q.b2, 0, none⟩)) L2.length q.r2, .map ((some q.gm))] ∧ Blk w39 g2 94 #[.int .i64 (((i : Nat) : Int)), .int .i64 (((k : Nat) : Int))] ∧ Blk w39 g29 88 #[.func (Fn.func 62) #[.pointer (some ⟨q.gw, 0, none⟩)] #[], .func (Fn.func 63) #[.pointer (some ⟨q.gw, 0, none⟩)] #[], .func (Fn.func 64) #[.pointer (some ⟨q.gw, 0, none⟩)] #[], .func (Fn.func 65) #[.pointer (some ⟨q.gw, 0, none⟩)] #[]] ∧ Chg ((fun b => b = q.gm)) w w39) 0 ⟨rfl, rfl, rfl, rfl, rfl, rfl, rfl, rfl, rfl, rfl, rfl, rfl, rfl, trivial⟩ ?_ ?_
    ·have hb40 : Below w.heap.size w w28 := (bstep hb25 hb32)
     have hb41 : Below w0.heap.size w0 w28 := (bstep hst.below hb40)
     have hB42 := hB24.below hb32
     have hb44 : Below w10.heap.size w10 w28 := (bstep hb20 hb32)
     have hB43 := hB12.below hb44
     have hs45 : Chg ((fun b => b = q.gm)) w w28 := (Chg.trans2 (Chg.refl ((fun b => b = q.gm)) _) (Chg.ofBelow (S := fun k => k < 0) hb40) (fun i h1 h2 => by first | exact h2 | exact .inl ⟨h2, h1⟩ | exact .inl h2 | exact .inr h2 | exact .inr (.inl h2) | exact .inr (.inr h2) | ((try dsimp only at *); omega)))
     exact ⟨(by decide), (fun z => absurd z (by decide)), (fun z => absurd z (by decide)), (fun z => absurd z (by decide)), (fun z => absurd z (by decide)), (hst.bel hb40), hb41, hB42, hB43, hB31, hs45⟩
    ·rintro j w39 ⟨hj, hr1, hr2, hr3, hr4, hstl, hb46, hB47, hB48, hB49, hc50⟩
     obtain ⟨hl51, hl52, hl53, hl54⟩ := hstl.glt
     rcases hj with rfl | rfl | rfl | rfl | rfl
     ·refine WC.seq (WC.region ?_)
      refine WL.val (.bool ((decide ((0 : Int) < (4 : Int))))) rfl rfl rfl (fun za zC zh zk => lss_3 rfl (zh.ev rfl) (zh.ev rfl) zk) ?_
      refine WL.nil (WE.next (WC.seq ?_))
      refine WC.condT rfl (by decide) ?_
      refine WC.skip (WE.next (WC.seq (WC.block (WC.seq (WC.region ?_)))))
      refine WL.val _ rfl rfl rfl (fun za zC zh zk => ix_95 (k := 0) rfl (zh.ev rfl) rfl (zh.ev rfl) (by first | omega | (simp; omega)) zk) ?_
      refine WL.val _ rfl rfl rfl (fun za zC zh zk => ld_88 rfl (zh.ev rfl) ((hB49.cell 0).trans rfl) zk) ?_
      refine WL.asg rfl rfl rfl rfl rfl (WL.nil (WE.next (WC.seq (WC.region (WL.mv rfl rfl rfl rfl rfl (WL.mv rfl rfl rfl rfl rfl (WL.mv rfl rfl rfl rfl rfl ?_)))))))
      refine WL.call rfl rfl rfl (fun za zh zC => wp_callv (by kernel_rfl) rfl (zh.ev rfl) (hv2 (zh.ev rfl) (zh.ev rfl))) (lvariable_any o L1 L2 q w0 n hH hA i k _ hi hk hz hstl) ?_
      rintro _ w57 ⟨rfl, hst55, hc56⟩
      have hl58 := hB47.lt
      have hl59 := hB48.lt
      have hl60 := hB49.lt
      have hb61 := chg_below hb46 hc56 (fun b hb => (by (try dsimp only at *); omega))
      have hB62 := chg_blk hB47 hc56 (by (try dsimp only at *); omega)
      have hB63 := chg_blk hB48 hc56 (by (try dsimp only at *); omega)
      have hB64 := chg_blk hB49 hc56 (by (try dsimp only at *); omega)
      obtain ⟨hl65, hl66, hl67, hl68⟩ := hst55.glt
      refine WL.nil (WE.next ?_)
      refine WC.cond rfl (fun h69 => ?_) (fun h69 => ?_)
      ·skip
       have hres : true = o.lg (ndget L1 i).t (ndget L2 k).t := by rw [lg_reasons (by omega), show (decide ((ndget L2 k).t.f < 0) && T.has (ndget L2 k).t.f (ndget L1 i).t) = true from h69]; simp
       refine WC.seq (WC.region (WL.asg rfl rfl rfl rfl rfl (WL.nil (WE.next (WC.exit (WE.blockNot rfl (WE.thenExit (WE.thenExit (WE.blockIs rfl (WE.next (WC.seq ?_)))))))))))
       refine WC.optc [(true, .pointer (some ⟨q.gw, 0, none⟩)), (true, .pointer (some ⟨q.gw, 0, none⟩)), (true, .pointer (some ⟨q.gw, 6, none⟩)), (true, .map ((some q.gm))), (true, .agg #[.int .i64 (((i : Nat) : Int)), .int .i64 (((k : Nat) : Int))]), (true, .bool true), (true, undef)] [(0, .pointer (some ⟨q.gw, 0, none⟩)), (1, .int .i64 (((i : Nat) : Int))), (2, .int .i64 (((k : Nat) : Int))), (6, .bool false), (7, .pointer (some ⟨g2, 0, none⟩)), (8, .bool bb), (9, .bool ff), (10, .bool true), (12, .func (Fn.func 62) #[.pointer (some ⟨q.gw, 0, none⟩)] #[]), (25, .bool ff), (36, .bool ((decide (((ndget L1 i).t.f : Int) < (0 : Int))))), (45, .slice ((some ⟨g29, 0, none⟩)) 4 4), (46, .int .i64 4), (47, .int .i64 0), (48, .bool ((decide ((0 : Int) < (4 : Int))))), (54, .bool ((decide ((ndget L2 k).t.f < 0) && T.has (ndget L2 k).t.f (ndget L1 i).t)))] (S := (fun b => b = q.gm)) (I := (LpoSt o L1 L2 q w0)) (fun _ _ hb h => h.bel hb) hst55 ⟨rfl, rfl, rfl, rfl, rfl, rfl, rfl, rfl, rfl, rfl, rfl, rfl, rfl, rfl, rfl, rfl, trivial⟩ (by kernel_rfl) (by kernel_rfl) (by kernel_rfl) ?_ ?_
       ·refine ⟨⟨true, .none rfl, fun h => optUndef h, fun zβ za zw zc => ?_⟩, ?_⟩
        ·exact wp_move rfl (zc.kn.ev rfl) ⟨_, rfl, zc.chg, zc.inv, optDef zβ rfl⟩
        refine ⟨⟨true, .none rfl, fun h => optUndef h, fun zβ za zw zc => ?_⟩, ?_⟩
        ·exact nilCheck_ rfl ((evt za 56).trans (valVal (zc.dep 0 56 (by kernel_rfl)) rfl rfl)) ⟨_, rfl, zc.chg, zc.inv, optDef zβ rfl⟩
        refine ⟨⟨true, .none rfl, fun h => optUndef h, fun zβ za zw zc => ?_⟩, ?_⟩
        ·exact fld_87_3 rfl ((evt za 57).trans (valVal (zc.dep 1 57 (by kernel_rfl)) rfl rfl)) ⟨_, rfl, zc.chg, zc.inv, optDef zβ rfl⟩
        refine ⟨⟨true, .none rfl, fun h => optUndef h, fun zβ za zw zc => ?_⟩, ?_⟩
        ·exact ld_85 rfl ((evt za 58).trans (valVal (zc.dep 2 58 (by kernel_rfl)) rfl rfl)) (chg_cell zc.chg (by (try dsimp only at *); omega) ((hB62.cell 6).trans rfl)) ⟨_, rfl, zc.chg, zc.inv, optDef zβ rfl⟩
        refine ⟨⟨true, .none rfl, fun h => optUndef h, fun zβ za zw zc => ?_⟩, ?_⟩
        ·exact ld_94 rfl (zc.kn.ev rfl) (chg_cell zc.chg (by (try dsimp only at *); omega) ((hB63.cell 0).trans rfl)) (chg_cell zc.chg (by (try dsimp only at *); omega) ((hB63.cell 1).trans rfl)) ⟨_, rfl, zc.chg, zc.inv, optDef zβ rfl⟩
        refine ⟨⟨true, .none rfl, fun h => optUndef h, fun zβ za zw zc => ?_⟩, ?_⟩
        ·exact wp_move rfl (zc.kn.ev rfl) ⟨_, rfl, zc.chg, zc.inv, optDef zβ rfl⟩
        refine ⟨⟨true, .none rfl, fun h => optUndef h, fun zβ za zw zc => ?_⟩, ?_⟩
        ·exact wp_mapUpdate_pr (s := (i, k)) rfl ((evt za 59).trans (valVal (zc.dep 3 59 (by kernel_rfl)) rfl rfl)) ((evt za 60).trans (valVal (zc.dep 4 60 (by kernel_rfl)) rfl rfl)) ((evt za 61).trans (valVal (zc.dep 5 61 (by kernel_rfl)) rfl rfl)) zc.inv.map hres (fun w' hm hu => ⟨_, rfl, zc.chg.trans (.ofUpd hu rfl), zc.inv.step (.ofUpd hu rfl) hm, optDef zβ rfl⟩)
        exact trivial
       ·intro za w70 zh hb71 hst72 zu
        have hl73 := hB62.lt
        have hl74 := hB63.lt
        have hl75 := hB64.lt
        have hb76 := chg_below hb61 hb71 (fun b hb => (by (try dsimp only at *); omega))
        have hB77 := chg_blk hB62 hb71 (by (try dsimp only at *); omega)
        have hB78 := chg_blk hB63 hb71 (by (try dsimp only at *); omega)
        have hB79 := chg_blk hB64 hb71 (by (try dsimp only at *); omega)
        obtain ⟨hl80, hl81, hl82, hl83⟩ := hst72.glt
        clear zu
        refine WE.go zh ?_
        refine WE.next (WC.seq (WC.region (WL.mv rfl rfl rfl rfl rfl (WL.asg rfl rfl rfl rfl rfl (WL.nil (WE.next (WC.ret (WE.ret1 rfl rfl ?_))))))))
        have hs84 : Chg ((fun b => b = q.gm)) w w70 := (Chg.trans2 (Chg.trans2 (Chg.trans2 (Chg.refl ((fun b => b = q.gm)) _) hc50 (fun i h1 h2 => by first | exact h2 | exact .inl ⟨h2, h1⟩ | exact .inl h2 | exact .inr h2 | exact .inr (.inl h2) | exact .inr (.inr h2) | ((try dsimp only at *); omega))) hc56 (fun i h1 h2 => by first | exact h2 | exact .inl ⟨h2, h1⟩ | exact .inl h2 | exact .inr h2 | exact .inr (.inl h2) | exact .inr (.inr h2) | ((try dsimp only at *); omega))) hb71 (fun i h1 h2 => by first | exact h2 | exact .inl ⟨h2, h1⟩ | exact .inl h2 | exact .inr h2 | exact .inr (.inl h2) | exact .inr (.inr h2) | ((try dsimp only at *); omega)))
        exact ⟨_, rfl, congrArg Value.bool (by first | exact hres | exact lg_var (by omega)), hst72, hs84⟩
      ·skip
       refine WC.skip (WE.blockNormal (WE.next (WC.region ?_)))
       refine WL.val (.int .i64 1) rfl rfl rfl (fun za zC zh zk => addb_3 rfl (zh.ev rfl) (zh.ev rfl) (wrap_eq (by omega) (by omega) (by omega)) zk) ?_
       refine WL.mv rfl rfl rfl rfl rfl (WL.nil ?_)
       refine WE.round 1 ⟨rfl, rfl, rfl, rfl, rfl, rfl, rfl, rfl, rfl, rfl, rfl, rfl, rfl, trivial⟩ ?_ ?_
       ·have hs85 : Chg ((fun b => b = q.gm)) w w57 := (Chg.trans2 (Chg.trans2 (Chg.refl ((fun b => b = q.gm)) _) hc50 (fun i h1 h2 => by first | exact h2 | exact .inl ⟨h2, h1⟩ | exact .inl h2 | exact .inr h2 | exact .inr (.inl h2) | exact .inr (.inr h2) | ((try dsimp only at *); omega))) hc56 (fun i h1 h2 => by first | exact h2 | exact .inl ⟨h2, h1⟩ | exact .inl h2 | exact .inr h2 | exact .inr (.inl h2) | exact .inr (.inr h2) | ((try dsimp only at *); omega)))
        exact ⟨(by decide), (fun _ => h69), (fun z => absurd z (by decide)), (fun z => absurd z (by decide)), (fun z => absurd z (by decide)), hst55, hb61, hB62, hB63, hB64, hs85⟩
       ·omega
     ·refine WC.seq (WC.region ?_)
      refine WL.val (.bool ((decide ((1 : Int) < (4 : Int))))) rfl rfl rfl (fun za zC zh zk => lss_3 rfl (zh.ev rfl) (zh.ev rfl) zk) ?_
      refine WL.nil (WE.next (WC.seq ?_))
      refine WC.condT rfl (by decide) ?_
      refine WC.skip (WE.next (WC.seq (WC.block (WC.seq (WC.region ?_)))))
      refine WL.val _ rfl rfl rfl (fun za zC zh zk => ix_95 (k := 1) rfl (zh.ev rfl) rfl (zh.ev rfl) (by first | omega | (simp; omega)) zk) ?_
      refine WL.val _ rfl rfl rfl (fun za zC zh zk => ld_88 rfl (zh.ev rfl) ((hB49.cell 1).trans rfl) zk) ?_
      refine WL.asg rfl rfl rfl rfl rfl (WL.nil (WE.next (WC.seq (WC.region (WL.mv rfl rfl rfl rfl rfl (WL.mv rfl rfl rfl rfl rfl (WL.mv rfl rfl rfl rfl rfl ?_)))))))
      refine WL.call rfl rfl rfl (fun za zh zC => wp_callv (by kernel_rfl) rfl (zh.ev rfl) (hv2 (zh.ev rfl) (zh.ev rfl))) (lwithin_any o L1 L2 q w0 n hH hA i k _ hi hk hz hstl) ?_
      rintro _ w88 ⟨rfl, hst86, hc87⟩
      have hl89 := hB47.lt
      have hl90 := hB48.lt
      have hl91 := hB49.lt
      have hb92 := chg_below hb46 hc87 (fun b hb => (by (try dsimp only at *); omega))
      have hB93 := chg_blk hB47 hc87 (by (try dsimp only at *); omega)
      have hB94 := chg_blk hB48 hc87 (by (try dsimp only at *); omega)
      have hB95 := chg_blk hB49 hc87 (by (try dsimp only at *); omega)
      obtain ⟨hl96, hl97, hl98, hl99⟩ := hst86.glt
      refine WL.nil (WE.next ?_)
      refine WC.cond rfl (fun h100 => ?_) (fun h100 => ?_)
      ·skip
       have hres : true = o.lg (ndget L1 i).t (ndget L2 k).t := by rw [lg_reasons (by omega), show (!decide ((ndget L2 k).t.f < 0) && (ndget L1 i).t.args.any (fun a => T.same a (ndget L2 k).t || o.lg a (ndget L2 k).t)) = true from h100]; simp
       refine WC.seq (WC.region (WL.asg rfl rfl rfl rfl rfl (WL.nil (WE.next (WC.exit (WE.blockNot rfl (WE.thenExit (WE.thenExit (WE.blockIs rfl (WE.next (WC.seq ?_)))))))))))
       refine WC.optc [(true, .pointer (some ⟨q.gw, 0, none⟩)), (true, .pointer (some ⟨q.gw, 0, none⟩)), (true, .pointer (some ⟨q.gw, 6, none⟩)), (true, .map ((some q.gm))), (true, .agg #[.int .i64 (((i : Nat) : Int)), .int .i64 (((k : Nat) : Int))]), (true, .bool true), (true, undef)] [(0, .pointer (some ⟨q.gw, 0, none⟩)), (1, .int .i64 (((i : Nat) : Int))), (2, .int .i64 (((k : Nat) : Int))), (6, .bool false), (7, .pointer (some ⟨g2, 0, none⟩)), (8, .bool bb), (9, .bool ff), (10, .bool true), (12, .func (Fn.func 63) #[.pointer (some ⟨q.gw, 0, none⟩)] #[]), (25, .bool ff), (36, .bool ((decide (((ndget L1 i).t.f : Int) < (0 : Int))))), (45, .slice ((some ⟨g29, 0, none⟩)) 4 4), (46, .int .i64 4), (47, .int .i64 1), (48, .bool ((decide ((1 : Int) < (4 : Int))))), (54, .bool ((!decide ((ndget L2 k).t.f < 0) && (ndget L1 i).t.args.any (fun a => T.same a (ndget L2 k).t || o.lg a (ndget L2 k).t))))] (S := (fun b => b = q.gm)) (I := (LpoSt o L1 L2 q w0)) (fun _ _ hb h => h.bel hb) hst86 ⟨rfl, rfl, rfl, rfl, rfl, rfl, rfl, rfl, rfl, rfl, rfl, rfl, rfl, rfl, rfl, rfl, trivial⟩ (by kernel_rfl) (by kernel_rfl) (by kernel_rfl) ?_ ?_
       ·refine ⟨⟨true, .none rfl, fun h => optUndef h, fun zβ za zw zc => ?_⟩, ?_⟩
        ·exact wp_move rfl (zc.kn.ev rfl) ⟨_, rfl, zc.chg, zc.inv, optDef zβ rfl⟩
        refine ⟨⟨true, .none rfl, fun h => optUndef h, fun zβ za zw zc => ?_⟩, ?_⟩
        ·exact nilCheck_ rfl ((evt za 56).trans (valVal (zc.dep 0 56 (by kernel_rfl)) rfl rfl)) ⟨_, rfl, zc.chg, zc.inv, optDef zβ rfl⟩
        refine ⟨⟨true, .none rfl, fun h => optUndef h, fun zβ za zw zc => ?_⟩, ?_⟩
        ·exact fld_87_3 rfl ((evt za 57).trans (valVal (zc.dep 1 57 (by kernel_rfl)) rfl rfl)) ⟨_, rfl, zc.chg, zc.inv, optDef zβ rfl⟩
        refine ⟨⟨true, .none rfl, fun h => optUndef h, fun zβ za zw zc => ?_⟩, ?_⟩
        ·exact ld_85 rfl ((evt za 58).trans (valVal (zc.dep 2 58 (by kernel_rfl)) rfl rfl)) (chg_cell zc.chg (by (try dsimp only at *); omega) ((hB93.cell 6).trans rfl)) ⟨_, rfl, zc.chg, zc.inv, optDef zβ rfl⟩
        refine ⟨⟨true, .none rfl, fun h => optUndef h, fun zβ za zw zc => ?_⟩, ?_⟩
        ·exact ld_94 rfl (zc.kn.ev rfl) (chg_cell zc.chg (by (try dsimp only at *); omega) ((hB94.cell 0).trans rfl)) (chg_cell zc.chg (by (try dsimp only at *); omega) ((hB94.cell 1).trans rfl)) ⟨_, rfl, zc.chg, zc.inv, optDef zβ rfl⟩
        refine ⟨⟨true, .none rfl, fun h => optUndef h, fun zβ za zw zc => ?_⟩, ?_⟩
        ·exact wp_move rfl (zc.kn.ev rfl) ⟨_, rfl, zc.chg, zc.inv, optDef zβ rfl⟩
        refine ⟨⟨true, .none rfl, fun h => optUndef h, fun zβ za zw zc => ?_⟩, ?_⟩
        ·exact wp_mapUpdate_pr (s := (i, k)) rfl ((evt za 59).trans (valVal (zc.dep 3 59 (by kernel_rfl)) rfl rfl)) ((evt za 60).trans (valVal (zc.dep 4 60 (by kernel_rfl)) rfl rfl)) ((evt za 61).trans (valVal (zc.dep 5 61 (by kernel_rfl)) rfl rfl)) zc.inv.map hres (fun w' hm hu => ⟨_, rfl, zc.chg.trans (.ofUpd hu rfl), zc.inv.step (.ofUpd hu rfl) hm, optDef zβ rfl⟩)
        exact trivial
       ·intro za w101 zh hb102 hst103 zu
        have hl104 := hB93.lt
        have hl105 := hB94.lt
        have hl106 := hB95.lt
        have hb107 := chg_below hb92 hb102 (fun b hb => (by (try dsimp only at *); omega))
        have hB108 := chg_blk hB93 hb102 (by (try dsimp only at *); omega)
        have hB109 := chg_blk hB94 hb102 (by (try dsimp only at *); omega)
        have hB110 := chg_blk hB95 hb102 (by (try dsimp only at *); omega)
        obtain ⟨hl111, hl112, hl113, hl114⟩ := hst103.glt
        clear zu
        refine WE.go zh ?_
        refine WE.next (WC.seq (WC.region (WL.mv rfl rfl rfl rfl rfl (WL.asg rfl rfl rfl rfl rfl (WL.nil (WE.next (WC.ret (WE.ret1 rfl rfl ?_))))))))
        have hs115 : Chg ((fun b => b = q.gm)) w w101 := (Chg.trans2 (Chg.trans2 (Chg.trans2 (Chg.refl ((fun b => b = q.gm)) _) hc50 (fun i h1 h2 => by first | exact h2 | exact .inl ⟨h2, h1⟩ | exact .inl h2 | exact .inr h2 | exact .inr (.inl h2) | exact .inr (.inr h2) | ((try dsimp only at *); omega))) hc87 (fun i h1 h2 => by first | exact h2 | exact .inl ⟨h2, h1⟩ | exact .inl h2 | exact .inr h2 | exact .inr (.inl h2) | exact .inr (.inr h2) | ((try dsimp only at *); omega))) hb102 (fun i h1 h2 => by first | exact h2 | exact .inl ⟨h2, h1⟩ | exact .inl h2 | exact .inr h2 | exact .inr (.inl h2) | exact .inr (.inr h2) | ((try dsimp only at *); omega)))
        exact ⟨_, rfl, congrArg Value.bool (by first | exact hres | exact lg_var (by omega)), hst103, hs115⟩
      ·skip
       refine WC.skip (WE.blockNormal (WE.next (WC.region ?_)))
       refine WL.val (.int .i64 2) rfl rfl rfl (fun za zC zh zk => addb_3 rfl (zh.ev rfl) (zh.ev rfl) (wrap_eq (by omega) (by omega) (by omega)) zk) ?_
       refine WL.mv rfl rfl rfl rfl rfl (WL.nil ?_)
       refine WE.round 2 ⟨rfl, rfl, rfl, rfl, rfl, rfl, rfl, rfl, rfl, rfl, rfl, rfl, rfl, trivial⟩ ?_ ?_
       ·have hs116 : Chg ((fun b => b = q.gm)) w w88 := (Chg.trans2 (Chg.trans2 (Chg.refl ((fun b => b = q.gm)) _) hc50 (fun i h1 h2 => by first | exact h2 | exact .inl ⟨h2, h1⟩ | exact .inl h2 | exact .inr h2 | exact .inr (.inl h2) | exact .inr (.inr h2) | ((try dsimp only at *); omega))) hc87 (fun i h1 h2 => by first | exact h2 | exact .inl ⟨h2, h1⟩ | exact .inl h2 | exact .inr h2 | exact .inr (.inl h2) | exact .inr (.inr h2) | ((try dsimp only at *); omega)))
        exact ⟨(by decide), (fun z => hr1 (by omega)), (fun _ => h100), (fun z => absurd z (by decide)), (fun z => absurd z (by decide)), hst86, hb92, hB93, hB94, hB95, hs116⟩
       ·omega
     ·refine WC.seq (WC.region ?_)
      refine WL.val (.bool ((decide ((2 : Int) < (4 : Int))))) rfl rfl rfl (fun za zC zh zk => lss_3 rfl (zh.ev rfl) (zh.ev rfl) zk) ?_
      refine WL.nil (WE.next (WC.seq ?_))
      refine WC.condT rfl (by decide) ?_
      refine WC.skip (WE.next (WC.seq (WC.block (WC.seq (WC.region ?_)))))
      refine WL.val _ rfl rfl rfl (fun za zC zh zk => ix_95 (k := 2) rfl (zh.ev rfl) rfl (zh.ev rfl) (by first | omega | (simp; omega)) zk) ?_
      refine WL.val _ rfl rfl rfl (fun za zC zh zk => ld_88 rfl (zh.ev rfl) ((hB49.cell 2).trans rfl) zk) ?_
      refine WL.asg rfl rfl rfl rfl rfl (WL.nil (WE.next (WC.seq (WC.region (WL.mv rfl rfl rfl rfl rfl (WL.mv rfl rfl rfl rfl rfl (WL.mv rfl rfl rfl rfl rfl ?_)))))))
      refine WL.call rfl rfl rfl (fun za zh zC => wp_callv (by kernel_rfl) rfl (zh.ev rfl) (hv2 (zh.ev rfl) (zh.ev rfl))) (lranked_any o L1 L2 q w0 n hH hA i k _ hi hk hz (by omega) hstl) ?_
      rintro _ w119 ⟨rfl, hst117, hc118⟩
      have hl120 := hB47.lt
      have hl121 := hB48.lt
      have hl122 := hB49.lt
      have hb123 := chg_below hb46 hc118 (fun b hb => (by (try dsimp only at *); omega))
      have hB124 := chg_blk hB47 hc118 (by (try dsimp only at *); omega)
      have hB125 := chg_blk hB48 hc118 (by (try dsimp only at *); omega)
      have hB126 := chg_blk hB49 hc118 (by (try dsimp only at *); omega)
      obtain ⟨hl127, hl128, hl129, hl130⟩ := hst117.glt
      refine WL.nil (WE.next ?_)
      refine WC.cond rfl (fun h131 => ?_) (fun h131 => ?_)
      ·skip
       have hres : true = o.lg (ndget L1 i).t (ndget L2 k).t := by rw [lg_reasons (by omega), show (((decide ((0 : Int) ≤ (ndget L2 k).t.f) && ((ndget L1 i).t.f != (ndget L2 k).t.f)) && decide (o.rank (ndget L2 k).t.f < o.rank (ndget L1 i).t.f)) && (ndget L2 k).t.args.all (o.lg (ndget L1 i).t)) = true from h131]; simp
       refine WC.seq (WC.region (WL.asg rfl rfl rfl rfl rfl (WL.nil (WE.next (WC.exit (WE.blockNot rfl (WE.thenExit (WE.thenExit (WE.blockIs rfl (WE.next (WC.seq ?_)))))))))))
       refine WC.optc [(true, .pointer (some ⟨q.gw, 0, none⟩)), (true, .pointer (some ⟨q.gw, 0, none⟩)), (true, .pointer (some ⟨q.gw, 6, none⟩)), (true, .map ((some q.gm))), (true, .agg #[.int .i64 (((i : Nat) : Int)), .int .i64 (((k : Nat) : Int))]), (true, .bool true), (true, undef)] [(0, .pointer (some ⟨q.gw, 0, none⟩)), (1, .int .i64 (((i : Nat) : Int))), (2, .int .i64 (((k : Nat) : Int))), (6, .bool false), (7, .pointer (some ⟨g2, 0, none⟩)), (8, .bool bb), (9, .bool ff), (10, .bool true), (12, .func (Fn.func 64) #[.pointer (some ⟨q.gw, 0, none⟩)] #[]), (25, .bool ff), (36, .bool ((decide (((ndget L1 i).t.f : Int) < (0 : Int))))), (45, .slice ((some ⟨g29, 0, none⟩)) 4 4), (46, .int .i64 4), (47, .int .i64 2), (48, .bool ((decide ((2 : Int) < (4 : Int))))), (54, .bool ((((decide ((0 : Int) ≤ (ndget L2 k).t.f) && ((ndget L1 i).t.f != (ndget L2 k).t.f)) && decide (o.rank (ndget L2 k).t.f < o.rank (ndget L1 i).t.f)) && (ndget L2 k).t.args.all (o.lg (ndget L1 i).t))))] (S := (fun b => b = q.gm)) (I := (LpoSt o L1 L2 q w0)) (fun _ _ hb h => h.bel hb) hst117 ⟨rfl, rfl, rfl, rfl, rfl, rfl, rfl, rfl, rfl, rfl, rfl, rfl, rfl, rfl, rfl, rfl, trivial⟩ (by kernel_rfl) (by kernel_rfl) (by kernel_rfl) ?_ ?_
       ·refine ⟨⟨true, .none rfl, fun h => optUndef h, fun zβ za zw zc => ?_⟩, ?_⟩
        ·exact wp_move rfl (zc.kn.ev rfl) ⟨_, rfl, zc.chg, zc.inv, optDef zβ rfl⟩
        refine ⟨⟨true, .none rfl, fun h => optUndef h, fun zβ za zw zc => ?_⟩, ?_⟩
        ·exact nilCheck_ rfl ((evt za 56).trans (valVal (zc.dep 0 56 (by kernel_rfl)) rfl rfl)) ⟨_, rfl, zc.chg, zc.inv, optDef zβ rfl⟩
        refine ⟨⟨true, .none rfl, fun h => optUndef h, fun zβ za zw zc => ?_⟩, ?_⟩
        ·exact fld_87_3 rfl ((evt za 57).trans (valVal (zc.dep 1 57 (by kernel_rfl)) rfl rfl)) ⟨_, rfl, zc.chg, zc.inv, optDef zβ rfl⟩
        refine ⟨⟨true, .none rfl, fun h => optUndef h, fun zβ za zw zc => ?_⟩, ?_⟩
        ·exact ld_85 rfl ((evt za 58).trans (valVal (zc.dep 2 58 (by kernel_rfl)) rfl rfl)) (chg_cell zc.chg (by (try dsimp only at *); omega) ((hB124.cell 6).trans rfl)) ⟨_, rfl, zc.chg, zc.inv, optDef zβ rfl⟩
        refine ⟨⟨true, .none rfl, fun h => optUndef h, fun zβ za zw zc => ?_⟩, ?_⟩
        ·exact ld_94 rfl (zc.kn.ev rfl) (chg_cell zc.chg (by (try dsimp only at *); omega) ((hB125.cell 0).trans rfl)) (chg_cell zc.chg (by (try dsimp only at *); omega) ((hB125.cell 1).trans rfl)) ⟨_, rfl, zc.chg, zc.inv, optDef zβ rfl⟩
        refine ⟨⟨true, .none rfl, fun h => optUndef h, fun zβ za zw zc => ?_⟩, ?_⟩
        ·exact wp_move rfl (zc.kn.ev rfl) ⟨_, rfl, zc.chg, zc.inv, optDef zβ rfl⟩
        refine ⟨⟨true, .none rfl, fun h => optUndef h, fun zβ za zw zc => ?_⟩, ?_⟩
        ·exact wp_mapUpdate_pr (s := (i, k)) rfl ((evt za 59).trans (valVal (zc.dep 3 59 (by kernel_rfl)) rfl rfl)) ((evt za 60).trans (valVal (zc.dep 4 60 (by kernel_rfl)) rfl rfl)) ((evt za 61).trans (valVal (zc.dep 5 61 (by kernel_rfl)) rfl rfl)) zc.inv.map hres (fun w' hm hu => ⟨_, rfl, zc.chg.trans (.ofUpd hu rfl), zc.inv.step (.ofUpd hu rfl) hm, optDef zβ rfl⟩)
        exact trivial
       ·intro za w132 zh hb133 hst134 zu
        have hl135 := hB124.lt
        have hl136 := hB125.lt
        have hl137 := hB126.lt
        have hb138 := chg_below hb123 hb133 (fun b hb => (by (try dsimp only at *); omega))
        have hB139 := chg_blk hB124 hb133 (by (try dsimp only at *); omega)
        have hB140 := chg_blk hB125 hb133 (by (try dsimp only at *); omega)
        have hB141 := chg_blk hB126 hb133 (by (try dsimp only at *); omega)
        obtain ⟨hl142, hl143, hl144, hl145⟩ := hst134.glt
        clear zu
        refine WE.go zh ?_
        refine WE.next (WC.seq (WC.region (WL.mv rfl rfl rfl rfl rfl (WL.asg rfl rfl rfl rfl rfl (WL.nil (WE.next (WC.ret (WE.ret1 rfl rfl ?_))))))))
        have hs146 : Chg ((fun b => b = q.gm)) w w132 := (Chg.trans2 (Chg.trans2 (Chg.trans2 (Chg.refl ((fun b => b = q.gm)) _) hc50 (fun i h1 h2 => by first | exact h2 | exact .inl ⟨h2, h1⟩ | exact .inl h2 | exact .inr h2 | exact .inr (.inl h2) | exact .inr (.inr h2) | ((try dsimp only at *); omega))) hc118 (fun i h1 h2 => by first | exact h2 | exact .inl ⟨h2, h1⟩ | exact .inl h2 | exact .inr h2 | exact .inr (.inl h2) | exact .inr (.inr h2) | ((try dsimp only at *); omega))) hb133 (fun i h1 h2 => by first | exact h2 | exact .inl ⟨h2, h1⟩ | exact .inl h2 | exact .inr h2 | exact .inr (.inl h2) | exact .inr (.inr h2) | ((try dsimp only at *); omega)))
        exact ⟨_, rfl, congrArg Value.bool (by first | exact hres | exact lg_var (by omega)), hst134, hs146⟩
      ·skip
       refine WC.skip (WE.blockNormal (WE.next (WC.region ?_)))
       refine WL.val (.int .i64 3) rfl rfl rfl (fun za zC zh zk => addb_3 rfl (zh.ev rfl) (zh.ev rfl) (wrap_eq (by omega) (by omega) (by omega)) zk) ?_
       refine WL.mv rfl rfl rfl rfl rfl (WL.nil ?_)
       refine WE.round 3 ⟨rfl, rfl, rfl, rfl, rfl, rfl, rfl, rfl, rfl, rfl, rfl, rfl, rfl, trivial⟩ ?_ ?_
       ·have hs147 : Chg ((fun b => b = q.gm)) w w119 := (Chg.trans2 (Chg.trans2 (Chg.refl ((fun b => b = q.gm)) _) hc50 (fun i h1 h2 => by first | exact h2 | exact .inl ⟨h2, h1⟩ | exact .inl h2 | exact .inr h2 | exact .inr (.inl h2) | exact .inr (.inr h2) | ((try dsimp only at *); omega))) hc118 (fun i h1 h2 => by first | exact h2 | exact .inl ⟨h2, h1⟩ | exact .inl h2 | exact .inr h2 | exact .inr (.inl h2) | exact .inr (.inr h2) | ((try dsimp only at *); omega)))
        exact ⟨(by decide), (fun z => hr1 (by omega)), (fun z => hr2 (by omega)), (fun _ => h131), (fun z => absurd z (by decide)), hst117, hb123, hB124, hB125, hB126, hs147⟩
       ·omega
     ·refine WC.seq (WC.region ?_)
      refine WL.val (.bool ((decide ((3 : Int) < (4 : Int))))) rfl rfl rfl (fun za zC zh zk => lss_3 rfl (zh.ev rfl) (zh.ev rfl) zk) ?_
      refine WL.nil (WE.next (WC.seq ?_))
      refine WC.condT rfl (by decide) ?_
      refine WC.skip (WE.next (WC.seq (WC.block (WC.seq (WC.region ?_)))))
      refine WL.val _ rfl rfl rfl (fun za zC zh zk => ix_95 (k := 3) rfl (zh.ev rfl) rfl (zh.ev rfl) (by first | omega | (simp; omega)) zk) ?_
      refine WL.val _ rfl rfl rfl (fun za zC zh zk => ld_88 rfl (zh.ev rfl) ((hB49.cell 3).trans rfl) zk) ?_
      refine WL.asg rfl rfl rfl rfl rfl (WL.nil (WE.next (WC.seq (WC.region (WL.mv rfl rfl rfl rfl rfl (WL.mv rfl rfl rfl rfl rfl (WL.mv rfl rfl rfl rfl rfl ?_)))))))
      refine WL.call rfl rfl rfl (fun za zh zC => wp_callv (by kernel_rfl) rfl (zh.ev rfl) (hv2 (zh.ev rfl) (zh.ev rfl))) (llexical_any o L1 L2 q w0 n hH hA i k _ hi hk hz hstl) ?_
      rintro _ w150 ⟨rfl, hst148, hc149⟩
      have hl151 := hB47.lt
      have hl152 := hB48.lt
      have hl153 := hB49.lt
      have hb154 := chg_below hb46 hc149 (fun b hb => (by (try dsimp only at *); omega))
      have hB155 := chg_blk hB47 hc149 (by (try dsimp only at *); omega)
      have hB156 := chg_blk hB48 hc149 (by (try dsimp only at *); omega)
      have hB157 := chg_blk hB49 hc149 (by (try dsimp only at *); omega)
      obtain ⟨hl158, hl159, hl160, hl161⟩ := hst148.glt
      refine WL.nil (WE.next ?_)
      refine WC.cond rfl (fun h162 => ?_) (fun h162 => ?_)
      ·skip
       have hres : true = o.lg (ndget L1 i).t (ndget L2 k).t := by rw [lg_reasons (by omega), show ((decide ((ndget L1 i).t.f = (ndget L2 k).t.f) && (ndget L2 k).t.args.all (o.lg (ndget L1 i).t)) && lexR o.lg (ndget L1 i).t.args (ndget L2 k).t.args) = true from h162]; simp
       refine WC.seq (WC.region (WL.asg rfl rfl rfl rfl rfl (WL.nil (WE.next (WC.exit (WE.blockNot rfl (WE.thenExit (WE.thenExit (WE.blockIs rfl (WE.next (WC.seq ?_)))))))))))
       refine WC.optc [(true, .pointer (some ⟨q.gw, 0, none⟩)), (true, .pointer (some ⟨q.gw, 0, none⟩)), (true, .pointer (some ⟨q.gw, 6, none⟩)), (true, .map ((some q.gm))), (true, .agg #[.int .i64 (((i : Nat) : Int)), .int .i64 (((k : Nat) : Int))]), (true, .bool true), (true, undef)] [(0, .pointer (some ⟨q.gw, 0, none⟩)), (1, .int .i64 (((i : Nat) : Int))), (2, .int .i64 (((k : Nat) : Int))), (6, .bool false), (7, .pointer (some ⟨g2, 0, none⟩)), (8, .bool bb), (9, .bool ff), (10, .bool true), (12, .func (Fn.func 65) #[.pointer (some ⟨q.gw, 0, none⟩)] #[]), (25, .bool ff), (36, .bool ((decide (((ndget L1 i).t.f : Int) < (0 : Int))))), (45, .slice ((some ⟨g29, 0, none⟩)) 4 4), (46, .int .i64 4), (47, .int .i64 3), (48, .bool ((decide ((3 : Int) < (4 : Int))))), (54, .bool (((decide ((ndget L1 i).t.f = (ndget L2 k).t.f) && (ndget L2 k).t.args.all (o.lg (ndget L1 i).t)) && lexR o.lg (ndget L1 i).t.args (ndget L2 k).t.args)))] (S := (fun b => b = q.gm)) (I := (LpoSt o L1 L2 q w0)) (fun _ _ hb h => h.bel hb) hst148 ⟨rfl, rfl, rfl, rfl, rfl, rfl, rfl, rfl, rfl, rfl, rfl, rfl, rfl, rfl, rfl, rfl, trivial⟩ (by kernel_rfl) (by kernel_rfl) (by kernel_rfl) ?_ ?_
       ·refine ⟨⟨true, .none rfl, fun h => optUndef h, fun zβ za zw zc => ?_⟩, ?_⟩
        ·exact wp_move rfl (zc.kn.ev rfl) ⟨_, rfl, zc.chg, zc.inv, optDef zβ rfl⟩
        refine ⟨⟨true, .none rfl, fun h => optUndef h, fun zβ za zw zc => ?_⟩, ?_⟩
        ·exact nilCheck_ rfl ((evt za 56).trans (valVal (zc.dep 0 56 (by kernel_rfl)) rfl rfl)) ⟨_, rfl, zc.chg, zc.inv, optDef zβ rfl⟩
        refine ⟨⟨true, .none rfl, fun h => optUndef h, fun zβ za zw zc => ?_⟩, ?_⟩
        ·exact fld_87_3 rfl ((evt za 57).trans (valVal (zc.dep 1 57 (by kernel_rfl)) rfl rfl)) ⟨_, rfl, zc.chg, zc.inv, optDef zβ rfl⟩
        refine ⟨⟨true, .none rfl, fun h => optUndef h, fun zβ za zw zc => ?_⟩, ?_⟩
        ·exact ld_85 rfl ((evt za 58).trans (valVal (zc.dep 2 58 (by kernel_rfl)) rfl rfl)) (chg_cell zc.chg (by (try dsimp only at *); omega) ((hB155.cell 6).trans rfl)) ⟨_, rfl, zc.chg, zc.inv, optDef zβ rfl⟩
        refine ⟨⟨true, .none rfl, fun h => optUndef h, fun zβ za zw zc => ?_⟩, ?_⟩
        ·exact ld_94 rfl (zc.kn.ev rfl) (chg_cell zc.chg (by (try dsimp only at *); omega) ((hB156.cell 0).trans rfl)) (chg_cell zc.chg (by (try dsimp only at *); omega) ((hB156.cell 1).trans rfl)) ⟨_, rfl, zc.chg, zc.inv, optDef zβ rfl⟩
        refine ⟨⟨true, .none rfl, fun h => optUndef h, fun zβ za zw zc => ?_⟩, ?_⟩
        ·exact wp_move rfl (zc.kn.ev rfl) ⟨_, rfl, zc.chg, zc.inv, optDef zβ rfl⟩
        refine ⟨⟨true, .none rfl, fun h => optUndef h, fun zβ za zw zc => ?_⟩, ?_⟩
        ·exact wp_mapUpdate_pr (s := (i, k)) rfl ((evt za 59).trans (valVal (zc.dep 3 59 (by kernel_rfl)) rfl rfl)) ((evt za 60).trans (valVal (zc.dep 4 60 (by kernel_rfl)) rfl rfl)) ((evt za 61).trans (valVal (zc.dep 5 61 (by kernel_rfl)) rfl rfl)) zc.inv.map hres (fun w' hm hu => ⟨_, rfl, zc.chg.trans (.ofUpd hu rfl), zc.inv.step (.ofUpd hu rfl) hm, optDef zβ rfl⟩)
        exact trivial
       ·intro za w163 zh hb164 hst165 zu
        have hl166 := hB155.lt
        have hl167 := hB156.lt
        have hl168 := hB157.lt
        have hb169 := chg_below hb154 hb164 (fun b hb => (by (try dsimp only at *); omega))
        have hB170 := chg_blk hB155 hb164 (by (try dsimp only at *); omega)
        have hB171 := chg_blk hB156 hb164 (by (try dsimp only at *); omega)
        have hB172 := chg_blk hB157 hb164 (by (try dsimp only at *); omega)
        obtain ⟨hl173, hl174, hl175, hl176⟩ := hst165.glt
        clear zu
        refine WE.go zh ?_
        refine WE.next (WC.seq (WC.region (WL.mv rfl rfl rfl rfl rfl (WL.asg rfl rfl rfl rfl rfl (WL.nil (WE.next (WC.ret (WE.ret1 rfl rfl ?_))))))))
        have hs177 : Chg ((fun b => b = q.gm)) w w163 := (Chg.trans2 (Chg.trans2 (Chg.trans2 (Chg.refl ((fun b => b = q.gm)) _) hc50 (fun i h1 h2 => by first | exact h2 | exact .inl ⟨h2, h1⟩ | exact .inl h2 | exact .inr h2 | exact .inr (.inl h2) | exact .inr (.inr h2) | ((try dsimp only at *); omega))) hc149 (fun i h1 h2 => by first | exact h2 | exact .inl ⟨h2, h1⟩ | exact .inl h2 | exact .inr h2 | exact .inr (.inl h2) | exact .inr (.inr h2) | ((try dsimp only at *); omega))) hb164 (fun i h1 h2 => by first | exact h2 | exact .inl ⟨h2, h1⟩ | exact .inl h2 | exact .inr h2 | exact .inr (.inl h2) | exact .inr (.inr h2) | ((try dsimp only at *); omega)))
        exact ⟨_, rfl, congrArg Value.bool (by first | exact hres | exact lg_var (by omega)), hst165, hs177⟩
      ·skip
       refine WC.skip (WE.blockNormal (WE.next (WC.region ?_)))
       refine WL.val (.int .i64 4) rfl rfl rfl (fun za zC zh zk => addb_3 rfl (zh.ev rfl) (zh.ev rfl) (wrap_eq (by omega) (by omega) (by omega)) zk) ?_
       refine WL.mv rfl rfl rfl rfl rfl (WL.nil ?_)
       refine WE.round 4 ⟨rfl, rfl, rfl, rfl, rfl, rfl, rfl, rfl, rfl, rfl, rfl, rfl, rfl, trivial⟩ ?_ ?_
       ·have hs178 : Chg ((fun b => b = q.gm)) w w150 := (Chg.trans2 (Chg.trans2 (Chg.refl ((fun b => b = q.gm)) _) hc50 (fun i h1 h2 => by first | exact h2 | exact .inl ⟨h2, h1⟩ | exact .inl h2 | exact .inr h2 | exact .inr (.inl h2) | exact .inr (.inr h2) | ((try dsimp only at *); omega))) hc149 (fun i h1 h2 => by first | exact h2 | exact .inl ⟨h2, h1⟩ | exact .inl h2 | exact .inr h2 | exact .inr (.inl h2) | exact .inr (.inr h2) | ((try dsimp only at *); omega)))
        exact ⟨(by decide), (fun z => hr1 (by omega)), (fun z => hr2 (by omega)), (fun z => hr3 (by omega)), (fun _ => h162), hst148, hb154, hB155, hB156, hB157, hs178⟩
       ·omega
     ·refine WC.seq (WC.region ?_)
      refine WL.val (.bool ((decide ((4 : Int) < (4 : Int))))) rfl rfl rfl (fun za zC zh zk => lss_3 rfl (zh.ev rfl) (zh.ev rfl) zk) ?_
      refine WL.nil (WE.next (WC.seq ?_))
      have hres : false = o.lg (ndget L1 i).t (ndget L2 k).t := by rw [lg_reasons (by omega), hr1 (by decide), hr2 (by decide), hr3 (by decide), hr4 (by decide)]; rfl
      refine WC.condF rfl (by decide) ?_
      refine WC.exit (WE.thenExit (WE.thenExit (WE.blockIs rfl (WE.next (WC.seq ?_)))))
      refine WC.optc [(true, .pointer (some ⟨q.gw, 0, none⟩)), (true, .pointer (some ⟨q.gw, 0, none⟩)), (true, .pointer (some ⟨q.gw, 6, none⟩)), (true, .map ((some q.gm))), (true, .agg #[.int .i64 (((i : Nat) : Int)), .int .i64 (((k : Nat) : Int))]), (true, .bool false), (true, undef)] [(0, .pointer (some ⟨q.gw, 0, none⟩)), (1, .int .i64 (((i : Nat) : Int))), (2, .int .i64 (((k : Nat) : Int))), (6, .bool false), (7, .pointer (some ⟨g2, 0, none⟩)), (8, .bool bb), (9, .bool ff), (10, .bool false), (25, .bool ff), (36, .bool ((decide (((ndget L1 i).t.f : Int) < (0 : Int))))), (45, .slice ((some ⟨g29, 0, none⟩)) 4 4), (46, .int .i64 4), (47, .int .i64 4), (48, .bool ((decide ((4 : Int) < (4 : Int)))))] (S := (fun b => b = q.gm)) (I := (LpoSt o L1 L2 q w0)) (fun _ _ hb h => h.bel hb) hstl ⟨rfl, rfl, rfl, rfl, rfl, rfl, rfl, rfl, rfl, rfl, rfl, rfl, rfl, rfl, trivial⟩ (by kernel_rfl) (by kernel_rfl) (by kernel_rfl) ?_ ?_
      ·refine ⟨⟨true, .none rfl, fun h => optUndef h, fun zβ za zw zc => ?_⟩, ?_⟩
       ·exact wp_move rfl (zc.kn.ev rfl) ⟨_, rfl, zc.chg, zc.inv, optDef zβ rfl⟩
       refine ⟨⟨true, .none rfl, fun h => optUndef h, fun zβ za zw zc => ?_⟩, ?_⟩
       ·exact nilCheck_ rfl ((evt za 56).trans (valVal (zc.dep 0 56 (by kernel_rfl)) rfl rfl)) ⟨_, rfl, zc.chg, zc.inv, optDef zβ rfl⟩
       refine ⟨⟨true, .none rfl, fun h => optUndef h, fun zβ za zw zc => ?_⟩, ?_⟩
       ·exact fld_87_3 rfl ((evt za 57).trans (valVal (zc.dep 1 57 (by kernel_rfl)) rfl rfl)) ⟨_, rfl, zc.chg, zc.inv, optDef zβ rfl⟩
       refine ⟨⟨true, .none rfl, fun h => optUndef h, fun zβ za zw zc => ?_⟩, ?_⟩
       ·exact ld_85 rfl ((evt za 58).trans (valVal (zc.dep 2 58 (by kernel_rfl)) rfl rfl)) (chg_cell zc.chg (by (try dsimp only at *); omega) ((hB47.cell 6).trans rfl)) ⟨_, rfl, zc.chg, zc.inv, optDef zβ rfl⟩
       refine ⟨⟨true, .none rfl, fun h => optUndef h, fun zβ za zw zc => ?_⟩, ?_⟩
       ·exact ld_94 rfl (zc.kn.ev rfl) (chg_cell zc.chg (by (try dsimp only at *); omega) ((hB48.cell 0).trans rfl)) (chg_cell zc.chg (by (try dsimp only at *); omega) ((hB48.cell 1).trans rfl)) ⟨_, rfl, zc.chg, zc.inv, optDef zβ rfl⟩
       refine ⟨⟨true, .none rfl, fun h => optUndef h, fun zβ za zw zc => ?_⟩, ?_⟩
       ·exact wp_move rfl (zc.kn.ev rfl) ⟨_, rfl, zc.chg, zc.inv, optDef zβ rfl⟩
       refine ⟨⟨true, .none rfl, fun h => optUndef h, fun zβ za zw zc => ?_⟩, ?_⟩
       ·exact wp_mapUpdate_pr (s := (i, k)) rfl ((evt za 59).trans (valVal (zc.dep 3 59 (by kernel_rfl)) rfl rfl)) ((evt za 60).trans (valVal (zc.dep 4 60 (by kernel_rfl)) rfl rfl)) ((evt za 61).trans (valVal (zc.dep 5 61 (by kernel_rfl)) rfl rfl)) zc.inv.map hres (fun w' hm hu => ⟨_, rfl, zc.chg.trans (.ofUpd hu rfl), zc.inv.step (.ofUpd hu rfl) hm, optDef zβ rfl⟩)
       exact trivial
      ·intro za w179 zh hb180 hst181 zu
       have hl182 := hB47.lt
       have hl183 := hB48.lt
       have hl184 := hB49.lt
       have hb185 := chg_below hb46 hb180 (fun b hb => (by (try dsimp only at *); omega))
       have hB186 := chg_blk hB47 hb180 (by (try dsimp only at *); omega)
       have hB187 := chg_blk hB48 hb180 (by (try dsimp only at *); omega)
       have hB188 := chg_blk hB49 hb180 (by (try dsimp only at *); omega)
       obtain ⟨hl189, hl190, hl191, hl192⟩ := hst181.glt
       clear zu
       refine WE.go zh ?_
       refine WE.next (WC.seq (WC.region (WL.mv rfl rfl rfl rfl rfl (WL.asg rfl rfl rfl rfl rfl (WL.nil (WE.next (WC.ret (WE.ret1 rfl rfl ?_))))))))
       have hs193 : Chg ((fun b => b = q.gm)) w w179 := (Chg.trans2 (Chg.trans2 (Chg.refl ((fun b => b = q.gm)) _) hc50 (fun i h1 h2 => by first | exact h2 | exact .inl ⟨h2, h1⟩ | exact .inl h2 | exact .inr h2 | exact .inr (.inl h2) | exact .inr (.inr h2) | ((try dsimp only at *); omega))) hb180 (fun i h1 h2 => by first | exact h2 | exact .inl ⟨h2, h1⟩ | exact .inl h2 | exact .inr h2 | exact .inr (.inl h2) | exact .inr (.inr h2) | ((try dsimp only at *); omega)))
       exact ⟨_, rfl, congrArg Value.bool (by first | exact hres | exact lg_var (by omega)), hst181, hs193⟩
theorem labove_any (o : Od) (L1 L2 : List Nd) (q : LpoQ) (w0 : World) (hH : LpoH o L1 L2) : ∀ n, AboveOK o L1 L2 q w0 n
 | 0 => fun i k w hi hk hz _ => by have := T.size_eq (ndget L1 i).t; omega
 | n + 1 => labove_step o L1 L2 q w0 n hH (labove_any o L1 L2 q w0 hH n)
end Go.Proofs.Ytnokgjajcnhkkaa

/- A term laid out in a row of its parts: the walks of the program and of the document. -/
namespace Go.Proofs.Ytnokgjajcnhkkaa
open Go.RowKit Go
set_option linter.unusedVariables false
set_option linter.unusedSimpArgs false
theorem len_le_sizeP : ∀ l : List T, l.length ≤ T.sizeL l
 | [] => by simp
 | a :: r => by
  have := len_le_sizeP r
  have := T.size_eq a
  rw [T.sizeL, List.length_cons]; omega
theorem own_blk {w : World} {S : Nat → Prop} {e size b rc n : Nat} {xs : List Value} (h : Own w S e size (some ⟨b, 0, none⟩) rc n xs) : ∃ cur, Blk w b e cur ∧ n * size ≤ cur.size := by
 rcases h.1.2 with ⟨e1, _⟩ | ⟨g, cap, cur, e1, h1, hb, h2, h3, h4, h5⟩
 ·cases e1
 ·simp only [Value.slice.injEq, Option.some.injEq, Addr.mk.injEq, and_true, true_and] at e1
  obtain ⟨rfl, rfl⟩ := e1
  exact ⟨cur, hb, by rw [h4]; exact Nat.mul_le_mul_right _ h2⟩
theorem size_take_tget {l : List T} {k : Nat} (h : k < l.length) : T.sizeL (l.take k) + (tget l k).size ≤ T.sizeL l := by
 have h2 := T.sizeL_take_le l (k + 1)
 rw [sizeL_take_t h] at h2; exact h2
set_option maxRecDepth 100000 in
theorem parts_any (t : T) : ∀ (w0 w : World) (v : Value) (ra : Option Addr) (rc n bm lo : Nat) (xs : List Value), Below w0.heap.size w0 w → IsT w0 t v → Own w (fun g => g = bm ∧ g < lo) 92 3 ra rc n xs → lo ≤ w.heap.size → w0.heap.size ≤ bm → n + t.size ≤ 4294967296 →
  Calls Try.prog 58 #[v, .slice ra n rc] w (Ret (LayP 92 w0 w bm lo n xs t)) := by
 induction t using T.ind with
 | h f l ih =>
 intro w0 w v ra rc n bm lo xs hb0 hT hO hlo hbm hz
 have hT0 := hT
 obtain ⟨_, a, c, rfl, hc, hm, hl⟩ := hT
 unfold maxLen at hm
 rw [T.size] at hz
 have hll := len_le_sizeP l
 have hxl := own_len hO
 have hw0 := hb0.size
 refine Calls.walk (l := [.agg #[.int .i64 f, .slice a l.length c], .slice ra n rc]) Try.func58 rfl (by kernel_rfl) ?_
 refine WC.sub (K' := [(0, .agg #[.int .i64 f, .slice a l.length c]), (1, .slice ra n rc)]) ⟨rfl, rfl, trivial⟩ ?_
 refine WC.seq (WC.region ?_)
 refine WL.step (post := NewBlk w 34 #[.int .i64 f, .slice a l.length c]) rfl rfl rfl (fun za zC zh zk => box_34 rfl (zh.ev rfl) (zk _ _ (newBlk _ _ _))) ?_
 rintro _ w1 ⟨g2, rfl, hg3, hB4, hb5, hz6⟩
 have hl7 : w0.heap.size ≤ g2 := by have z2 := (hb0).size; omega
 refine WL.asg rfl rfl rfl rfl rfl (WL.nil (WE.next (WC.seq (WC.region (WL.mv rfl rfl rfl rfl rfl ?_)))))
 refine WL.val (.int .i64 (((n : Nat) : Int))) rfl rfl rfl (fun za zC zh zk => len_83 rfl (zh.ev rfl) zk) ?_
 refine WL.asg rfl rfl rfl rfl rfl (WL.nil (WE.next (WC.seq (WC.region (WL.mv rfl rfl rfl rfl rfl ?_)))))
 refine WL.val _ rfl rfl rfl (fun za zC zh zk => ld_34 rfl (zh.ev rfl) ((hB4.cell 0).trans rfl) ((hB4.cell 1).trans rfl) zk) ?_
 refine WL.val (.agg #[.int .i64 f, .slice a l.length c, .slice none 0 0]) rfl rfl rfl (fun za zC zh zk => build_92_0 rfl (zh.ev rfl) zk) ?_
 refine WL.step (post := NewRow w1 92 #[.int .i64 f, .slice a l.length c, .slice none 0 0] 1) rfl rfl rfl (fun za zC zh zk => row_83_1 rfl (zh.ev rfl) (zk _ _ (newRow _ _ _ _))) ?_
 rintro _ w8 ⟨g9, rfl, hg10, hB11, hb12, hz13⟩
 have hl14 : g2 < g9 := by have z1 := hB4.lt; omega
 have hb15 : Below w0.heap.size w0 w1 := (bstep hb0 hb5)
 have hl16 : w0.heap.size ≤ g9 := by have z2 := (hb15).size; omega
 have hw17 : w.heap.size ≤ w8.heap.size := (Nat.le_trans hb5.size hb12.size)
 have hb19 : Below w.heap.size w w8 := (bstep hb5 hb12)
 have hO18 := hO.below hb19
 have hl20 : g2 < w8.heap.size := by have z1 := hB4.lt; have z2 := (hb12).size; omega
 have hl21 : g9 < w8.heap.size := by have z1 := hB11.lt; omega
 have hb23 : Below w0.heap.size w0 w8 := (bstep hb0 hb19)
 have hl22 : w0.heap.size ≤ w8.heap.size := (hb23).size
 refine WL.step (post := fun v w' => ∃ ra rc, v = .slice ra (n + 1) rc ∧ Own w' (fun g => (g = bm ∧ g < lo) ∨ g = w8.heap.size) 92 3 ra rc (n + 1) (xs ++ [.int .i64 f, .slice a l.length c, .slice none 0 0]) ∧ Chg (fun g => (g = bm ∧ g < lo) ∨ g = w8.heap.size) w8 w') rfl rfl rfl (fun za zC zh zk => app_83 (S := (fun g => (g = bm ∧ g < lo) ∨ g = w8.heap.size)) (xs := xs) (news := [.int .i64 f, .slice a l.length c, .slice none 0 0]) rfl (zh.ev rfl) (zh.ev rfl) (own_mono hO18 (fun b h => .inl h)) (SrcIs.ofBlk hB11) (by simp) (by simp [Value.oneCell']) (by omega) (by omega) (by omega) (fun ra rc w' h1 h2 => zk _ _ ⟨ra, rc, rfl, h1, h2⟩)) ?_
 rintro _ w24 ⟨ra25, rc26, rfl, hr27, hc28⟩
 have hB29 := hB4.below hb12
 have hb30 := chg_below hb23 hc28 (fun b hb => (by (try dsimp only at *); omega))
 have hB31 := chg_blk hB29 hc28 (by (try dsimp only at *); omega)
 have hB32 := chg_blk hB11 hc28 (by (try dsimp only at *); omega)
 obtain ⟨bb33, hS34, rfl, hlt35, hA36⟩ := own_pick hr27 (by omega)
 try dsimp only at hS34
 have hst37 : LaySt 92 w0 w.heap.size n xs f a c l bb33 rc26 none 0 0 0 [] 0 0 w24 := LaySt.start hA36 hlt35
 refine WL.asg rfl rfl rfl rfl rfl (WL.nil (WE.next (WC.seq (WC.seq (WC.region ?_)))))
 refine WL.val _ rfl rfl rfl (fun za zC zh zk => fld_34_1 rfl (zh.ev rfl) zk) ?_
 refine WL.val _ rfl rfl rfl (fun za zC zh zk => ld_32 rfl (zh.ev rfl) ((hB31.cell 1).trans rfl) zk) ?_
 refine WL.val (.int .i64 (((l.length : Nat) : Int))) rfl rfl rfl (fun za zC zh zk => len_32 rfl (zh.ev rfl) zk) ?_
 refine WL.mv rfl rfl rfl rfl rfl (WL.nil (WE.next (WC.block ?_)))
 refine WC.loop (X := LayX) (fun x => l.length - x.k) (fun x => [(0, .agg #[.int .i64 f, .slice a l.length c]), (1, .slice ((some ⟨x.bm, 0, none⟩)) ((n + 1 + T.sizeL (l.take x.k))) x.rc), (2, .pointer (some ⟨g2, 0, none⟩)), (4, .slice none 0 0), (5, .int .i64 (((n : Nat) : Int))), (16, .slice a l.length c), (17, .int .i64 (((l.length : Nat) : Int))), (18, .int .i64 (((x.k : Nat) : Int)))]) (fun x w38 => x.k ≤ l.length ∧ LaySt 92 w0 w.heap.size n xs f a c l x.bm x.rc x.xa x.xz x.ba x.la x.ys x.k x.k w38 ∧ ((x.bm = bm ∧ x.bm < lo) ∨ w.heap.size ≤ x.bm) ∧ g2 ≠ x.bm ∧ ¬ (g2 = x.ba ∧ g2 < x.la) ∧ Below w0.heap.size w0 w38 ∧ Blk w38 g2 34 #[.int .i64 f, .slice a l.length c] ∧ Chg ((fun g => g = bm ∧ g < lo)) w w38) (⟨bb33, rc26, none, 0, 0, 0, [], 0⟩) ⟨rfl, rfl, rfl, rfl, rfl, rfl, rfl, rfl, trivial⟩ ?_ ?_
 ·have hs39 : Chg ((fun g => g = bm ∧ g < lo)) w w24 := (Chg.trans2 (Chg.trans2 (Chg.refl ((fun g => g = bm ∧ g < lo)) _) (Chg.ofBelow (S := fun k => k < 0) hb19) (fun i h1 h2 => by first | exact h2 | exact .inl ⟨h2, h1⟩ | exact .inl h2 | exact .inr h2 | exact .inr (.inl h2) | exact .inr (.inr h2) | ((try dsimp only at *); omega))) hc28 (fun i h1 h2 => by first | exact h2 | exact .inl ⟨h2, h1⟩ | exact .inl h2 | exact .inr h2 | exact .inr (.inl h2) | exact .inr (.inr h2) | ((try dsimp only at *); omega)))
  exact ⟨Nat.zero_le _, (hst37.below (Below.refl _ _)), by dsimp only; omega, by dsimp only; omega, by dsimp only; omega, hb30, hB31, hs39⟩
 ·rintro x w38 ⟨hk, hst, hor, hg1, hg2, hb40, hB41, hc42⟩
  have hlt := hst.lt
  have hla := hst.hla
  have hne := hst.ne
  have hba := hst.hba
  have hsz : w.heap.size ≤ w38.heap.size := hc42.size
  have hzk : x.k < l.length → T.sizeL (l.take x.k) + (tget l x.k).size ≤ T.sizeL l := size_take_tget
  have hzt := T.sizeL_take_le l x.k
  refine WC.seq (WC.region ?_)
  refine WL.val (.bool ((decide ((((x.k : Nat) : Int) : Int) < (((l.length : Nat) : Int) : Int))))) rfl rfl rfl (fun za zC zh zk => lss_3 rfl (zh.ev rfl) (zh.ev rfl) zk) ?_
  refine WL.nil (WE.next (WC.seq ?_))
  refine WC.cond rfl (fun h43 => ?_) (fun h43 => ?_)
  ·have h43 : (((x.k : Nat) : Int) : Int) < (((l.length : Nat) : Int) : Int) := by simpa using h43
   refine WC.skip (WE.next (WC.seq (WC.block (WC.seq (WC.region ?_)))))
   obtain ⟨b44, o45, A46, C47, ha48, hc49⟩ := IsTs.open hl
   refine WL.val _ rfl rfl rfl (fun za zC zh zk => ix_32 (k := x.k) rfl (zh.ev rfl) (ha48 x.k (by first | omega | (simp; omega))) (zh.ev rfl) (by first | omega | (simp; omega)) zk) ?_
   refine WL.val _ rfl rfl rfl (fun za zC zh zk => ld_34 rfl (zh.ev rfl) (bkeeps hb40 _ _ (hc49 x.k (by first | omega | (simp; omega))).1) (bkeeps hb40 _ _ (hc49 x.k (by first | omega | (simp; omega))).2.1) zk) ?_
   refine WL.step (post := NewBlk w38 34 #[.int .i64 0, .slice none 0 0]) rfl rfl rfl (fun za zC zh zk => alloc_34 rfl (zk _ _ (newBlk _ _ _))) ?_
   rintro _ w50 ⟨g51, rfl, hg52, hB53, hb54, hz55⟩
   have hl56 : g2 < g51 := by have z1 := hB41.lt; omega
   have hl57 : w.heap.size ≤ g51 := by have z2 := hc42.size; omega
   have hl58 : w0.heap.size ≤ g51 := by have z2 := (hb40).size; omega
   have hl59 : w38.heap.size ≤ g51 := by omega
   refine WL.step (post := fun _ w' => Upd g51 w50 w' ∧ Blk w' g51 34 #[.int .i64 ((tget l x.k).f), .slice ((A46 x.k)) ((tget l x.k).args.length) ((C47 x.k))]) rfl rfl rfl (fun za zC zh zk => st_34 rfl (zh.ev rfl) (zh.ev rfl) rfl rfl hB53 (by first | decide | simp) (fun v => zk v _ ⟨(Upd.at_ _ _ _ _).trans (Upd.at_ _ _ _ _), (hB53.set_ 0 _).set_ 1 _⟩)) ?_
   rintro v63 w60 ⟨hu61, hB62⟩
   have hb64 : Below w0.heap.size w0 w50 := (bstep hb40 hb54)
   have hb65 := upd_below hb64 hu61 (by omega)
   have hb66 := upd_below hb54 hu61 (by omega)
   have hB67 := hB41.below hb54
   have hB68 := upd_blk hB67 hu61 (by omega)
   refine WL.nil (WE.next (WC.seq (WC.region (WL.mv rfl rfl rfl rfl rfl (WL.mv rfl rfl rfl rfl rfl (WL.mv rfl rfl rfl rfl rfl (WL.mv rfl rfl rfl rfl rfl ?_)))))))
   refine WL.val _ rfl rfl rfl (fun za zC zh zk => ix_83 (k := n) rfl (zh.ev rfl) rfl (zh.ev rfl) (by first | omega | (simp; omega)) zk) ?_
   refine WL.val _ rfl rfl rfl (fun za zC zh zk => fld_92_1 rfl (zh.ev rfl) zk) ?_
   refine WL.val _ rfl rfl rfl (fun za zC zh zk => ld_22 rfl (zh.ev rfl) (own_cell (hst.below hb66).main (lay_cell hxl)) zk) ?_
   refine WL.mv rfl rfl rfl rfl rfl ?_
   refine WL.val (.int .i64 ((((n + 1 + T.sizeL (l.take x.k)) : Nat) : Int))) rfl rfl rfl (fun za zC zh zk => len_83 rfl (zh.ev rfl) zk) ?_
   refine WL.step (post := NewRow w60 3 #[.int .i64 ((((n + 1 + T.sizeL (l.take x.k)) : Nat) : Int))] 1) rfl rfl rfl (fun za zC zh zk => row_22_1 rfl (zh.ev rfl) (zk _ _ (newRow _ _ _ _))) ?_
   rintro _ w69 ⟨g70, rfl, hg71, hB72, hb73, hz74⟩
   have hl75 : g2 < g70 := by have z1 := hB68.lt; omega
   have hl76 : g51 < g70 := by have z1 := hB62.lt; omega
   have hl77 : w.heap.size ≤ g70 := by have z2 := (Nat.le_trans hc42.size hb66.size); omega
   have hl78 : w0.heap.size ≤ g70 := by have z2 := (hb65).size; omega
   have hl79 : w38.heap.size ≤ g70 := by have z2 := (hb66).size; omega
   have hb81 : Below w38.heap.size w38 w69 := (bstep hb66 hb73)
   have hst80 := hst.below hb81
   have hl82 := hst80.lt
   have hl83 := hst80.hla
   have hw84 : w.heap.size ≤ w69.heap.size := (Nat.le_trans hc42.size hb81.size)
   have hl85 : g2 < w69.heap.size := by have z1 := hB68.lt; have z2 := (hb73).size; omega
   have hl86 : g51 < w69.heap.size := by have z1 := hB62.lt; have z2 := (hb73).size; omega
   have hl87 : g70 < w69.heap.size := by have z1 := hB72.lt; omega
   have hb89 : Below w0.heap.size w0 w69 := (bstep hb40 hb81)
   have hl88 : w0.heap.size ≤ w69.heap.size := (hb89).size
   refine WL.step (post := fun v w' => ∃ ra rc, v = .slice ra (x.k + 1) rc ∧ Own w' (fun g => (g = x.ba ∧ g < x.la) ∨ g = w69.heap.size) 3 1 ra rc (x.k + 1) (((kids (l.take x.k) (n + 1)).map natV) ++ [.int .i64 ((((n + 1 + T.sizeL (l.take x.k)) : Nat) : Int))]) ∧ Chg (fun g => (g = x.ba ∧ g < x.la) ∨ g = w69.heap.size) w69 w') rfl rfl rfl (fun za zC zh zk => app_22 (S := (fun g => (g = x.ba ∧ g < x.la) ∨ g = w69.heap.size)) (xs := ((kids (l.take x.k) (n + 1)).map natV)) (news := [.int .i64 ((((n + 1 + T.sizeL (l.take x.k)) : Nat) : Int))]) rfl (zh.ev rfl) (zh.ev rfl) (own_mono hst80.args (fun b h => .inl h)) (SrcIs.ofBlk hB72) (by simp) (by simp [Value.oneCell']) (by omega) (by omega) (by omega) (fun ra rc w' h1 h2 => zk _ _ ⟨ra, rc, rfl, h1, h2⟩)) ?_
   rintro _ w90 ⟨ra91, rc92, rfl, hr93, hc94⟩
   have hB95 := hB68.below hb73
   have hB96 := hB62.below hb73
   have hb97 := chg_below hb89 hc94 (fun b hb => (by (try dsimp only at *); omega))
   have hB98 := chg_blk hB95 hc94 (by (try dsimp only at *); omega)
   have hB99 := chg_blk hB96 hc94 (by (try dsimp only at *); omega)
   have hB100 := chg_blk hB72 hc94 (by (try dsimp only at *); omega)
   obtain ⟨bb101, hS102, rfl, hlt103, hA104⟩ := own_pick hr93 (by omega)
   try dsimp only at hS102
   refine WL.val _ rfl rfl rfl (fun za zC zh zk => ix_83 (k := n) rfl (zh.ev rfl) rfl (zh.ev rfl) (by first | omega | (simp; omega)) zk) ?_
   refine WL.val _ rfl rfl rfl (fun za zC zh zk => fld_92_1 rfl (zh.ev rfl) zk) ?_
   have hM105 := hst80.main.chg hc94 (fun b hb => by omega)
   obtain ⟨cur106, hB107, hcs108⟩ := own_blk hM105
   refine WL.step (post := fun _ w' => w' = w90.setCell ⟨x.bm, 0 + n * 3 + 2, none⟩ (.slice ((some ⟨bb101, 0, none⟩)) ((x.k + 1)) rc92)) rfl rfl rfl (fun za zC zh zk => st_22 rfl (zh.ev rfl) (zh.ev rfl) hB107 (by omega) (fun v => zk v _ rfl)) ?_
   rintro v109 w110 hw111
   have hst113 := LaySt.app hst80 hxl hc94 (by omega) hA104 hS102 hlt103 rfl (by omega) hw111
   have hu112 : Upd x.bm w90 w110 := by rw [hw111]; exact Upd.at_ _ _ _ _
   have hb114 := upd_below hb97 hu112 (by omega)
   have hB115 := upd_blk hB98 hu112 (by omega)
   have hB116 := upd_blk hB99 hu112 (by omega)
   have hB117 := upd_blk hB100 hu112 (by omega)
   have hl118 := hst113.lt
   refine WL.nil (WE.next (WC.region ?_))
   refine WL.val _ rfl rfl rfl (fun za zC zh zk => ld_34 rfl (zh.ev rfl) ((hB116.cell 0).trans rfl) ((hB116.cell 1).trans rfl) zk) ?_
   refine WL.mv rfl rfl rfl rfl rfl ?_
   have hst119 := hst113.below (Below.refl _ _)
   have hl120 := hst119.lt
   have hw121 : w.heap.size ≤ w110.heap.size := (Nat.le_trans (Nat.le_trans (Nat.le_trans hc42.size hb81.size) hc94.size) (Nat.le_of_eq hu112.size.symm))
   refine WL.call rfl rfl rfl (fun za zh zC => wp_call (by kernel_rfl) rfl (hv2 (zh.ev rfl) (zh.ev rfl))) (ih (tget l x.k) (tget_mem (by omega)) w0 _ _ _ _ _ x.bm (x.bm + 1) _ hb114 (hc49 x.k (by first | omega | (simp; omega))).2.2 (own_mono hst119.main (fun b h => ⟨h, by omega⟩)) (by omega) (by omega) (by omega)) ?_
   rintro v122 w130 hP123
   obtain ⟨bm124, rc125, ys126, rfl, hst127, hc128, ho129⟩ := LaySt.call hst119 hw121 (by omega) hP123
   have hl131 := hB115.lt
   have hl132 := hB116.lt
   have hl133 := hB117.lt
   have hb134 := chg_below hb114 hc128 (fun b hb => (by (try dsimp only at *); omega))
   have hB135 := chg_blk hB115 hc128 (by (try dsimp only at *); omega)
   have hB136 := chg_blk hB116 hc128 (by (try dsimp only at *); omega)
   have hB137 := chg_blk hB117 hc128 (by (try dsimp only at *); omega)
   have hl138 := hst127.lt
   have hl139 := hst127.hla
   have hl140 := hst127.hba
   refine WL.asg rfl rfl rfl rfl rfl (WL.nil (WE.blockNormal (WE.next (WC.region ?_))))
   refine WL.val (.int .i64 ((((x.k + 1) : Nat) : Int))) rfl rfl rfl (fun za zC zh zk => addb_3 rfl (zh.ev rfl) (zh.ev rfl) (wrap_eq (by omega) (by omega) (by omega)) zk) ?_
   refine WL.mv rfl rfl rfl rfl rfl ?_
   refine WL.nil (WE.sub (K' := [(0, .agg #[.int .i64 f, .slice a l.length c]), (1, .slice ((some ⟨bm124, 0, none⟩)) ((n + 1 + T.sizeL (l.take (x.k + 1)))) rc125), (2, .pointer (some ⟨g2, 0, none⟩)), (4, .slice none 0 0), (5, .int .i64 (((n : Nat) : Int))), (7, .pointer (some ⟨g51, 0, none⟩)), (16, .slice a l.length c), (17, .int .i64 (((l.length : Nat) : Int))), (18, .int .i64 ((((x.k + 1) : Nat) : Int))), (19, .bool ((decide ((((x.k : Nat) : Int) : Int) < (((l.length : Nat) : Int) : Int)))))]) ⟨rfl, rfl, rfl, rfl, rfl, rfl, rfl, rfl, rfl, rfl, trivial⟩ ?_)
   refine WE.round (⟨bm124, rc125, (some ⟨bb101, 0, none⟩), rc92, bb101, (bb101 + 1), ys126, x.k + 1⟩) ⟨rfl, rfl, rfl, rfl, rfl, rfl, rfl, rfl, trivial⟩ ?_ ?_
   ·have hs141 : Chg ((fun g => g = bm ∧ g < lo)) w w130 := (Chg.trans2 (Chg.trans2 (Chg.trans2 (Chg.trans2 (Chg.trans2 (Chg.refl ((fun g => g = bm ∧ g < lo)) _) hc42 (fun i h1 h2 => by first | exact h2 | exact .inl ⟨h2, h1⟩ | exact .inl h2 | exact .inr h2 | exact .inr (.inl h2) | exact .inr (.inr h2) | ((try dsimp only at *); omega))) (Chg.ofBelow (S := fun k => k < 0) hb81) (fun i h1 h2 => by first | exact h2 | exact .inl ⟨h2, h1⟩ | exact .inl h2 | exact .inr h2 | exact .inr (.inl h2) | exact .inr (.inr h2) | ((try dsimp only at *); omega))) hc94 (fun i h1 h2 => by first | exact h2 | exact .inl ⟨h2, h1⟩ | exact .inl h2 | exact .inr h2 | exact .inr (.inl h2) | exact .inr (.inr h2) | ((try dsimp only at *); omega))) (Chg.ofUpd (S := fun k => k = x.bm) hu112 rfl) (fun i h1 h2 => by first | exact h2 | exact .inl ⟨h2, h1⟩ | exact .inl h2 | exact .inr h2 | exact .inr (.inl h2) | exact .inr (.inr h2) | ((try dsimp only at *); omega))) hc128 (fun i h1 h2 => by first | exact h2 | exact .inl ⟨h2, h1⟩ | exact .inl h2 | exact .inr h2 | exact .inr (.inl h2) | exact .inr (.inr h2) | ((try dsimp only at *); omega)))
    exact ⟨by dsimp only; omega, (hst127.below (Below.refl _ _)), by dsimp only; omega, by dsimp only; omega, by dsimp only; omega, hb134, hB135, hs141⟩
   ·dsimp only; omega
  ·have h43 : ¬ ((((x.k : Nat) : Int) : Int) < (((l.length : Nat) : Int) : Int)) := by simpa using h43
   refine WC.exit (WE.thenExit (WE.thenExit (WE.blockIs rfl (WE.next (WC.seq (WC.region (WL.mv rfl rfl rfl rfl rfl (WL.asg rfl rfl rfl rfl rfl (WL.nil (WE.next (WC.ret (WE.ret1 rfl rfl ?_))))))))))))
   have hs142 : Chg ((fun g => g = bm ∧ g < lo)) w w38 := (Chg.trans2 (Chg.refl ((fun g => g = bm ∧ g < lo)) _) hc42 (fun i h1 h2 => by first | exact h2 | exact .inl ⟨h2, h1⟩ | exact .inl h2 | exact .inr h2 | exact .inr (.inl h2) | exact .inr (.inr h2) | ((try dsimp only at *); omega)))
   exact ⟨_, rfl, LaySt.done (hst.below (Below.refl _ _)) hT0 (by omega) (by omega) hs142 hor⟩
end Go.Proofs.Ytnokgjajcnhkkaa

/- The lexicographic path order of the program: over, Cmp, Above. -/
namespace Go.Proofs.Ytnokgjajcnhkkaa
open Go.RowKit Go
set_option linter.unusedVariables false
set_option linter.unusedSimpArgs false
mutual
theorem lay_small : ∀ (t : T) (n : Nat), ∀ x ∈ lay t n, x.t.size ≤ t.size
 | .mk f l, n, x, hx => by
  rw [lay, List.mem_cons] at hx
  rcases hx with rfl | hx
  ·exact Nat.le_refl _
  ·have := layL_small l (n + 1) x hx; rw [T.size]; omega
theorem layL_small : ∀ (l : List T) (n : Nat), ∀ x ∈ layL l n, x.t.size ≤ T.sizeL l
 | [], _, x, hx => by simp [layL] at hx
 | a :: r, n, x, hx => by
  rw [layL, List.mem_append] at hx
  rw [T.sizeL]
  rcases hx with hx | hx
  ·have := lay_small a n x hx; omega
  ·have := layL_small r _ x hx; omega
end
theorem lpoH_of {o : Od} {s t : T} (hs : o.lknows s = true) (ht : o.lknows t = true) (h1 : s.size ≤ 4294967296) (h2 : t.size ≤ 4294967296) : LpoH o (lay s 0) (lay t 0) :=
 ⟨fun k h => lay0_good s k h, fun k h => lay0_good t k h, fun k h => lay_known o s 0 hs _ (ndget_mem h), fun k h => lay_known o t 0 ht _ (ndget_mem h), fun k h => Nat.le_trans (lay_small s 0 _ (ndget_mem h)) h1, fun k h => Nat.le_trans (lay_small t 0 _ (ndget_mem h)) h2⟩
theorem chg_none {S : Nat → Prop} {w w' : World} (h : Chg S w w') (hS : ∀ k, ¬ S k) : Below w.heap.size w w' := ⟨h.os, h.tape, h.output, h.size, fun k hk => h.block k hk (hS k)⟩
/-- The value is the row of t's parts. -/
def PartsOf (E : Nat) (w0 : World) (t : T) (v : Value) (w : World) : Prop := ∃ (bm rc : Nat) (xs : List Value), v = .slice (some ⟨bm, 0, none⟩) (lay t 0).length rc ∧ Own w (fun g => g = bm) E 3 (some ⟨bm, 0, none⟩) rc (lay t 0).length xs ∧ NdsAt w0 w (fun _ => True) (lay t 0) xs
theorem PartsOf.bel {E : Nat} {w0 w w' : World} {t : T} {v : Value} (h : PartsOf E w0 t v w) (hb : Below w.heap.size w w') : PartsOf E w0 t v w' := by
 obtain ⟨bm, rc, xs, h1, h2, h3⟩ := h
 exact ⟨bm, rc, xs, h1, h2.below hb, h3.keep (S := fun _ => False) (.ofBelow hb) (fun _ _ h => ⟨id, h⟩)⟩
theorem parts_of {w0 w : World} {t : T} {v : Value} (hb : Below w0.heap.size w0 w) (hT : IsT w0 t v) (hz : t.size ≤ 4294967296) : Calls Try.prog 58 #[v, .slice none 0 0] w (Ret fun v' w' => PartsOf 92 w0 t v' w' ∧ Below w.heap.size w w') := by
 refine (parts_any t w0 w v none 0 0 w0.heap.size 0 [] hb hT own_nil (Nat.zero_le _) (Nat.le_refl _) (by omega)).mono ?_
 rintro e w' ⟨v', rfl, bm, rc, ys, rfl, h1, h2, _, h4, _⟩
 refine ⟨_, rfl, ⟨bm, rc, ys, by rw [lay_len, Nat.zero_add], by rw [lay_len]; simpa using h1, h2.keep (S := fun _ => False) (.refl _ _) (fun _ _ _ => ⟨id, trivial⟩)⟩, chg_none h4 (fun k => by omega)⟩
def MapOf (o : Od) (s t : T) (w0 : World) (v : Value) (w : World) : Prop := ∃ g, v = .map (some g) ∧ w0.heap.size ≤ g ∧ PrMap w g (LpoR o (lay s 0) (lay t 0))
theorem MapOf.bel {o : Od} {s t : T} {w0 w w' : World} {v : Value} (h : MapOf o s t w0 v w) (hb : Below w.heap.size w w') : MapOf o s t w0 v w' := by
 obtain ⟨g, h1, h2, h3⟩ := h
 exact ⟨g, h1, h2, h3.below hb⟩
def OverOf (o : Od) (s t : T) (w0 : World) (v : Value) (w : World) : Prop := ∃ q : LpoQ, v = .pointer (some ⟨q.gw, 0, none⟩) ∧ LpoSt o (lay s 0) (lay t 0) q w0 w
theorem OverOf.bel {o : Od} {s t : T} {w0 w w' : World} {v : Value} (h : OverOf o s t w0 v w) (hb : Below w.heap.size w w') : OverOf o s t w0 v w' := by
 obtain ⟨q, h1, h2⟩ := h
 exact ⟨q, h1, h2.bel hb⟩
theorem over_st {o : Od} {s t : T} {w0 w : World} {v1 v2 v3 : Value} {p1 p2 : Option Addr} {k1 k2 : Nat} (hb : Below w0.heap.size w0 w) (ho : IsInts w0 o.prec p1) (h1 : PartsOf 92 w0 s v1 w) (h2 : PartsOf 92 w0 t v2 w) (h3 : MapOf o s t w0 v3 w) :
  OverOf o s t w0 (.pointer (some ⟨w.heap.size, 0, none⟩)) (w.alloc (.cells #[.bool o.lpo, .slice p1 o.prec.length k1, .slice p2 o.weights.length k2, .int .i64 o.var, v1, v2, v3] 87)) := by
 have hb2 := balloc w (.cells #[.bool o.lpo, .slice p1 o.prec.length k1, .slice p2 o.weights.length k2, .int .i64 o.var, v1, v2, v3] 87)
 have hB : Blk (w.alloc (.cells #[.bool o.lpo, .slice p1 o.prec.length k1, .slice p2 o.weights.length k2, .int .i64 o.var, v1, v2, v3] 87)) w.heap.size 87 #[.bool o.lpo, .slice p1 o.prec.length k1, .slice p2 o.weights.length k2, .int .i64 o.var, v1, v2, v3] := Blk.new' rfl
 obtain ⟨b1, r1, xs1, rfl, o1, n1⟩ := h1.bel hb2
 obtain ⟨b2, r2, xs2, rfl, o2, n2⟩ := h2.bel hb2
 obtain ⟨gm, rfl, hg, hm⟩ := h3.bel hb2
 obtain ⟨A1, X1, C1, Z1, x1, m1⟩ := NdRow.of n1 o1
 obtain ⟨A2, X2, C2, Z2, x2, m2⟩ := NdRow.of n2 o2
 exact ⟨⟨w.heap.size, gm, b1, b2, r1, r2, A1, A2, X1, X2, C1, C2, Z1, Z2, x1, x2, p1, p2, k1, k2⟩, rfl, bstep hb hb2, ho, m1, m2, hm, hB, hg⟩
theorem labove0 {o : Od} {s t : T} {q : LpoQ} {w0 w : World} (hs : o.lknows s = true) (ht : o.lknows t = true) (h1 : s.size ≤ 4294967296) (h2 : t.size ≤ 4294967296) (hst : LpoSt o (lay s 0) (lay t 0) q w0 w) :
  Calls Try.prog 59 #[.pointer (some ⟨q.gw, 0, none⟩), .int .i64 0, .int .i64 0] w (Ret fun v' w' => v' = .bool (o.lg s t) ∧ Below w0.heap.size w0 w') := by
 have e1 := lay_len s 0
 have e2 := lay_len t 0
 have e3 := T.size_eq s
 have e4 := T.size_eq t
 have h := labove_any o (lay s 0) (lay t 0) q w0 (lpoH_of hs ht h1 h2) (s.size + t.size) 0 0 w (by omega) (by omega) (by rw [lay_head, lay_head]; exact Nat.le_refl _) hst
 rw [lay_head, lay_head] at h
 refine h.mono ?_
 rintro e w' ⟨v', rfl, rfl, h5, _⟩
 exact ⟨_, rfl, rfl, h5.below⟩
set_option maxRecDepth 100000 in
theorem lover_any (o : Od) (s t : T) (w : World) (vo v u : Value) (hs : o.lknows s = true) (ht : o.lknows t = true) (h1 : s.size ≤ 4294967296) (h2 : t.size ≤ 4294967296) (ho : IsOd w o vo) (hv : IsT w s v) (hu : IsT w t u) :
  Calls Try.prog 54 #[vo, v, u] w (Ret fun v' w' => v' = .bool (o.lg s t) ∧ Below w.heap.size w w') := by
 have hv0 := hv
 have hu0 := hu
 obtain ⟨p1, p2, k1, k2, rfl, _, _, _, _, hp, _, _⟩ := ho
 obtain ⟨_, a, c, rfl, _, _, _⟩ := hv.form
 obtain ⟨_, a2, c2, rfl, _, _, _⟩ := hu.form
 refine Calls.walk (l := [.agg #[.bool o.lpo, .slice p1 o.prec.length k1, .slice p2 o.weights.length k2, .int .i64 o.var], .agg #[.int .i64 s.f, .slice a s.args.length c], .agg #[.int .i64 t.f, .slice a2 t.args.length c2]]) Try.func54 rfl (by kernel_rfl) ?_
 refine WC.sub (K' := [(0, .agg #[.bool o.lpo, .slice p1 o.prec.length k1, .slice p2 o.weights.length k2, .int .i64 o.var]), (1, .agg #[.int .i64 s.f, .slice a s.args.length c]), (2, .agg #[.int .i64 t.f, .slice a2 t.args.length c2])]) ⟨rfl, rfl, rfl, trivial⟩ ?_
 refine WC.seq (WC.region ?_)
 refine WL.step (post := NewBlk w 24 #[.bool o.lpo, .slice p1 o.prec.length k1, .slice p2 o.weights.length k2, .int .i64 o.var]) rfl rfl rfl (fun za zC zh zk => box_24 rfl (zh.ev rfl) (zk _ _ (newBlk _ _ _))) ?_
 rintro _ w1 ⟨g2, rfl, hg3, hB4, hb5, hz6⟩
 have hl7 : w.heap.size ≤ g2 := by omega
 refine WL.step (post := NewBlk w1 34 #[.int .i64 s.f, .slice a s.args.length c]) rfl rfl rfl (fun za zC zh zk => box_34 rfl (zh.ev rfl) (zk _ _ (newBlk _ _ _))) ?_
 rintro _ w8 ⟨g9, rfl, hg10, hB11, hb12, hz13⟩
 have hl14 : g2 < g9 := by have z1 := hB4.lt; omega
 have hl15 : w.heap.size ≤ g9 := by have z2 := (hb5).size; omega
 refine WL.step (post := NewBlk w8 34 #[.int .i64 t.f, .slice a2 t.args.length c2]) rfl rfl rfl (fun za zC zh zk => box_34 rfl (zh.ev rfl) (zk _ _ (newBlk _ _ _))) ?_
 rintro _ w16 ⟨g17, rfl, hg18, hB19, hb20, hz21⟩
 have hl22 : g2 < g17 := by have z1 := hB4.lt; have z2 := (hb12).size; omega
 have hl23 : g9 < g17 := by have z1 := hB11.lt; omega
 have hb24 : Below w.heap.size w w8 := (bstep hb5 hb12)
 have hl25 : w.heap.size ≤ g17 := by have z2 := (hb24).size; omega
 refine WL.asg rfl rfl rfl rfl rfl (WL.nil (WE.next (WC.seq ?_)))
 have hb27 : Below w1.heap.size w1 w16 := (bstep hb12 hb20)
 have hB26 := hB4.below hb27
 have hB28 := hB11.below hb20
 have hb29 : Below w.heap.size w w16 := (bstep hb5 hb27)
 refine WC.opt [(true, .val (.agg #[.bool o.lpo, .slice p1 o.prec.length k1, .slice p2 o.weights.length k2, .int .i64 o.var])), (true, .val (.agg #[.int .i64 s.f, .slice a s.args.length c])), (true, .mem (PartsOf 92 w s) (fun v w w' hb h => PartsOf.bel h hb)), (true, .val (.agg #[.int .i64 t.f, .slice a2 t.args.length c2])), (true, .mem (PartsOf 92 w t) (fun v w w' hb h => PartsOf.bel h hb)), (true, .mem (MapOf o s t w) (fun v w w' hb h => MapOf.bel h hb)), (true, .mem (fun v w' => ∃ v1 v2 v3, v = .agg #[.bool o.lpo, .slice p1 o.prec.length k1, .slice p2 o.weights.length k2, .int .i64 o.var, v1, v2, v3] ∧ PartsOf 92 w s v1 w' ∧ PartsOf 92 w t v2 w' ∧ MapOf o s t w v3 w') (fun v w w' hb h => by obtain ⟨v1, v2, v3, e, h1, h2, h3⟩ := h; exact ⟨v1, v2, v3, e, h1.bel hb, h2.bel hb, h3.bel hb⟩)), (true, .mem (OverOf o s t w) (fun v w w' hb h => OverOf.bel h hb)), (true, .mem (OverOf o s t w) (fun v w w' hb h => OverOf.bel h hb))] [(0, .agg #[.bool o.lpo, .slice p1 o.prec.length k1, .slice p2 o.weights.length k2, .int .i64 o.var]), (1, .agg #[.int .i64 s.f, .slice a s.args.length c]), (2, .agg #[.int .i64 t.f, .slice a2 t.args.length c2]), (3, .pointer (some ⟨g2, 0, none⟩)), (4, .pointer (some ⟨g9, 0, none⟩)), (5, .pointer (some ⟨g17, 0, none⟩)), (6, .bool false)] ⟨rfl, rfl, rfl, rfl, rfl, rfl, rfl, trivial⟩ (by kernel_rfl) (by kernel_rfl) (by kernel_rfl) ?_ ?_
 ·refine ⟨⟨true, .none rfl, fun h w => optUndef h, fun zβ za zw zc => ?_⟩, ?_⟩
  ·exact ld_24 rfl (zc.kn.ev rfl) (bkeeps zc.below _ _ ((hB26.cell 0).trans rfl)) (bkeeps zc.below _ _ ((hB26.cell 1).trans rfl)) (bkeeps zc.below _ _ ((hB26.cell 2).trans rfl)) (bkeeps zc.below _ _ ((hB26.cell 3).trans rfl)) ⟨_, rfl, Below.refl _ _, optDef zβ rfl⟩
  refine ⟨⟨true, .none rfl, fun h w => optUndef h, fun zβ za zw zc => ?_⟩, ?_⟩
  ·exact ld_34 rfl (zc.kn.ev rfl) (bkeeps zc.below _ _ ((hB28.cell 0).trans rfl)) (bkeeps zc.below _ _ ((hB28.cell 1).trans rfl)) ⟨_, rfl, Below.refl _ _, optDef zβ rfl⟩
  refine ⟨⟨true, .none rfl, fun h w => optUndef h, fun zβ za zw zc => ?_⟩, ?_⟩
  ·exact wp_call (by kernel_rfl) rfl (hv2 ((evt za 9).trans (optVal (zc.dep 1 9 (by kernel_rfl)) rfl rfl)) (zc.kn.ev rfl)) (parts_of (bstep hb29 zc.below) hv0 h1) (fun v w' h => ⟨v, rfl, h.2, optDef zβ h.1⟩)
  refine ⟨⟨true, .none rfl, fun h w => optUndef h, fun zβ za zw zc => ?_⟩, ?_⟩
  ·exact ld_34 rfl (zc.kn.ev rfl) (bkeeps zc.below _ _ ((hB19.cell 0).trans rfl)) (bkeeps zc.below _ _ ((hB19.cell 1).trans rfl)) ⟨_, rfl, Below.refl _ _, optDef zβ rfl⟩
  refine ⟨⟨true, .none rfl, fun h w => optUndef h, fun zβ za zw zc => ?_⟩, ?_⟩
  ·exact wp_call (by kernel_rfl) rfl (hv2 ((evt za 11).trans (optVal (zc.dep 3 11 (by kernel_rfl)) rfl rfl)) (zc.kn.ev rfl)) (parts_of (bstep hb29 zc.below) hu0 h2) (fun v w' h => ⟨v, rfl, h.2, optDef zβ h.1⟩)
  refine ⟨⟨true, .none rfl, fun h w => optUndef h, fun zβ za zw zc => ?_⟩, ?_⟩
  ·exact wp_makeMap_pr (R := LpoR o (lay s 0) (lay t 0)) rfl (fun v w' h => by
    obtain ⟨g, h1, h2, h3, h4, h5⟩ := h
    exact ⟨v, rfl, h4, optDef zβ ⟨g, h1, h2 ▸ ((bstep hb29 zc.below)).size, h3⟩⟩)
  refine ⟨⟨true, .none rfl, fun h w => optUndef h, fun zβ za zw zc => ?_⟩, ?_⟩
  ·have m1 := (optMem (zc.dep 2 10 (by kernel_rfl)) rfl rfl)
   have m2 := (optMem (zc.dep 4 12 (by kernel_rfl)) rfl rfl)
   have m3 := (optMem (zc.dep 5 13 (by kernel_rfl)) rfl rfl)
   obtain ⟨b1, r1, x1, e1, _⟩ := id m1
   obtain ⟨b2, r2, x2, e2, _⟩ := id m2
   obtain ⟨g, e3, _⟩ := id m3
   refine build_87_0_1_2_3 rfl ((evt za 8).trans (optVal (zc.dep 0 8 (by kernel_rfl)) rfl rfl)) ((evt za 10).trans e1) ((evt za 12).trans e2) ((evt za 13).trans e3) ⟨_, rfl, Below.refl _ _, optDef zβ ⟨_, _, _, rfl, e1 ▸ m1, e2 ▸ m2, e3 ▸ m3⟩⟩
  refine ⟨⟨true, .none rfl, fun h w => optUndef h, fun zβ za zw zc => ?_⟩, ?_⟩
  ·obtain ⟨v1, v2, v3, e, m1, m2, m3⟩ := (optMem (zc.dep 6 14 (by kernel_rfl)) rfl rfl)
   exact box_87 rfl ((evt za 14).trans e) ⟨_, rfl, balloc _ _, optDef zβ (over_st (bstep hb29 zc.below) hp m1 m2 m3)⟩
  refine ⟨⟨true, .none rfl, fun h w => optUndef h, fun zβ za zw zc => ?_⟩, ?_⟩
  ·exact wp_assign rfl (evt za 15) ⟨_, rfl, Below.refl _ _, optDef zβ (optMem (zc.dep 7 15 (by kernel_rfl)) rfl rfl)⟩
  exact trivial
 ·intro za w30 zh hb31 zu
  obtain ⟨q, hq, hst⟩ := (optMem (zu 8 7 (by kernel_rfl)) rfl rfl)
  have zh := zh.cons (d := 7) hq
  clear zu
  refine WE.go zh ?_
  refine WE.next (WC.seq (WC.region (WL.mv rfl rfl rfl rfl rfl ?_)))
  refine WL.call rfl rfl rfl (fun za zh zC => wp_call (by kernel_rfl) rfl (hv3 (zh.ev rfl) (zh.ev rfl) (zh.ev rfl))) (labove0 hs ht h1 h2 hst) ?_
  rintro _ w32 ⟨rfl, hbz⟩
  refine WL.asg rfl rfl rfl rfl rfl (WL.nil (WE.next (WC.ret (WE.ret1 rfl rfl ?_))))
  exact ⟨_, rfl, rfl, hbz⟩
set_option maxRecDepth 100000 in
theorem lcmp_any (o : Od) (s t : T) (w : World) (vo v u : Value) (h1 : s.size ≤ 4294967296) (h2 : t.size ≤ 4294967296) (ho : IsOd w o vo) (hv : IsT w s v) (hu : IsT w t u) :
  Calls Try.prog 50 #[vo, v, u] w (Ret fun v' w' => v' = .int .i64 (o.lcmp s t) ∧ Below w.heap.size w w') := by
 have hv0 := hv
 have hu0 := hu
 have ho0 := ho
 obtain ⟨p1, p2, k1, k2, rfl, _, _, _, _, hp, _, _⟩ := ho
 obtain ⟨_, a, c, rfl, _, _, _⟩ := hv.form
 obtain ⟨_, a2, c2, rfl, _, _, _⟩ := hu.form
 refine Calls.walk (l := [.agg #[.bool o.lpo, .slice p1 o.prec.length k1, .slice p2 o.weights.length k2, .int .i64 o.var], .agg #[.int .i64 s.f, .slice a s.args.length c], .agg #[.int .i64 t.f, .slice a2 t.args.length c2]]) Try.func50 rfl (by kernel_rfl) ?_
 refine WC.sub (K' := [(0, .agg #[.bool o.lpo, .slice p1 o.prec.length k1, .slice p2 o.weights.length k2, .int .i64 o.var]), (1, .agg #[.int .i64 s.f, .slice a s.args.length c]), (2, .agg #[.int .i64 t.f, .slice a2 t.args.length c2])]) ⟨rfl, rfl, rfl, trivial⟩ ?_
 refine WC.seq (WC.region ?_)
 refine WL.step (post := NewBlk w 24 #[.bool o.lpo, .slice p1 o.prec.length k1, .slice p2 o.weights.length k2, .int .i64 o.var]) rfl rfl rfl (fun za zC zh zk => box_24 rfl (zh.ev rfl) (zk _ _ (newBlk _ _ _))) ?_
 rintro _ w1 ⟨g2, rfl, hg3, hB4, hb5, hz6⟩
 have hl7 : w.heap.size ≤ g2 := by omega
 refine WL.step (post := NewBlk w1 34 #[.int .i64 s.f, .slice a s.args.length c]) rfl rfl rfl (fun za zC zh zk => box_34 rfl (zh.ev rfl) (zk _ _ (newBlk _ _ _))) ?_
 rintro _ w8 ⟨g9, rfl, hg10, hB11, hb12, hz13⟩
 have hl14 : g2 < g9 := by have z1 := hB4.lt; omega
 have hl15 : w.heap.size ≤ g9 := by have z2 := (hb5).size; omega
 refine WL.step (post := NewBlk w8 34 #[.int .i64 t.f, .slice a2 t.args.length c2]) rfl rfl rfl (fun za zC zh zk => box_34 rfl (zh.ev rfl) (zk _ _ (newBlk _ _ _))) ?_
 rintro _ w16 ⟨g17, rfl, hg18, hB19, hb20, hz21⟩
 have hl22 : g2 < g17 := by have z1 := hB4.lt; have z2 := (hb12).size; omega
 have hl23 : g9 < g17 := by have z1 := hB11.lt; omega
 have hb24 : Below w.heap.size w w8 := (bstep hb5 hb12)
 have hl25 : w.heap.size ≤ g17 := by have z2 := (hb24).size; omega
 refine WL.asg rfl rfl rfl rfl rfl (WL.nil (WE.next (WC.seq (WC.block (WC.seq ?_)))))
 have hb27 : Below w1.heap.size w1 w16 := (bstep hb12 hb20)
 have hB26 := hB4.below hb27
 have hB28 := hB11.below hb20
 have hb29 : Below w.heap.size w w16 := (bstep hb5 hb27)
 refine WC.opt [(true, .val (.agg #[.bool o.lpo, .slice p1 o.prec.length k1, .slice p2 o.weights.length k2, .int .i64 o.var])), (true, .val (.agg #[.int .i64 s.f, .slice a s.args.length c])), (true, .val (.bool ((o.lknows s)))), (true, .val (.bool ((!(o.lknows s))))), (true, .val (.bool ((!(o.lknows s))))), ((true && !(!(o.lknows s))), .val (.agg #[.bool o.lpo, .slice p1 o.prec.length k1, .slice p2 o.weights.length k2, .int .i64 o.var])), ((true && !(!(o.lknows s))), .val (.agg #[.int .i64 t.f, .slice a2 t.args.length c2])), ((true && !(!(o.lknows s))), .val (.bool ((o.lknows t)))), ((true && !(!(o.lknows s))), .val (.bool ((!(o.lknows t))))), (true, .val (.bool (((!(o.lknows s)) || (!(o.lknows t)))))), (true, .val (.bool (((!(o.lknows s)) || (!(o.lknows t))))))] [(0, .agg #[.bool o.lpo, .slice p1 o.prec.length k1, .slice p2 o.weights.length k2, .int .i64 o.var]), (1, .agg #[.int .i64 s.f, .slice a s.args.length c]), (2, .agg #[.int .i64 t.f, .slice a2 t.args.length c2]), (3, .pointer (some ⟨g2, 0, none⟩)), (4, .pointer (some ⟨g9, 0, none⟩)), (5, .pointer (some ⟨g17, 0, none⟩)), (6, .int .i64 0)] ⟨rfl, rfl, rfl, rfl, rfl, rfl, rfl, trivial⟩ (by kernel_rfl) (by kernel_rfl) (by kernel_rfl) ?_ ?_
 ·refine ⟨⟨true, .none rfl, fun h w => optUndef h, fun zβ za zw zc => ?_⟩, ?_⟩
  ·exact ld_24 rfl (zc.kn.ev rfl) (bkeeps zc.below _ _ ((hB26.cell 0).trans rfl)) (bkeeps zc.below _ _ ((hB26.cell 1).trans rfl)) (bkeeps zc.below _ _ ((hB26.cell 2).trans rfl)) (bkeeps zc.below _ _ ((hB26.cell 3).trans rfl)) ⟨_, rfl, Below.refl _ _, optDef zβ rfl⟩
  refine ⟨⟨true, .none rfl, fun h w => optUndef h, fun zβ za zw zc => ?_⟩, ?_⟩
  ·exact ld_34 rfl (zc.kn.ev rfl) (bkeeps zc.below _ _ ((hB28.cell 0).trans rfl)) (bkeeps zc.below _ _ ((hB28.cell 1).trans rfl)) ⟨_, rfl, Below.refl _ _, optDef zβ rfl⟩
  refine ⟨⟨true, .none rfl, fun h w => optUndef h, fun zβ za zw zc => ?_⟩, ?_⟩
  ·exact wp_call (by kernel_rfl) rfl (hv2 ((evt za 8).trans (optVal (zc.dep 0 8 (by kernel_rfl)) rfl rfl)) ((evt za 9).trans (optVal (zc.dep 1 9 (by kernel_rfl)) rfl rfl))) (lknows_any o s _ _ _ (ho0.below (bstep hb29 zc.below)) (IsT.below (bstep hb29 zc.below) hv0)) (fun v w' h => ⟨v, rfl, h.2, optDef zβ h.1⟩)
  refine ⟨⟨true, .none rfl, fun h w => optUndef h, fun zβ za zw zc => ?_⟩, ?_⟩
  ·exact wp_not rfl ((evt za 10).trans (optVal (zc.dep 2 10 (by kernel_rfl)) rfl rfl)) ⟨_, rfl, Below.refl _ _, optDef zβ rfl⟩
  refine ⟨⟨true, .none rfl, fun h w => optUndef h, fun zβ za zw zc => ?_⟩, ?_⟩
  ·exact wp_move rfl ((evt za 11).trans (optVal (zc.dep 3 11 (by kernel_rfl)) rfl rfl)) ⟨_, rfl, Below.refl _ _, optDef zβ rfl⟩
  refine ⟨⟨_, .no (c := (!(o.lknows s))) (d := true) rfl (fun v w h => h), fun h w => optUndef h, fun zβ za zw zc => ?_⟩, ?_⟩
  ·exact ld_24 rfl (zc.kn.ev rfl) (bkeeps zc.below _ _ ((hB26.cell 0).trans rfl)) (bkeeps zc.below _ _ ((hB26.cell 1).trans rfl)) (bkeeps zc.below _ _ ((hB26.cell 2).trans rfl)) (bkeeps zc.below _ _ ((hB26.cell 3).trans rfl)) ⟨_, rfl, Below.refl _ _, optDef zβ rfl⟩
  refine ⟨⟨_, .no (c := (!(o.lknows s))) (d := true) rfl (fun v w h => h), fun h w => optUndef h, fun zβ za zw zc => ?_⟩, ?_⟩
  ·exact ld_34 rfl (zc.kn.ev rfl) (bkeeps zc.below _ _ ((hB19.cell 0).trans rfl)) (bkeeps zc.below _ _ ((hB19.cell 1).trans rfl)) ⟨_, rfl, Below.refl _ _, optDef zβ rfl⟩
  refine ⟨⟨_, .no (c := (!(o.lknows s))) (d := true) rfl (fun v w h => h), fun h w => optUndef h, fun zβ za zw zc => ?_⟩, ?_⟩
  ·exact wp_call (by kernel_rfl) rfl (hv2 ((evt za 13).trans (optVal (zc.dep 5 13 (by kernel_rfl)) rfl zβ)) ((evt za 14).trans (optVal (zc.dep 6 14 (by kernel_rfl)) rfl zβ))) (lknows_any o t _ _ _ (ho0.below (bstep hb29 zc.below)) (IsT.below (bstep hb29 zc.below) hu0)) (fun v w' h => ⟨v, rfl, h.2, optDef zβ h.1⟩)
  refine ⟨⟨_, .no (c := (!(o.lknows s))) (d := true) rfl (fun v w h => h), fun h w => optUndef h, fun zβ za zw zc => ?_⟩, ?_⟩
  ·exact wp_not rfl ((evt za 15).trans (optVal (zc.dep 7 15 (by kernel_rfl)) rfl zβ)) ⟨_, rfl, Below.refl _ _, optDef zβ rfl⟩
  refine ⟨⟨true, .none rfl, fun h w => optUndef h, fun zβ za zw zc => ?_⟩, ?_⟩
  ·exact wp_or rfl ((evt za 12).trans (optVal (zc.dep 4 12 (by kernel_rfl)) rfl rfl)) (fun hp => ((evt za 16).trans (optVal (zc.dep 8 16 (by kernel_rfl)) rfl (bMkN zβ hp)))) ⟨_, rfl, Below.refl _ _, optDef zβ rfl⟩
  refine ⟨⟨true, .none rfl, fun h w => optUndef h, fun zβ za zw zc => ?_⟩, ?_⟩
  ·exact wp_assign rfl ((evt za 17).trans (optVal (zc.dep 9 17 (by kernel_rfl)) rfl rfl)) ⟨_, rfl, Below.refl _ _, optDef zβ rfl⟩
  exact trivial
 ·intro za w30 zh hb31 zu
  have zh := zh.cons (d := 7) (v := .bool (((!(o.lknows s)) || (!(o.lknows t))))) (optVal (zu 10 7 (by kernel_rfl)) rfl rfl)
  clear zu
  refine WE.go zh ?_
  refine WE.next ?_
  refine WC.cond rfl (fun h32 => ?_) (fun h32 => ?_)
  ·have h32 : (¬ ((o.lknows s) = true)) ∨ (¬ ((o.lknows t) = true)) := by simpa using h32
   have hk1 : o.lknows s = false ∨ o.lknows t = false := by have z := h32; simpa using z
   refine WC.seq (WC.region (WL.asg rfl rfl rfl rfl rfl (WL.nil (WE.next (WC.ret (WE.blockRet (WE.thenRet (WE.ret1 rfl rfl ?_))))))))
   have hb33 : Below w.heap.size w w30 := (bstep hb29 hb31)
   exact ⟨_, rfl, congrArg (Value.int .i64) (by first | (rcases hk1 with h | h <;> simp [Od.lcmp, h]; done) | simp [Od.lcmp, hk1.1, hk1.2, hk2, hk3, hk4]), hb33⟩
  ·have h32 : ¬ ((¬ ((o.lknows s) = true)) ∨ (¬ ((o.lknows t) = true))) := by simpa using h32
   have hk1 : o.lknows s = true ∧ o.lknows t = true := by have z := h32; simpa using z
   refine WC.seq (WC.region ?_)
   have hB34 := hB28.below hb31
   refine WL.val _ rfl rfl rfl (fun za zC zh zk => ld_34 rfl (zh.ev rfl) ((hB34.cell 0).trans rfl) ((hB34.cell 1).trans rfl) zk) ?_
   have hB35 := hB19.below hb31
   refine WL.val _ rfl rfl rfl (fun za zC zh zk => ld_34 rfl (zh.ev rfl) ((hB35.cell 0).trans rfl) ((hB35.cell 1).trans rfl) zk) ?_
   have hb36 : Below w.heap.size w w30 := (bstep hb29 hb31)
   refine WL.call rfl rfl rfl (fun za zh zC => wp_call (by kernel_rfl) rfl (hv2 (zh.ev rfl) (zh.ev rfl))) (ret_of (same_any s t _ _ _ (IsT.below hb36 hv0) (IsT.below hb36 hu0))) ?_
   rintro _ w37 ⟨rfl, hbs⟩
   refine WL.asg rfl rfl rfl rfl rfl (WL.nil (WE.next ?_))
   refine WC.cond rfl (fun h38 => ?_) (fun h38 => ?_)
   ·skip
    have hk2 : T.same s t = true := by have z := h38; simpa using z
    refine WC.seq (WC.region (WL.asg rfl rfl rfl rfl rfl (WL.nil (WE.next (WC.ret (WE.blockRet (WE.thenRet (WE.ret1 rfl rfl ?_))))))))
    have hb39 : Below w.heap.size w w37 := (bstep hb36 hbs)
    exact ⟨_, rfl, congrArg (Value.int .i64) (by simp [Od.lcmp, hk1.1, hk1.2, hk2]), hb39⟩
   ·skip
    have hk2 : T.same s t = false := by have z := h38; simpa using z
    refine WC.seq (WC.region ?_)
    have hb41 : Below w16.heap.size w16 w37 := (bstep hb31 hbs)
    have hB40 := hB26.below hb41
    refine WL.val _ rfl rfl rfl (fun za zC zh zk => ld_24 rfl (zh.ev rfl) ((hB40.cell 0).trans rfl) ((hB40.cell 1).trans rfl) ((hB40.cell 2).trans rfl) ((hB40.cell 3).trans rfl) zk) ?_
    have hB42 := hB34.below hbs
    refine WL.val _ rfl rfl rfl (fun za zC zh zk => ld_34 rfl (zh.ev rfl) ((hB42.cell 0).trans rfl) ((hB42.cell 1).trans rfl) zk) ?_
    have hB43 := hB35.below hbs
    refine WL.val _ rfl rfl rfl (fun za zC zh zk => ld_34 rfl (zh.ev rfl) ((hB43.cell 0).trans rfl) ((hB43.cell 1).trans rfl) zk) ?_
    have hb44 : Below w.heap.size w w37 := (bstep hb29 hb41)
    refine WL.call rfl rfl rfl (fun za zh zC => wp_call (by kernel_rfl) rfl (hv3 (zh.ev rfl) (zh.ev rfl) (zh.ev rfl))) (lover_any o s t _ _ _ _ hk1.1 hk1.2 h1 h2 (ho0.below hb44) (IsT.below hb44 hv0) (IsT.below hb44 hu0)) ?_
    rintro _ w45 ⟨rfl, hbo⟩
    refine WL.asg rfl rfl rfl rfl rfl (WL.nil (WE.next ?_))
    refine WC.cond rfl (fun h46 => ?_) (fun h46 => ?_)
    ·skip
     have hk3 : o.lg s t = true := by have z := h46; simpa using z
     refine WC.seq (WC.region (WL.asg rfl rfl rfl rfl rfl (WL.nil (WE.next (WC.ret (WE.blockRet (WE.thenRet (WE.ret1 rfl rfl ?_))))))))
     have hb47 : Below w.heap.size w w45 := (bstep hb44 hbo)
     exact ⟨_, rfl, congrArg (Value.int .i64) (by simp [Od.lcmp, hk1.1, hk1.2, hk2, hk3]), hb47⟩
    ·skip
     have hk3 : o.lg s t = false := by have z := h46; simpa using z
     refine WC.seq (WC.region ?_)
     have hB48 := hB40.below hbo
     refine WL.val _ rfl rfl rfl (fun za zC zh zk => ld_24 rfl (zh.ev rfl) ((hB48.cell 0).trans rfl) ((hB48.cell 1).trans rfl) ((hB48.cell 2).trans rfl) ((hB48.cell 3).trans rfl) zk) ?_
     have hB49 := hB43.below hbo
     refine WL.val _ rfl rfl rfl (fun za zC zh zk => ld_34 rfl (zh.ev rfl) ((hB49.cell 0).trans rfl) ((hB49.cell 1).trans rfl) zk) ?_
     have hB50 := hB42.below hbo
     refine WL.val _ rfl rfl rfl (fun za zC zh zk => ld_34 rfl (zh.ev rfl) ((hB50.cell 0).trans rfl) ((hB50.cell 1).trans rfl) zk) ?_
     have hb51 : Below w.heap.size w w45 := (bstep hb44 hbo)
     refine WL.call rfl rfl rfl (fun za zh zC => wp_call (by kernel_rfl) rfl (hv3 (zh.ev rfl) (zh.ev rfl) (zh.ev rfl))) (lover_any o t s _ _ _ _ hk1.2 hk1.1 h2 h1 (ho0.below hb51) (IsT.below hb51 hu0) (IsT.below hb51 hv0)) ?_
     rintro _ w52 ⟨rfl, hbo⟩
     refine WL.asg rfl rfl rfl rfl rfl (WL.nil (WE.next ?_))
     refine WC.cond rfl (fun h53 => ?_) (fun h53 => ?_)
     ·skip
      have hk4 : o.lg t s = true := by have z := h53; simpa using z
      refine WC.seq (WC.region (WL.asg rfl rfl rfl rfl rfl ?_))
      refine WL.nil (WE.sub (K' := [(0, .agg #[.bool o.lpo, .slice p1 o.prec.length k1, .slice p2 o.weights.length k2, .int .i64 o.var]), (1, .agg #[.int .i64 s.f, .slice a s.args.length c]), (2, .agg #[.int .i64 t.f, .slice a2 t.args.length c2]), (3, .pointer (some ⟨g2, 0, none⟩)), (4, .pointer (some ⟨g9, 0, none⟩)), (5, .pointer (some ⟨g17, 0, none⟩)), (6, .int .i64 1), (7, .bool (((!(o.lknows s)) || (!(o.lknows t))))), (18, .bool ((T.same s t))), (22, .bool ((o.lg s t))), (27, .bool ((o.lg t s)))]) ⟨rfl, rfl, rfl, rfl, rfl, rfl, rfl, rfl, rfl, rfl, rfl, trivial⟩ ?_)
      refine WE.next (WC.ret (WE.blockRet (WE.thenRet (WE.ret1 rfl rfl ?_))))
      have hb54 : Below w.heap.size w w52 := (bstep hb51 hbo)
      exact ⟨_, rfl, congrArg (Value.int .i64) (by simp [Od.lcmp, hk1.1, hk1.2, hk2, hk3, hk4]), hb54⟩
     ·skip
      have hk4 : o.lg t s = false := by have z := h53; simpa using z
      refine WC.skip (WE.blockNormal (WE.next (WC.seq (WC.region (WL.asg rfl rfl rfl rfl rfl ?_)))))
      refine WL.nil (WE.sub (K' := [(0, .agg #[.bool o.lpo, .slice p1 o.prec.length k1, .slice p2 o.weights.length k2, .int .i64 o.var]), (1, .agg #[.int .i64 s.f, .slice a s.args.length c]), (2, .agg #[.int .i64 t.f, .slice a2 t.args.length c2]), (3, .pointer (some ⟨g2, 0, none⟩)), (4, .pointer (some ⟨g9, 0, none⟩)), (5, .pointer (some ⟨g17, 0, none⟩)), (6, .int .i64 0), (7, .bool (((!(o.lknows s)) || (!(o.lknows t))))), (18, .bool ((T.same s t))), (22, .bool ((o.lg s t))), (27, .bool ((o.lg t s)))]) ⟨rfl, rfl, rfl, rfl, rfl, rfl, rfl, rfl, rfl, rfl, rfl, trivial⟩ ?_)
      refine WE.next (WC.ret (WE.ret1 rfl rfl ?_))
      have hb55 : Below w.heap.size w w52 := (bstep hb51 hbo)
      exact ⟨_, rfl, congrArg (Value.int .i64) (by first | (rcases hk1 with h | h <;> simp [Od.lcmp, h]; done) | simp [Od.lcmp, hk1.1, hk1.2, hk2, hk3, hk4]), hb55⟩
end Go.Proofs.Ytnokgjajcnhkkaa

/- The walks through the program's order of Knuth and Bendix. -/
namespace Go.Proofs.Ytnokgjajcnhkkaa
open Go.RowKit
theorem Od.knowsL_all (o : Od) : ∀ l, o.knowsL l = l.all o.knows
  | [] => rfl
  | a :: r => by rw [Od.knowsL, List.all_cons, Od.knowsL_all o r]
theorem all_take_succ {α : Type} (p : α → Bool) (l : List α) (k : Nat) (h : k < l.length) : (l.take (k + 1)).all p = ((l.take k).all p && p l[k]) := by
  rw [List.take_succ_eq_append_getElem h, List.all_append]; simp
theorem all_of_not {α : Type} (p : α → Bool) (l : List α) (k : Nat) (h : k < l.length) (hp : p l[k] = false) : l.all p = false := by
  rw [List.all_eq_false]; exact ⟨l[k], List.getElem_mem h, by simp [hp]⟩
theorem Od.knows_args {o : Od} {f : Int} {l : List T} (h : o.knows (.mk f l) = true) : f < 0 ∧ l = [] ∨ 0 ≤ f ∧ f < o.prec.length ∧ f < o.weights.length ∧ ∀ a ∈ l, o.knows a = true := by
  rw [Od.knows] at h
  by_cases h0 : f < 0
  · rw [if_pos h0] at h; exact .inl ⟨h0, by simpa using h⟩
  · rw [if_neg h0, Bool.and_eq_true, decide_eq_true_eq, Od.knowsL_all, List.all_eq_true] at h
    exact .inr ⟨by omega, h.1.1, h.1.2, h.2⟩
set_option maxRecDepth 100000 in
theorem knows_any (o : Od) (t : T) : ∀ (w : World) (vo v : Value), IsOd w o vo → IsT w t v →
    Calls Try.prog 55 #[vo, v] w fun e w' => e = .returned (.bool (o.knows t)) ∧ Below w.heap.size w w' := by
  induction t using T.ind with
  | h f l ih =>
  intro w vo v ho hv
  have ho0 := ho
  obtain ⟨a1, a2, c1, c2, rfl, n1, n2, n3, n4, _⟩ := ho
  obtain ⟨hf, a, c, rfl, hc, hm, hl⟩ := hv
  unfold maxLen at hm n2 n4
  obtain ⟨hf1, hf2⟩ := hf
  have HO := Lib.hid ho0
  clear ho0
  by_cases h0 : f < 0
  · have E := Lib.hid (show o.knows (.mk f l) = l.isEmpty by rw [Od.knows, if_pos h0])
    go_enter Try.func55, Try.ntmps55
    go_wp2_with fail
    go_ret
    refine ⟨?_, ((Below.refl _ _).alloc (Nat.le_refl _) _).alloc (by simp) _⟩
    rw [E.out]
    cases l <;> simp
    omega
  · by_cases h1 : f < o.prec.length ∧ f < o.weights.length
    · have E := Lib.hid (show o.knows (.mk f l) = l.all o.knows by rw [Od.knows, if_neg h0, Od.knowsL_all]; simp [h1])
      obtain ⟨h1, h2⟩ := h1
      rcases Nat.lt_or_ge o.weights.length o.prec.length with hx | hx
      all_goals
        go_enter Try.func55, Try.ntmps55
        go_wp2_with fail
        go_loopw [27] (fun i wr => ∃ (k : Nat), k ≤ l.length ∧ i = .int .i64 k ∧ (l.take k).all o.knows = true ∧
          Below (w.heap.size + 2) ((w.alloc (.cells #[.bool o.lpo, .slice a1 o.prec.length c1, .slice a2 o.weights.length c2, .int .i64 o.var] 24)).alloc (.cells #[.int .i64 f, .slice a l.length c] 34)) wr) (fun i _ => l.length - (intOf i).toNat)
        case atStart => exact ⟨0, Nat.zero_le _, rfl, rfl, Below.refl _ _⟩
        case round =>
          obtain ⟨k, hk, rfl, hall, hb⟩ := hrel
          have hw : Below w.heap.size w wr := (((Below.refl _ _).alloc (Nat.le_refl _) _).alloc (by simp) _).trans (hb.mono (by omega))
          by_cases hlt : k < l.length
          · obtain ⟨b, oo, a', c', rfl, g1, g2, h3⟩ := hl.at_ hw k hlt
            have b0 := calloc (show wr.cell? ⟨w.heap.size, 0, none⟩ = some (.bool o.lpo) by rw [hb.cell (by simp)]; go_simp)
            have b1 := calloc (show wr.cell? ⟨w.heap.size, 1, none⟩ = some (.slice a1 o.prec.length c1) by rw [hb.cell (by simp)]; go_simp)
            have b2 := calloc (show wr.cell? ⟨w.heap.size, 2, none⟩ = some (.slice a2 o.weights.length c2) by rw [hb.cell (by simp)]; go_simp)
            have b3 := calloc (show wr.cell? ⟨w.heap.size, 3, none⟩ = some (.int .i64 o.var) by rw [hb.cell (by simp)]; go_simp)
            have IH := fun w vo v => ih l[k] (List.getElem_mem hlt) w vo v
            have hz := hb.size
            simp only [World.size_alloc] at hz
            cases hkk : o.knows l[k] with
            | true =>
              rw [hkk] at IH
              have Hh3 := Lib.hid h3
              have Hhb := Lib.hid hb
              have Hhw := Lib.hid hw
              have Hhall := Lib.hid hall
              have Hhkk := Lib.hid hkk
              clear h3 hb hw hall hkk
              clear ih hl
              go_wp2_with (go_at_call 55; refine (IH _ _ _ (HO.out.below (Hhw.out.alloc Hhw.out.size _)) (Hh3.out.below ((Below.refl _ _).alloc (Nat.le_refl _) _))).mono ?_; rintro e w' ⟨rfl, hb'⟩)
              go_roundw
              case rel => exact ⟨k + 1, by omega, by go_num, by rw [all_take_succ _ _ _ hlt, Hhall.out, Hhkk.out]; rfl, Hhb.out.trans (((Below.refl _ _).alloc (by omega) _).trans (hb'.mono (by simp; omega)))⟩
              case measure => simp [intOf]; omega
            | false =>
              rw [hkk] at IH
              have Hh3 := Lib.hid h3
              have Hhb := Lib.hid hb
              have Hhw := Lib.hid hw
              have Hhall := Lib.hid hall
              have Hhkk := Lib.hid hkk
              clear h3 hb hw hall hkk
              clear ih hl
              go_wp2_with (go_at_call 55; refine (IH _ _ _ (HO.out.below (Hhw.out.alloc Hhw.out.size _)) (Hh3.out.below ((Below.refl _ _).alloc (Nat.le_refl _) _))).mono ?_; rintro e w' ⟨rfl, hb'⟩)
              go_ret
              exact ⟨rbool (by rw [E.out, all_of_not _ _ _ hlt Hhkk.out]), Hhw.out.trans (((Below.refl _ _).alloc (by omega) _).trans (hb'.mono (by simp; omega)))⟩
          · go_wp2_with fail
            go_ret
            obtain rfl : k = l.length := by omega
            rw [List.take_length] at hall
            exact ⟨rbool (by rw [E.out, hall]), hw⟩
    · have E := Lib.hid (show o.knows (.mk f l) = false by rw [Od.knows, if_neg h0]; simp [h1])
      rcases Nat.lt_or_ge o.weights.length o.prec.length with hx | hx
      all_goals
        go_enter Try.func55, Try.ntmps55
        go_wp2_with fail
        go_ret
        exact ⟨rbool E.out, ((Below.refl _ _).alloc (Nat.le_refl _) _).alloc (by simp) _⟩
end Go.Proofs.Ytnokgjajcnhkkaa

/- How often, how heavy: plain. -/
namespace Go.Proofs.Ytnokgjajcnhkkaa
open Go.RowKit Go.Sort Go
theorem T.often_le (x : Int) : (∀ t : T, t.often x ≤ t.size) ∧ ∀ l : List T, T.oftenL x l ≤ T.sizeL l := by
  have h : ∀ t : T, t.often x ≤ t.size := by
    intro t
    refine T.rec (motive_1 := fun t => t.often x ≤ t.size) (motive_2 := fun l => T.oftenL x l ≤ T.sizeL l) (fun f l ih => ?_) (by simp [T.oftenL]) (fun a r iha ihr => ?_) t
    · rw [T.often, T.size]; split <;> omega
    · rw [T.oftenL, T.sizeL]; omega
  refine ⟨h, fun l => ?_⟩
  induction l with
  | nil => simp [T.oftenL]
  | cons a r ih => rw [T.oftenL, T.sizeL]; have := h a; omega
theorem T.oftenL_take_succ (x : Int) (l : List T) (k : Nat) (h : k < l.length) : T.oftenL x (l.take (k + 1)) = T.oftenL x (l.take k) + T.often x l[k] := by
  induction l generalizing k with
  | nil => simp at h
  | cons t r ih =>
    cases k with
    | zero => simp [T.oftenL]
    | succ k => simp [T.oftenL, ih k (by simpa using h)]; omega
theorem Od.rawL_take_succ (o : Od) (l : List T) (k : Nat) (h : k < l.length) : o.rawL (l.take (k + 1)) = o.rawL (l.take k) + o.raw l[k] := by
  induction l generalizing k with
  | nil => simp at h
  | cons t r ih =>
    cases k with
    | zero => simp [Od.rawL]
    | succ k => simp [Od.rawL, ih k (by simpa using h)]; omega
end Go.Proofs.Ytnokgjajcnhkkaa

/- The walks through the program's order of Knuth and Bendix: what a term weighs. -/
namespace Go.Proofs.Ytnokgjajcnhkkaa
open Go.RowKit Go.Sort Go
theorem Box.grown {w w' : World} {b B : Nat} {vs : List Value} (h : Box w b vs) (hg : w.grownBy w' (some B)) (hne : b ≠ B) : Box w' b vs := fun i v hi => hg.cell (h i v hi) (by simpa using hne)
theorem gtrans {a b c : World} {B : Nat} (h : a.grownBy b (some B)) (k : b.grownBy c (some B)) : a.grownBy c (some B) :=
  ⟨k.os.trans h.os, k.tape.trans h.tape, k.output.trans h.output, Nat.le_trans h.size k.size, fun i hi hne => (k.block i (Nat.lt_of_lt_of_le hi h.size) hne).trans (h.block i hi hne)⟩
theorem galloc (w : World) (o : Obj) (B : Nat) : w.grownBy (w.alloc o) (some B) := World.grownBy_alloc _ _ _
theorem gset (w : World) (B i : Nat) (v : Value) : w.grownBy (w.setCell ⟨B, i, none⟩ v) (some B) :=
  ⟨rfl, rfl, rfl, by simp [World.setCell], fun k _ hne => Below.heap_setCell w ⟨B, i, none⟩ v k (by simpa using hne)⟩
theorem gbelow {w0 a b : World} {B : Nat} (h : Below w0.heap.size w0 a) (g : a.grownBy b (some B)) (hB : w0.heap.size ≤ B) : Below w0.heap.size w0 b :=
  h.grown g h.size (fun k hk => by cases hk; exact hB)
set_option maxRecDepth 100000 in
set_option maxHeartbeats 4000000 in
theorem weigh1_any (o : Od) (w0 : World) (t : T) : ∀ (v : Value), IsT w0 t v → o.knows t = true → ∀ (W : World) (x : Int) (Bo Bn Bw : Nat) (a3 a4 : Option Addr) (c3 c4 : Nat), Below w0.heap.size w0 W → w0.heap.size ≤ Bn → Bo ≠ Bn → Bw ≠ Bn →
    o.weights.length ≤ c4 → c4 ≤ maxLen → IsInts w0 o.weights a4 → I64 o.var → Box W Bo [.bool o.lpo, .slice a3 o.prec.length c3, .slice a4 o.weights.length c4, .int .i64 o.var] → Box W Bw [.func (.func 72) #[] #[.pointer (some ⟨Bo, 0, none⟩), .pointer (some ⟨Bn, 0, none⟩), .pointer (some ⟨Bw, 0, none⟩)]] →
    W.heap[Bn]? = some (.cells #[.int .i64 x] 3 (0, 0)) → 0 ≤ x → x ≤ 2147483647 →
    Calls Try.prog 72 #[v, .pointer (some ⟨Bo, 0, none⟩), .pointer (some ⟨Bn, 0, none⟩), .pointer (some ⟨Bw, 0, none⟩)] W fun e W' => e = .returned (.tuple #[]) ∧
      W'.heap[Bn]? = some (.cells #[.int .i64 (min (x + o.raw t) Od.most)] 3 (0, 0)) ∧ W.grownBy W' (some Bn) := by
  induction t using T.ind with
  | h f l ih =>
  intro v hv hk W x Bo Bn Bw a3 a4 c3 c4 hb hBn hon hwn n3 n4 p2 p3 hBo hBw hn hx0 hx1
  have hvv := p3
  obtain ⟨⟨hf1, hf2⟩, a, c, rfl, hc, hm, hl⟩ := hv
  unfold maxLen at hm n4
  have K := Od.knows_args hk
  obtain ⟨u0, u1, u2, u3⟩ := hBo.four
  have u0 := calloc u0
  have u1 := calloc u1
  have u2 := calloc u2
  have u3 := calloc u3
  have wf := calloc hBw.one
  have nf := calloc (cell_of_one hn)
  have cf : ∀ o, (W.alloc o).frozen? ⟨Bn, 0, none⟩ = false := fun o => free_of_one ((Below.heap_alloc _ _ _ (lt_of_block hn)).trans hn)
  have hn := Lib.hid hn
  have hb := Lib.hid hb
  have hBw0 := Lib.hid hBw
  have hBo0 := Lib.hid hBo
  have IHH := ih
  clear ih
  have ih := Lib.hid IHH
  clear IHH
  by_cases h0 : f < 0
  · obtain ⟨_, rfl⟩ := K.resolve_right (by omega)
    have hall : Hid (∀ a ∈ ([] : List T), o.knows a = true) := by unfold Hid; simp
    have ER := Lib.hid (show o.raw (.mk f []) = Od.clamp o.var + o.rawL [] by rw [Od.raw, Od.wsym, if_pos h0])
    generalize hll : ([] : List T) = l at *
    clear hll K
    obtain ⟨v1, v2⟩ := hvv
    rcases Int.lt_or_le o.var 0 with s1 | s1
    · go_enter Try.func72, Try.ntmps72
      go_wp2_with fail
      go_loopw [28] (fun i wr => ∃ (k : Nat) (y : Int), k ≤ l.length ∧ i = .int .i64 k ∧ 0 ≤ y ∧ y ≤ 2147483647 ∧ Hid (y = min (x + Od.clamp o.var + o.rawL (l.take k)) Od.most) ∧ W.grownBy wr (some Bn) ∧ wr.heap[Bn]? = some (.cells #[.int .i64 y] 3 (0, 0))) (fun i _ => l.length - (intOf i).toNat)
      case atStart =>
        refine ⟨0, _, Nat.zero_le _, rfl, ?_, ?_, ?_, gtrans (galloc _ _ _) (gset _ _ _ _), one_setCell ((Below.heap_alloc _ _ _ (lt_of_block hn.out)).trans hn.out)⟩
        · omega
        · omega
        · unfold Hid; simp only [List.take_zero, Od.rawL]; unfold Od.clamp Od.most; omega
      case round =>
        clear u0 u1 u2 u3 wf nf cf
        obtain ⟨k, y, hk, rfl, hy0, hy1, hy, hg, hn2⟩ := hrel
        have hb2 := gbelow hb.out hg hBn
        by_cases hlt : k < l.length
        · obtain ⟨b, oo, a', c', rfl, g1, g2, h3⟩ := hl.at2 hb2 k hlt
          have hmem := List.getElem_mem hlt
          have B2 := hBw0.out.grown hg hwn
          have B1 := hBo0.out.grown hg hon
          have wf := calloc B2.one
          have IH := fun W0 hW => ih.out l[k] hmem _ h3 (hall.out _ hmem) W0 y Bo Bn Bw a3 _ c3 c4 hW hBn hon hwn n3 n4 p2 p3
          have q5 := o.rawL_take_succ l k hlt
          have R := o.raw_nonneg l[k]
          have RL := o.rawL_nonneg (l.take k)
          have CL : 0 ≤ Od.clamp o.var := by unfold Od.clamp; omega
          have Hhb2 := Lib.hid hb2
          have HB1 := Lib.hid B1
          have HB2 := Lib.hid B2
          have Hhn2 := Lib.hid hn2
          have Hhg := Lib.hid hg
          have Hq5 := Lib.hid q5
          have Hhy := Lib.hid hy
          have Hh3 := Lib.hid h3
          have HR := Lib.hid R
          have HRL := Lib.hid RL
          have HCL := Lib.hid CL
          clear hb2 B1 B2 hn2 hg q5 hy h3 R RL CL
          clear hl
          go_wp2_with (go_at_call 72; refine (IH _ (bstep Hhb2.out (balloc _ _)) (HB1.out.alloc _) (HB2.out.alloc _) ((Below.heap_alloc _ _ _ (lt_of_block Hhn2.out)).trans Hhn2.out) (by omega) (by omega)).mono ?_; rintro e w' ⟨rfl, hn3, hg3⟩)
          have Hn3 := Lib.hid hn3
          clear hn3
          go_wp2_with fail
          go_roundw
          case rel =>
            refine ⟨k + 1, _, by omega, by go_num, ?_, ?_, ?_, gtrans Hhg.out (gtrans (galloc _ _ _) hg3), Hn3.out⟩
            · have := HR.out; unfold Od.most; omega
            · unfold Od.most; omega
            · have e1 := Hq5.out
              have e2 := Hhy.out
              have e3 := HR.out
              have e4 := HRL.out
              have e5 := HCL.out
              unfold Hid
              rw [e2, e1]
              generalize Od.clamp o.var = cw at *
              unfold Od.most
              omega
          case measure => simp [intOf]; omega
        · go_wp2_with fail
          go_end0
          obtain rfl : k = l.length := by omega
          refine ⟨rfl, ?_, hg⟩
          rw [hn2, hy.out, List.take_length, ER.out, Int.add_assoc]
    · rcases Int.lt_or_le 2147483647 o.var with s2 | s2
      · rcases Int.lt_or_le 0 x with s4 | s4
        · go_enter Try.func72, Try.ntmps72
          go_wp2_with fail
          go_loopw [28] (fun i wr => ∃ (k : Nat) (y : Int), k ≤ l.length ∧ i = .int .i64 k ∧ 0 ≤ y ∧ y ≤ 2147483647 ∧ Hid (y = min (x + Od.clamp o.var + o.rawL (l.take k)) Od.most) ∧ W.grownBy wr (some Bn) ∧ wr.heap[Bn]? = some (.cells #[.int .i64 y] 3 (0, 0))) (fun i _ => l.length - (intOf i).toNat)
          case atStart =>
            refine ⟨0, _, Nat.zero_le _, rfl, ?_, ?_, ?_, gtrans (galloc _ _ _) (gset _ _ _ _), one_setCell ((Below.heap_alloc _ _ _ (lt_of_block hn.out)).trans hn.out)⟩
            · omega
            · omega
            · unfold Hid; simp only [List.take_zero, Od.rawL]; unfold Od.clamp Od.most; omega
          case round =>
            clear u0 u1 u2 u3 wf nf cf
            obtain ⟨k, y, hk, rfl, hy0, hy1, hy, hg, hn2⟩ := hrel
            have hb2 := gbelow hb.out hg hBn
            by_cases hlt : k < l.length
            · obtain ⟨b, oo, a', c', rfl, g1, g2, h3⟩ := hl.at2 hb2 k hlt
              have hmem := List.getElem_mem hlt
              have B2 := hBw0.out.grown hg hwn
              have B1 := hBo0.out.grown hg hon
              have wf := calloc B2.one
              have IH := fun W0 hW => ih.out l[k] hmem _ h3 (hall.out _ hmem) W0 y Bo Bn Bw a3 _ c3 c4 hW hBn hon hwn n3 n4 p2 p3
              have q5 := o.rawL_take_succ l k hlt
              have R := o.raw_nonneg l[k]
              have RL := o.rawL_nonneg (l.take k)
              have CL : 0 ≤ Od.clamp o.var := by unfold Od.clamp; omega
              have Hhb2 := Lib.hid hb2
              have HB1 := Lib.hid B1
              have HB2 := Lib.hid B2
              have Hhn2 := Lib.hid hn2
              have Hhg := Lib.hid hg
              have Hq5 := Lib.hid q5
              have Hhy := Lib.hid hy
              have Hh3 := Lib.hid h3
              have HR := Lib.hid R
              have HRL := Lib.hid RL
              have HCL := Lib.hid CL
              clear hb2 B1 B2 hn2 hg q5 hy h3 R RL CL
              clear hl
              go_wp2_with (go_at_call 72; refine (IH _ (bstep Hhb2.out (balloc _ _)) (HB1.out.alloc _) (HB2.out.alloc _) ((Below.heap_alloc _ _ _ (lt_of_block Hhn2.out)).trans Hhn2.out) (by omega) (by omega)).mono ?_; rintro e w' ⟨rfl, hn3, hg3⟩)
              have Hn3 := Lib.hid hn3
              clear hn3
              go_wp2_with fail
              go_roundw
              case rel =>
                refine ⟨k + 1, _, by omega, by go_num, ?_, ?_, ?_, gtrans Hhg.out (gtrans (galloc _ _ _) hg3), Hn3.out⟩
                · have := HR.out; unfold Od.most; omega
                · unfold Od.most; omega
                · have e1 := Hq5.out
                  have e2 := Hhy.out
                  have e3 := HR.out
                  have e4 := HRL.out
                  have e5 := HCL.out
                  unfold Hid
                  rw [e2, e1]
                  generalize Od.clamp o.var = cw at *
                  unfold Od.most
                  omega
              case measure => simp [intOf]; omega
            · go_wp2_with fail
              go_end0
              obtain rfl : k = l.length := by omega
              refine ⟨rfl, ?_, hg⟩
              rw [hn2, hy.out, List.take_length, ER.out, Int.add_assoc]
        · go_enter Try.func72, Try.ntmps72
          go_wp2_with fail
          go_loopw [28] (fun i wr => ∃ (k : Nat) (y : Int), k ≤ l.length ∧ i = .int .i64 k ∧ 0 ≤ y ∧ y ≤ 2147483647 ∧ Hid (y = min (x + Od.clamp o.var + o.rawL (l.take k)) Od.most) ∧ W.grownBy wr (some Bn) ∧ wr.heap[Bn]? = some (.cells #[.int .i64 y] 3 (0, 0))) (fun i _ => l.length - (intOf i).toNat)
          case atStart =>
            refine ⟨0, _, Nat.zero_le _, rfl, ?_, ?_, ?_, gtrans (galloc _ _ _) (gset _ _ _ _), one_setCell ((Below.heap_alloc _ _ _ (lt_of_block hn.out)).trans hn.out)⟩
            · omega
            · omega
            · unfold Hid; simp only [List.take_zero, Od.rawL]; unfold Od.clamp Od.most; omega
          case round =>
            clear u0 u1 u2 u3 wf nf cf
            obtain ⟨k, y, hk, rfl, hy0, hy1, hy, hg, hn2⟩ := hrel
            have hb2 := gbelow hb.out hg hBn
            by_cases hlt : k < l.length
            · obtain ⟨b, oo, a', c', rfl, g1, g2, h3⟩ := hl.at2 hb2 k hlt
              have hmem := List.getElem_mem hlt
              have B2 := hBw0.out.grown hg hwn
              have B1 := hBo0.out.grown hg hon
              have wf := calloc B2.one
              have IH := fun W0 hW => ih.out l[k] hmem _ h3 (hall.out _ hmem) W0 y Bo Bn Bw a3 _ c3 c4 hW hBn hon hwn n3 n4 p2 p3
              have q5 := o.rawL_take_succ l k hlt
              have R := o.raw_nonneg l[k]
              have RL := o.rawL_nonneg (l.take k)
              have CL : 0 ≤ Od.clamp o.var := by unfold Od.clamp; omega
              have Hhb2 := Lib.hid hb2
              have HB1 := Lib.hid B1
              have HB2 := Lib.hid B2
              have Hhn2 := Lib.hid hn2
              have Hhg := Lib.hid hg
              have Hq5 := Lib.hid q5
              have Hhy := Lib.hid hy
              have Hh3 := Lib.hid h3
              have HR := Lib.hid R
              have HRL := Lib.hid RL
              have HCL := Lib.hid CL
              clear hb2 B1 B2 hn2 hg q5 hy h3 R RL CL
              clear hl
              go_wp2_with (go_at_call 72; refine (IH _ (bstep Hhb2.out (balloc _ _)) (HB1.out.alloc _) (HB2.out.alloc _) ((Below.heap_alloc _ _ _ (lt_of_block Hhn2.out)).trans Hhn2.out) (by omega) (by omega)).mono ?_; rintro e w' ⟨rfl, hn3, hg3⟩)
              have Hn3 := Lib.hid hn3
              clear hn3
              go_wp2_with fail
              go_roundw
              case rel =>
                refine ⟨k + 1, _, by omega, by go_num, ?_, ?_, ?_, gtrans Hhg.out (gtrans (galloc _ _ _) hg3), Hn3.out⟩
                · have := HR.out; unfold Od.most; omega
                · unfold Od.most; omega
                · have e1 := Hq5.out
                  have e2 := Hhy.out
                  have e3 := HR.out
                  have e4 := HRL.out
                  have e5 := HCL.out
                  unfold Hid
                  rw [e2, e1]
                  generalize Od.clamp o.var = cw at *
                  unfold Od.most
                  omega
              case measure => simp [intOf]; omega
            · go_wp2_with fail
              go_end0
              obtain rfl : k = l.length := by omega
              refine ⟨rfl, ?_, hg⟩
              rw [hn2, hy.out, List.take_length, ER.out, Int.add_assoc]
      · rcases Int.lt_or_le 2147483647 (x + o.var) with s3 | s3
        · go_enter Try.func72, Try.ntmps72
          go_wp2_with fail
          go_loopw [28] (fun i wr => ∃ (k : Nat) (y : Int), k ≤ l.length ∧ i = .int .i64 k ∧ 0 ≤ y ∧ y ≤ 2147483647 ∧ Hid (y = min (x + Od.clamp o.var + o.rawL (l.take k)) Od.most) ∧ W.grownBy wr (some Bn) ∧ wr.heap[Bn]? = some (.cells #[.int .i64 y] 3 (0, 0))) (fun i _ => l.length - (intOf i).toNat)
          case atStart =>
            refine ⟨0, _, Nat.zero_le _, rfl, ?_, ?_, ?_, gtrans (galloc _ _ _) (gset _ _ _ _), one_setCell ((Below.heap_alloc _ _ _ (lt_of_block hn.out)).trans hn.out)⟩
            · omega
            · omega
            · unfold Hid; simp only [List.take_zero, Od.rawL]; unfold Od.clamp Od.most; omega
          case round =>
            clear u0 u1 u2 u3 wf nf cf
            obtain ⟨k, y, hk, rfl, hy0, hy1, hy, hg, hn2⟩ := hrel
            have hb2 := gbelow hb.out hg hBn
            by_cases hlt : k < l.length
            · obtain ⟨b, oo, a', c', rfl, g1, g2, h3⟩ := hl.at2 hb2 k hlt
              have hmem := List.getElem_mem hlt
              have B2 := hBw0.out.grown hg hwn
              have B1 := hBo0.out.grown hg hon
              have wf := calloc B2.one
              have IH := fun W0 hW => ih.out l[k] hmem _ h3 (hall.out _ hmem) W0 y Bo Bn Bw a3 _ c3 c4 hW hBn hon hwn n3 n4 p2 p3
              have q5 := o.rawL_take_succ l k hlt
              have R := o.raw_nonneg l[k]
              have RL := o.rawL_nonneg (l.take k)
              have CL : 0 ≤ Od.clamp o.var := by unfold Od.clamp; omega
              have Hhb2 := Lib.hid hb2
              have HB1 := Lib.hid B1
              have HB2 := Lib.hid B2
              have Hhn2 := Lib.hid hn2
              have Hhg := Lib.hid hg
              have Hq5 := Lib.hid q5
              have Hhy := Lib.hid hy
              have Hh3 := Lib.hid h3
              have HR := Lib.hid R
              have HRL := Lib.hid RL
              have HCL := Lib.hid CL
              clear hb2 B1 B2 hn2 hg q5 hy h3 R RL CL
              clear hl
              go_wp2_with (go_at_call 72; refine (IH _ (bstep Hhb2.out (balloc _ _)) (HB1.out.alloc _) (HB2.out.alloc _) ((Below.heap_alloc _ _ _ (lt_of_block Hhn2.out)).trans Hhn2.out) (by omega) (by omega)).mono ?_; rintro e w' ⟨rfl, hn3, hg3⟩)
              have Hn3 := Lib.hid hn3
              clear hn3
              go_wp2_with fail
              go_roundw
              case rel =>
                refine ⟨k + 1, _, by omega, by go_num, ?_, ?_, ?_, gtrans Hhg.out (gtrans (galloc _ _ _) hg3), Hn3.out⟩
                · have := HR.out; unfold Od.most; omega
                · unfold Od.most; omega
                · have e1 := Hq5.out
                  have e2 := Hhy.out
                  have e3 := HR.out
                  have e4 := HRL.out
                  have e5 := HCL.out
                  unfold Hid
                  rw [e2, e1]
                  generalize Od.clamp o.var = cw at *
                  unfold Od.most
                  omega
              case measure => simp [intOf]; omega
            · go_wp2_with fail
              go_end0
              obtain rfl : k = l.length := by omega
              refine ⟨rfl, ?_, hg⟩
              rw [hn2, hy.out, List.take_length, ER.out, Int.add_assoc]
        · go_enter Try.func72, Try.ntmps72
          go_wp2_with fail
          go_loopw [28] (fun i wr => ∃ (k : Nat) (y : Int), k ≤ l.length ∧ i = .int .i64 k ∧ 0 ≤ y ∧ y ≤ 2147483647 ∧ Hid (y = min (x + Od.clamp o.var + o.rawL (l.take k)) Od.most) ∧ W.grownBy wr (some Bn) ∧ wr.heap[Bn]? = some (.cells #[.int .i64 y] 3 (0, 0))) (fun i _ => l.length - (intOf i).toNat)
          case atStart =>
            refine ⟨0, _, Nat.zero_le _, rfl, ?_, ?_, ?_, gtrans (galloc _ _ _) (gset _ _ _ _), one_setCell ((Below.heap_alloc _ _ _ (lt_of_block hn.out)).trans hn.out)⟩
            · omega
            · omega
            · unfold Hid; simp only [List.take_zero, Od.rawL]; unfold Od.clamp Od.most; omega
          case round =>
            clear u0 u1 u2 u3 wf nf cf
            obtain ⟨k, y, hk, rfl, hy0, hy1, hy, hg, hn2⟩ := hrel
            have hb2 := gbelow hb.out hg hBn
            by_cases hlt : k < l.length
            · obtain ⟨b, oo, a', c', rfl, g1, g2, h3⟩ := hl.at2 hb2 k hlt
              have hmem := List.getElem_mem hlt
              have B2 := hBw0.out.grown hg hwn
              have B1 := hBo0.out.grown hg hon
              have wf := calloc B2.one
              have IH := fun W0 hW => ih.out l[k] hmem _ h3 (hall.out _ hmem) W0 y Bo Bn Bw a3 _ c3 c4 hW hBn hon hwn n3 n4 p2 p3
              have q5 := o.rawL_take_succ l k hlt
              have R := o.raw_nonneg l[k]
              have RL := o.rawL_nonneg (l.take k)
              have CL : 0 ≤ Od.clamp o.var := by unfold Od.clamp; omega
              have Hhb2 := Lib.hid hb2
              have HB1 := Lib.hid B1
              have HB2 := Lib.hid B2
              have Hhn2 := Lib.hid hn2
              have Hhg := Lib.hid hg
              have Hq5 := Lib.hid q5
              have Hhy := Lib.hid hy
              have Hh3 := Lib.hid h3
              have HR := Lib.hid R
              have HRL := Lib.hid RL
              have HCL := Lib.hid CL
              clear hb2 B1 B2 hn2 hg q5 hy h3 R RL CL
              clear hl
              go_wp2_with (go_at_call 72; refine (IH _ (bstep Hhb2.out (balloc _ _)) (HB1.out.alloc _) (HB2.out.alloc _) ((Below.heap_alloc _ _ _ (lt_of_block Hhn2.out)).trans Hhn2.out) (by omega) (by omega)).mono ?_; rintro e w' ⟨rfl, hn3, hg3⟩)
              have Hn3 := Lib.hid hn3
              clear hn3
              go_wp2_with fail
              go_roundw
              case rel =>
                refine ⟨k + 1, _, by omega, by go_num, ?_, ?_, ?_, gtrans Hhg.out (gtrans (galloc _ _ _) hg3), Hn3.out⟩
                · have := HR.out; unfold Od.most; omega
                · unfold Od.most; omega
                · have e1 := Hq5.out
                  have e2 := Hhy.out
                  have e3 := HR.out
                  have e4 := HRL.out
                  have e5 := HCL.out
                  unfold Hid
                  rw [e2, e1]
                  generalize Od.clamp o.var = cw at *
                  unfold Od.most
                  omega
              case measure => simp [intOf]; omega
            · go_wp2_with fail
              go_end0
              obtain rfl : k = l.length := by omega
              refine ⟨rfl, ?_, hg⟩
              rw [hn2, hy.out, List.take_length, ER.out, Int.add_assoc]
  · obtain ⟨z0, z1, z2, hall⟩ := K.resolve_left (by omega)
    obtain ⟨b5, o5, rfl, g5, hi5⟩ := p2.at_ (bstep hb.out (balloc _ (.cells #[.int .i64 f, .slice a l.length c] 34))) f.toNat (by omega)
    have ER : o.raw (.mk f l) = Od.clamp (o.weights[f.toNat]'(by omega)) + o.rawL l := by rw [Od.raw, Od.wsym, if_neg h0]; simp [List.getD, show f.toNat < o.weights.length by omega]
    obtain ⟨hi5, hi6⟩ := hi5
    generalize o.weights[f.toNat]'(by omega) = wt at *
    have ER := Lib.hid ER
    have hall := Lib.hid hall
    clear K
    rcases Int.lt_or_le wt 0 with s1 | s1
    · go_enter Try.func72, Try.ntmps72
      go_wp2_with fail
      go_loopw [28] (fun i wr => ∃ (k : Nat) (y : Int), k ≤ l.length ∧ i = .int .i64 k ∧ 0 ≤ y ∧ y ≤ 2147483647 ∧ Hid (y = min (x + Od.clamp wt + o.rawL (l.take k)) Od.most) ∧ W.grownBy wr (some Bn) ∧ wr.heap[Bn]? = some (.cells #[.int .i64 y] 3 (0, 0))) (fun i _ => l.length - (intOf i).toNat)
      case atStart =>
        refine ⟨0, _, Nat.zero_le _, rfl, ?_, ?_, ?_, gtrans (galloc _ _ _) (gset _ _ _ _), one_setCell ((Below.heap_alloc _ _ _ (lt_of_block hn.out)).trans hn.out)⟩
        · omega
        · omega
        · unfold Hid; simp only [List.take_zero, Od.rawL]; unfold Od.clamp Od.most; omega
      case round =>
        clear u0 u1 u2 u3 wf nf cf
        obtain ⟨k, y, hk, rfl, hy0, hy1, hy, hg, hn2⟩ := hrel
        have hb2 := gbelow hb.out hg hBn
        by_cases hlt : k < l.length
        · obtain ⟨b, oo, a', c', rfl, g1, g2, h3⟩ := hl.at2 hb2 k hlt
          have hmem := List.getElem_mem hlt
          have B2 := hBw0.out.grown hg hwn
          have B1 := hBo0.out.grown hg hon
          have wf := calloc B2.one
          have IH := fun W0 hW => ih.out l[k] hmem _ h3 (hall.out _ hmem) W0 y Bo Bn Bw a3 _ c3 c4 hW hBn hon hwn n3 n4 p2 p3
          have q5 := o.rawL_take_succ l k hlt
          have R := o.raw_nonneg l[k]
          have RL := o.rawL_nonneg (l.take k)
          have CL : 0 ≤ Od.clamp wt := by unfold Od.clamp; omega
          have Hhb2 := Lib.hid hb2
          have HB1 := Lib.hid B1
          have HB2 := Lib.hid B2
          have Hhn2 := Lib.hid hn2
          have Hhg := Lib.hid hg
          have Hq5 := Lib.hid q5
          have Hhy := Lib.hid hy
          have Hh3 := Lib.hid h3
          have HR := Lib.hid R
          have HRL := Lib.hid RL
          have HCL := Lib.hid CL
          clear hb2 B1 B2 hn2 hg q5 hy h3 R RL CL
          clear hl
          go_wp2_with (go_at_call 72; refine (IH _ (bstep Hhb2.out (balloc _ _)) (HB1.out.alloc _) (HB2.out.alloc _) ((Below.heap_alloc _ _ _ (lt_of_block Hhn2.out)).trans Hhn2.out) (by omega) (by omega)).mono ?_; rintro e w' ⟨rfl, hn3, hg3⟩)
          have Hn3 := Lib.hid hn3
          clear hn3
          go_wp2_with fail
          go_roundw
          case rel =>
            refine ⟨k + 1, _, by omega, by go_num, ?_, ?_, ?_, gtrans Hhg.out (gtrans (galloc _ _ _) hg3), Hn3.out⟩
            · have := HR.out; unfold Od.most; omega
            · unfold Od.most; omega
            · have e1 := Hq5.out
              have e2 := Hhy.out
              have e3 := HR.out
              have e4 := HRL.out
              have e5 := HCL.out
              unfold Hid
              rw [e2, e1]
              generalize Od.clamp wt = cw at *
              unfold Od.most
              omega
          case measure => simp [intOf]; omega
        · go_wp2_with fail
          go_end0
          obtain rfl : k = l.length := by omega
          refine ⟨rfl, ?_, hg⟩
          rw [hn2, hy.out, List.take_length, ER.out, Int.add_assoc]
    · rcases Int.lt_or_le 2147483647 wt with s2 | s2
      · rcases Int.lt_or_le 0 x with s4 | s4
        · go_enter Try.func72, Try.ntmps72
          go_wp2_with fail
          go_loopw [28] (fun i wr => ∃ (k : Nat) (y : Int), k ≤ l.length ∧ i = .int .i64 k ∧ 0 ≤ y ∧ y ≤ 2147483647 ∧ Hid (y = min (x + Od.clamp wt + o.rawL (l.take k)) Od.most) ∧ W.grownBy wr (some Bn) ∧ wr.heap[Bn]? = some (.cells #[.int .i64 y] 3 (0, 0))) (fun i _ => l.length - (intOf i).toNat)
          case atStart =>
            refine ⟨0, _, Nat.zero_le _, rfl, ?_, ?_, ?_, gtrans (galloc _ _ _) (gset _ _ _ _), one_setCell ((Below.heap_alloc _ _ _ (lt_of_block hn.out)).trans hn.out)⟩
            · omega
            · omega
            · unfold Hid; simp only [List.take_zero, Od.rawL]; unfold Od.clamp Od.most; omega
          case round =>
            clear u0 u1 u2 u3 wf nf cf
            obtain ⟨k, y, hk, rfl, hy0, hy1, hy, hg, hn2⟩ := hrel
            have hb2 := gbelow hb.out hg hBn
            by_cases hlt : k < l.length
            · obtain ⟨b, oo, a', c', rfl, g1, g2, h3⟩ := hl.at2 hb2 k hlt
              have hmem := List.getElem_mem hlt
              have B2 := hBw0.out.grown hg hwn
              have B1 := hBo0.out.grown hg hon
              have wf := calloc B2.one
              have IH := fun W0 hW => ih.out l[k] hmem _ h3 (hall.out _ hmem) W0 y Bo Bn Bw a3 _ c3 c4 hW hBn hon hwn n3 n4 p2 p3
              have q5 := o.rawL_take_succ l k hlt
              have R := o.raw_nonneg l[k]
              have RL := o.rawL_nonneg (l.take k)
              have CL : 0 ≤ Od.clamp wt := by unfold Od.clamp; omega
              have Hhb2 := Lib.hid hb2
              have HB1 := Lib.hid B1
              have HB2 := Lib.hid B2
              have Hhn2 := Lib.hid hn2
              have Hhg := Lib.hid hg
              have Hq5 := Lib.hid q5
              have Hhy := Lib.hid hy
              have Hh3 := Lib.hid h3
              have HR := Lib.hid R
              have HRL := Lib.hid RL
              have HCL := Lib.hid CL
              clear hb2 B1 B2 hn2 hg q5 hy h3 R RL CL
              clear hl
              go_wp2_with (go_at_call 72; refine (IH _ (bstep Hhb2.out (balloc _ _)) (HB1.out.alloc _) (HB2.out.alloc _) ((Below.heap_alloc _ _ _ (lt_of_block Hhn2.out)).trans Hhn2.out) (by omega) (by omega)).mono ?_; rintro e w' ⟨rfl, hn3, hg3⟩)
              have Hn3 := Lib.hid hn3
              clear hn3
              go_wp2_with fail
              go_roundw
              case rel =>
                refine ⟨k + 1, _, by omega, by go_num, ?_, ?_, ?_, gtrans Hhg.out (gtrans (galloc _ _ _) hg3), Hn3.out⟩
                · have := HR.out; unfold Od.most; omega
                · unfold Od.most; omega
                · have e1 := Hq5.out
                  have e2 := Hhy.out
                  have e3 := HR.out
                  have e4 := HRL.out
                  have e5 := HCL.out
                  unfold Hid
                  rw [e2, e1]
                  generalize Od.clamp wt = cw at *
                  unfold Od.most
                  omega
              case measure => simp [intOf]; omega
            · go_wp2_with fail
              go_end0
              obtain rfl : k = l.length := by omega
              refine ⟨rfl, ?_, hg⟩
              rw [hn2, hy.out, List.take_length, ER.out, Int.add_assoc]
        · go_enter Try.func72, Try.ntmps72
          go_wp2_with fail
          go_loopw [28] (fun i wr => ∃ (k : Nat) (y : Int), k ≤ l.length ∧ i = .int .i64 k ∧ 0 ≤ y ∧ y ≤ 2147483647 ∧ Hid (y = min (x + Od.clamp wt + o.rawL (l.take k)) Od.most) ∧ W.grownBy wr (some Bn) ∧ wr.heap[Bn]? = some (.cells #[.int .i64 y] 3 (0, 0))) (fun i _ => l.length - (intOf i).toNat)
          case atStart =>
            refine ⟨0, _, Nat.zero_le _, rfl, ?_, ?_, ?_, gtrans (galloc _ _ _) (gset _ _ _ _), one_setCell ((Below.heap_alloc _ _ _ (lt_of_block hn.out)).trans hn.out)⟩
            · omega
            · omega
            · unfold Hid; simp only [List.take_zero, Od.rawL]; unfold Od.clamp Od.most; omega
          case round =>
            clear u0 u1 u2 u3 wf nf cf
            obtain ⟨k, y, hk, rfl, hy0, hy1, hy, hg, hn2⟩ := hrel
            have hb2 := gbelow hb.out hg hBn
            by_cases hlt : k < l.length
            · obtain ⟨b, oo, a', c', rfl, g1, g2, h3⟩ := hl.at2 hb2 k hlt
              have hmem := List.getElem_mem hlt
              have B2 := hBw0.out.grown hg hwn
              have B1 := hBo0.out.grown hg hon
              have wf := calloc B2.one
              have IH := fun W0 hW => ih.out l[k] hmem _ h3 (hall.out _ hmem) W0 y Bo Bn Bw a3 _ c3 c4 hW hBn hon hwn n3 n4 p2 p3
              have q5 := o.rawL_take_succ l k hlt
              have R := o.raw_nonneg l[k]
              have RL := o.rawL_nonneg (l.take k)
              have CL : 0 ≤ Od.clamp wt := by unfold Od.clamp; omega
              have Hhb2 := Lib.hid hb2
              have HB1 := Lib.hid B1
              have HB2 := Lib.hid B2
              have Hhn2 := Lib.hid hn2
              have Hhg := Lib.hid hg
              have Hq5 := Lib.hid q5
              have Hhy := Lib.hid hy
              have Hh3 := Lib.hid h3
              have HR := Lib.hid R
              have HRL := Lib.hid RL
              have HCL := Lib.hid CL
              clear hb2 B1 B2 hn2 hg q5 hy h3 R RL CL
              clear hl
              go_wp2_with (go_at_call 72; refine (IH _ (bstep Hhb2.out (balloc _ _)) (HB1.out.alloc _) (HB2.out.alloc _) ((Below.heap_alloc _ _ _ (lt_of_block Hhn2.out)).trans Hhn2.out) (by omega) (by omega)).mono ?_; rintro e w' ⟨rfl, hn3, hg3⟩)
              have Hn3 := Lib.hid hn3
              clear hn3
              go_wp2_with fail
              go_roundw
              case rel =>
                refine ⟨k + 1, _, by omega, by go_num, ?_, ?_, ?_, gtrans Hhg.out (gtrans (galloc _ _ _) hg3), Hn3.out⟩
                · have := HR.out; unfold Od.most; omega
                · unfold Od.most; omega
                · have e1 := Hq5.out
                  have e2 := Hhy.out
                  have e3 := HR.out
                  have e4 := HRL.out
                  have e5 := HCL.out
                  unfold Hid
                  rw [e2, e1]
                  generalize Od.clamp wt = cw at *
                  unfold Od.most
                  omega
              case measure => simp [intOf]; omega
            · go_wp2_with fail
              go_end0
              obtain rfl : k = l.length := by omega
              refine ⟨rfl, ?_, hg⟩
              rw [hn2, hy.out, List.take_length, ER.out, Int.add_assoc]
      · rcases Int.lt_or_le 2147483647 (x + wt) with s3 | s3
        · go_enter Try.func72, Try.ntmps72
          go_wp2_with fail
          go_loopw [28] (fun i wr => ∃ (k : Nat) (y : Int), k ≤ l.length ∧ i = .int .i64 k ∧ 0 ≤ y ∧ y ≤ 2147483647 ∧ Hid (y = min (x + Od.clamp wt + o.rawL (l.take k)) Od.most) ∧ W.grownBy wr (some Bn) ∧ wr.heap[Bn]? = some (.cells #[.int .i64 y] 3 (0, 0))) (fun i _ => l.length - (intOf i).toNat)
          case atStart =>
            refine ⟨0, _, Nat.zero_le _, rfl, ?_, ?_, ?_, gtrans (galloc _ _ _) (gset _ _ _ _), one_setCell ((Below.heap_alloc _ _ _ (lt_of_block hn.out)).trans hn.out)⟩
            · omega
            · omega
            · unfold Hid; simp only [List.take_zero, Od.rawL]; unfold Od.clamp Od.most; omega
          case round =>
            clear u0 u1 u2 u3 wf nf cf
            obtain ⟨k, y, hk, rfl, hy0, hy1, hy, hg, hn2⟩ := hrel
            have hb2 := gbelow hb.out hg hBn
            by_cases hlt : k < l.length
            · obtain ⟨b, oo, a', c', rfl, g1, g2, h3⟩ := hl.at2 hb2 k hlt
              have hmem := List.getElem_mem hlt
              have B2 := hBw0.out.grown hg hwn
              have B1 := hBo0.out.grown hg hon
              have wf := calloc B2.one
              have IH := fun W0 hW => ih.out l[k] hmem _ h3 (hall.out _ hmem) W0 y Bo Bn Bw a3 _ c3 c4 hW hBn hon hwn n3 n4 p2 p3
              have q5 := o.rawL_take_succ l k hlt
              have R := o.raw_nonneg l[k]
              have RL := o.rawL_nonneg (l.take k)
              have CL : 0 ≤ Od.clamp wt := by unfold Od.clamp; omega
              have Hhb2 := Lib.hid hb2
              have HB1 := Lib.hid B1
              have HB2 := Lib.hid B2
              have Hhn2 := Lib.hid hn2
              have Hhg := Lib.hid hg
              have Hq5 := Lib.hid q5
              have Hhy := Lib.hid hy
              have Hh3 := Lib.hid h3
              have HR := Lib.hid R
              have HRL := Lib.hid RL
              have HCL := Lib.hid CL
              clear hb2 B1 B2 hn2 hg q5 hy h3 R RL CL
              clear hl
              go_wp2_with (go_at_call 72; refine (IH _ (bstep Hhb2.out (balloc _ _)) (HB1.out.alloc _) (HB2.out.alloc _) ((Below.heap_alloc _ _ _ (lt_of_block Hhn2.out)).trans Hhn2.out) (by omega) (by omega)).mono ?_; rintro e w' ⟨rfl, hn3, hg3⟩)
              have Hn3 := Lib.hid hn3
              clear hn3
              go_wp2_with fail
              go_roundw
              case rel =>
                refine ⟨k + 1, _, by omega, by go_num, ?_, ?_, ?_, gtrans Hhg.out (gtrans (galloc _ _ _) hg3), Hn3.out⟩
                · have := HR.out; unfold Od.most; omega
                · unfold Od.most; omega
                · have e1 := Hq5.out
                  have e2 := Hhy.out
                  have e3 := HR.out
                  have e4 := HRL.out
                  have e5 := HCL.out
                  unfold Hid
                  rw [e2, e1]
                  generalize Od.clamp wt = cw at *
                  unfold Od.most
                  omega
              case measure => simp [intOf]; omega
            · go_wp2_with fail
              go_end0
              obtain rfl : k = l.length := by omega
              refine ⟨rfl, ?_, hg⟩
              rw [hn2, hy.out, List.take_length, ER.out, Int.add_assoc]
        · go_enter Try.func72, Try.ntmps72
          go_wp2_with fail
          go_loopw [28] (fun i wr => ∃ (k : Nat) (y : Int), k ≤ l.length ∧ i = .int .i64 k ∧ 0 ≤ y ∧ y ≤ 2147483647 ∧ Hid (y = min (x + Od.clamp wt + o.rawL (l.take k)) Od.most) ∧ W.grownBy wr (some Bn) ∧ wr.heap[Bn]? = some (.cells #[.int .i64 y] 3 (0, 0))) (fun i _ => l.length - (intOf i).toNat)
          case atStart =>
            refine ⟨0, _, Nat.zero_le _, rfl, ?_, ?_, ?_, gtrans (galloc _ _ _) (gset _ _ _ _), one_setCell ((Below.heap_alloc _ _ _ (lt_of_block hn.out)).trans hn.out)⟩
            · omega
            · omega
            · unfold Hid; simp only [List.take_zero, Od.rawL]; unfold Od.clamp Od.most; omega
          case round =>
            clear u0 u1 u2 u3 wf nf cf
            obtain ⟨k, y, hk, rfl, hy0, hy1, hy, hg, hn2⟩ := hrel
            have hb2 := gbelow hb.out hg hBn
            by_cases hlt : k < l.length
            · obtain ⟨b, oo, a', c', rfl, g1, g2, h3⟩ := hl.at2 hb2 k hlt
              have hmem := List.getElem_mem hlt
              have B2 := hBw0.out.grown hg hwn
              have B1 := hBo0.out.grown hg hon
              have wf := calloc B2.one
              have IH := fun W0 hW => ih.out l[k] hmem _ h3 (hall.out _ hmem) W0 y Bo Bn Bw a3 _ c3 c4 hW hBn hon hwn n3 n4 p2 p3
              have q5 := o.rawL_take_succ l k hlt
              have R := o.raw_nonneg l[k]
              have RL := o.rawL_nonneg (l.take k)
              have CL : 0 ≤ Od.clamp wt := by unfold Od.clamp; omega
              have Hhb2 := Lib.hid hb2
              have HB1 := Lib.hid B1
              have HB2 := Lib.hid B2
              have Hhn2 := Lib.hid hn2
              have Hhg := Lib.hid hg
              have Hq5 := Lib.hid q5
              have Hhy := Lib.hid hy
              have Hh3 := Lib.hid h3
              have HR := Lib.hid R
              have HRL := Lib.hid RL
              have HCL := Lib.hid CL
              clear hb2 B1 B2 hn2 hg q5 hy h3 R RL CL
              clear hl
              go_wp2_with (go_at_call 72; refine (IH _ (bstep Hhb2.out (balloc _ _)) (HB1.out.alloc _) (HB2.out.alloc _) ((Below.heap_alloc _ _ _ (lt_of_block Hhn2.out)).trans Hhn2.out) (by omega) (by omega)).mono ?_; rintro e w' ⟨rfl, hn3, hg3⟩)
              have Hn3 := Lib.hid hn3
              clear hn3
              go_wp2_with fail
              go_roundw
              case rel =>
                refine ⟨k + 1, _, by omega, by go_num, ?_, ?_, ?_, gtrans Hhg.out (gtrans (galloc _ _ _) hg3), Hn3.out⟩
                · have := HR.out; unfold Od.most; omega
                · unfold Od.most; omega
                · have e1 := Hq5.out
                  have e2 := Hhy.out
                  have e3 := HR.out
                  have e4 := HRL.out
                  have e5 := HCL.out
                  unfold Hid
                  rw [e2, e1]
                  generalize Od.clamp wt = cw at *
                  unfold Od.most
                  omega
              case measure => simp [intOf]; omega
            · go_wp2_with fail
              go_end0
              obtain rfl : k = l.length := by omega
              refine ⟨rfl, ?_, hg⟩
              rw [hn2, hy.out, List.take_length, ER.out, Int.add_assoc]
end Go.Proofs.Ytnokgjajcnhkkaa

namespace Go.Proofs.Ytnokgjajcnhkkaa
open Go.RowKit Go.Maps Go
theorem rbool2 {a b c d : Bool} (h : a = c) (h' : b = d) : Ending.returned (.tuple #[.bool a, .bool b]) = .returned (.tuple #[.bool c, .bool d]) := by rw [h, h']
theorem lawInt : Keyed Try.prog 3 := int_keyed Try.underlying3
theorem zeroInt (w : World) : (zeroValue 3).run Try.prog w = .ok (.int .i64 0) w := by kernel_rfl
/-- The map reads as the function. -/
def MapF (D : DataW Unit) (F : Int → Int) : Prop := ∀ v, (Lit.int .i64 v).wf = true → D.atKey (.int .i64 v) (.lit (.int .i64 0)) = .lit (.int .i64 (F v))
def updF (F : Int → Int) (f x : Int) : Int → Int := fun v => if v = f then x else F v
theorem mapF_nil : MapF (.map []) (fun _ => 0) := fun v _ => by simp [DataW.atKey]
theorem mapF_eq {D : DataW Unit} {F : Int → Int} (h : MapF D F) {v c : Int} (hv : (Lit.int .i64 v).wf = true) (hat : D.atKey (.int .i64 v) (.lit (.int .i64 0)) = .lit (.int .i64 c)) : c = F v := by
  have := h v hv
  rw [hat] at this
  simpa using this
theorem i64_mk {f : Int} (h1 : -9223372036854775808 ≤ f) (h2 : f ≤ 9223372036854775807) : (Lit.int .i64 f).wf = true := by
  simp [Lit.wf, IntKind.min, IntKind.max, IntKind.signed, IntKind.bits]; omega
theorem mapF_put {D : DataW Unit} {F : Int → Int} (hD : Maps.IsMap D) (h : MapF D F) {f x : Int} : MapF (D.put (.int .i64 f) (.lit (.int .i64 x))) (updF F f x) := by
  intro v hv
  unfold updF
  by_cases e : v = f
  · subst e
    rw [Maps.atKey_put_same hD (show WideAt.IsKeyLit (.int .i64 v) from trivial), if_pos rfl]
  · rw [Maps.atKey_put_other (by simpa using e), if_neg e]
    exact h v hv
end Go.Proofs.Ytnokgjajcnhkkaa
