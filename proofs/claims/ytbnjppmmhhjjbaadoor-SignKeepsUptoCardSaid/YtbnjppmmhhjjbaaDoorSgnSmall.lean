/- The walks through the small functions of signatures. -/
import Derived.Test.YtbnjppmmhhjjbaaDoorSgnChk
namespace Go.Proofs.YtbnjppmmhhjjbaaDoor
open Go.RowKit Go
set_option linter.unusedVariables false
set_option linter.unusedSimpArgs false

theorem syAt_step {x : Sy} {l : List Sy} {k : Nat} (h : k < l.length) : syAt x (l.drop k) k = if sget l k = x then (k : Int) else syAt x (l.drop (k + 1)) ((k : Int) + 1) := by
  rw [List.drop_eq_getElem_cons h, syAt, sget_lt h]
set_option maxRecDepth 100000 in
theorem index_any (l : List Sy) (x : Sy) (w : World) (a : Option Addr) (c : Nat) (hc : l.length ≤ c) (hm : c ≤ maxLen) (hl : IsSys w l a) : Calls Tryd.prog 26 #[.slice a l.length c, x.val] w (Ret fun v' w' => v' = .int .i64 (syAt x l 0) ∧ Below w.heap.size w w') := by
  unfold maxLen at hm
  unfold Sy.val
  refine Calls.walk (l := [.slice a l.length c, .agg #[.string x.name, .int .i64 x.ar, .bool x.pred]]) Tryd.func26 rfl (by kernel_rfl) ?_
  refine WC.sub (K' := [(0, .slice a l.length c), (1, .agg #[.string x.name, .int .i64 x.ar, .bool x.pred])]) ⟨rfl, rfl, trivial⟩ ?_
  refine WC.seq ?_
  refine WC.region ?_
  refine WL.step (post := NewBlk w 26 #[.string x.name, .int .i64 x.ar, .bool x.pred]) rfl rfl rfl (fun za zC zh zk => box_26 rfl (zh.ev rfl) (zk _ _ (newBlk _ _ _))) ?_
  rintro _ w1 ⟨g2, rfl, hg3, hB4, hb5, hz6⟩
  have hl7 : w.heap.size ≤ g2 := by omega
  refine WL.val (.int .i64 0) rfl rfl rfl (fun za zC zh zk => wp_assign rfl (zh.ev rfl) zk) ?_
  refine WL.nil (WE.sub (K' := [(0, .slice a l.length c), (1, .agg #[.string x.name, .int .i64 x.ar, .bool x.pred]), (3, .pointer (some ⟨g2, 0, none⟩)), (4, .int .i64 0)]) ⟨rfl, rfl, rfl, rfl, trivial⟩ ?_)
  refine WE.next ?_
  refine WC.seq ?_
  refine WC.seq ?_
  refine WC.region ?_
  refine WL.val (.slice a l.length c) rfl rfl rfl (fun za zC zh zk => wp_move rfl (zh.ev rfl) zk) ?_
  refine WL.val (.int .i64 (((l.length : Nat) : Int))) rfl rfl rfl (fun za zC zh zk => len_22 rfl (zh.ev rfl) zk) ?_
  refine WL.val (.int .i64 0) rfl rfl rfl (fun za zC zh zk => wp_move rfl (zh.ev rfl) zk) ?_
  refine WL.nil (WE.sub (K' := [(0, .slice a l.length c), (1, .agg #[.string x.name, .int .i64 x.ar, .bool x.pred]), (3, .pointer (some ⟨g2, 0, none⟩)), (4, .int .i64 0), (7, .int .i64 (((l.length : Nat) : Int))), (8, .int .i64 0)]) ⟨rfl, rfl, rfl, rfl, rfl, rfl, trivial⟩ ?_)
  refine WE.next ?_
  refine WC.block ?_
  refine WC.loop (X := Nat) (fun k => l.length - k) (fun k => [(0, .slice a l.length c), (1, .agg #[.string x.name, .int .i64 x.ar, .bool x.pred]), (3, .pointer (some ⟨g2, 0, none⟩)), (7, .int .i64 (((l.length : Nat) : Int))), (8, .int .i64 (((k : Nat) : Int)))]) (fun k w8 => k ≤ l.length ∧ syAt x l 0 = syAt x (l.drop k) k ∧ Below w.heap.size w w8 ∧ Blk w8 g2 26 #[.string x.name, .int .i64 x.ar, .bool x.pred]) 0 ⟨rfl, rfl, rfl, rfl, rfl, trivial⟩ ?_ ?_
  · exact ⟨Nat.zero_le _, rfl, hb5, hB4⟩
  · rintro k w8 ⟨hk, hE, hb9, hB10⟩
    refine WC.seq ?_
    refine WC.region ?_
    refine WL.val (.bool ((decide ((((k : Nat) : Int) : Int) < (((l.length : Nat) : Int) : Int))))) rfl rfl rfl (fun za zC zh zk => lss_3 rfl (zh.ev rfl) (zh.ev rfl) zk) ?_
    refine WL.nil (WE.sub (K' := [(0, .slice a l.length c), (1, .agg #[.string x.name, .int .i64 x.ar, .bool x.pred]), (3, .pointer (some ⟨g2, 0, none⟩)), (7, .int .i64 (((l.length : Nat) : Int))), (8, .int .i64 (((k : Nat) : Int))), (9, .bool ((decide ((((k : Nat) : Int) : Int) < (((l.length : Nat) : Int) : Int)))))]) ⟨rfl, rfl, rfl, rfl, rfl, rfl, trivial⟩ ?_)
    refine WE.next ?_
    refine WC.seq ?_
    refine WC.cond rfl (fun h11 => ?_) (fun h11 => ?_)
    · have h11 : (((k : Nat) : Int) : Int) < (((l.length : Nat) : Int) : Int) := by simpa using h11
      refine WC.skip ?_
      refine WE.next ?_
      refine WC.seq ?_
      refine WC.block ?_
      refine WC.seq ?_
      refine WC.region ?_
      refine WL.val (.int .i64 (((k : Nat) : Int))) rfl rfl rfl (fun za zC zh zk => wp_move rfl (zh.ev rfl) zk) ?_
      refine WL.val (.int .i64 (((k : Nat) : Int))) rfl rfl rfl (fun za zC zh zk => wp_assign rfl (zh.ev rfl) zk) ?_
      refine WL.nil (WE.sub (K' := [(0, .slice a l.length c), (1, .agg #[.string x.name, .int .i64 x.ar, .bool x.pred]), (3, .pointer (some ⟨g2, 0, none⟩)), (5, .int .i64 (((k : Nat) : Int))), (7, .int .i64 (((l.length : Nat) : Int))), (8, .int .i64 (((k : Nat) : Int))), (9, .bool ((decide ((((k : Nat) : Int) : Int) < (((l.length : Nat) : Int) : Int)))))]) ⟨rfl, rfl, rfl, rfl, rfl, rfl, rfl, trivial⟩ ?_)
      refine WE.next ?_
      refine WC.seq ?_
      obtain ⟨b12, o13, ha14, hc15⟩ := IsSys.open hl
      refine WC.opt [(true, .val (.agg #[.string x.name, .int .i64 x.ar, .bool x.pred])), (true, .val (.slice a l.length c)), (true, .val (.int .i64 (((k : Nat) : Int)))), (true, .val (.pointer (some ⟨b12, o13 + k * 3, none⟩))), (true, .val (.agg #[.string ((sget l k).name), .int .i64 ((sget l k).ar), .bool ((sget l k).pred)])), (true, .val (.bool ((decide (x = (sget l k))))))] [(0, .slice a l.length c), (1, .agg #[.string x.name, .int .i64 x.ar, .bool x.pred]), (3, .pointer (some ⟨g2, 0, none⟩)), (5, .int .i64 (((k : Nat) : Int))), (7, .int .i64 (((l.length : Nat) : Int))), (8, .int .i64 (((k : Nat) : Int))), (9, .bool ((decide ((((k : Nat) : Int) : Int) < (((l.length : Nat) : Int) : Int)))))] ⟨rfl, rfl, rfl, rfl, rfl, rfl, rfl, trivial⟩ (by kernel_rfl) (by kernel_rfl) (by kernel_rfl) ?_ ?_
      · refine ⟨⟨true, .none rfl, fun h w => optUndef h, fun zβ za zw zc => ?_⟩, ?_⟩
        · exact ld_26 rfl (zc.kn.ev rfl) (bkeeps zc.below _ _ ((hB10.cell 0).trans rfl)) (bkeeps zc.below _ _ ((hB10.cell 1).trans rfl)) (bkeeps zc.below _ _ ((hB10.cell 2).trans rfl)) ⟨_, rfl, Below.refl _ _, optDef zβ rfl⟩
        refine ⟨⟨true, .none rfl, fun h w => optUndef h, fun zβ za zw zc => ?_⟩, ?_⟩
        · exact wp_move rfl (zc.kn.ev rfl) ⟨_, rfl, Below.refl _ _, optDef zβ rfl⟩
        refine ⟨⟨true, .none rfl, fun h w => optUndef h, fun zβ za zw zc => ?_⟩, ?_⟩
        · exact wp_move rfl (zc.kn.ev rfl) ⟨_, rfl, Below.refl _ _, optDef zβ rfl⟩
        refine ⟨⟨true, .none rfl, fun h w => optUndef h, fun zβ za zw zc => ?_⟩, ?_⟩
        · exact ix_22 (k := k) rfl ((show za.eval (.tmp 12) = za.tmps.getD 12 undef from rfl).trans (optVal (zc.dep 1 12 (by kernel_rfl)) rfl rfl)) (ha14 k (by first | omega | (simp; omega))) ((show za.eval (.tmp 13) = za.tmps.getD 13 undef from rfl).trans (optVal (zc.dep 2 13 (by kernel_rfl)) rfl rfl)) (by first | omega | (simp; omega)) ⟨_, rfl, Below.refl _ _, optDef zβ rfl⟩
        refine ⟨⟨true, .none rfl, fun h w => optUndef h, fun zβ za zw zc => ?_⟩, ?_⟩
        · exact ld_26 rfl ((show za.eval (.tmp 14) = za.tmps.getD 14 undef from rfl).trans (optVal (zc.dep 3 14 (by kernel_rfl)) rfl rfl)) (bkeeps (bstep hb9 zc.below) _ _ (hc15 k (by first | omega | (simp; omega))).1) (bkeeps (bstep hb9 zc.below) _ _ (hc15 k (by first | omega | (simp; omega))).2.1) (bkeeps (bstep hb9 zc.below) _ _ (hc15 k (by first | omega | (simp; omega))).2.2) ⟨_, rfl, Below.refl _ _, optDef zβ rfl⟩
        refine ⟨⟨true, .none rfl, fun h w => optUndef h, fun zβ za zw zc => ?_⟩, ?_⟩
        · exact wp_eql_sy (s := x) (t := (sget l k)) rfl ((show za.eval (.tmp 11) = za.tmps.getD 11 undef from rfl).trans (optVal (zc.dep 0 11 (by kernel_rfl)) rfl rfl)) ((show za.eval (.tmp 15) = za.tmps.getD 15 undef from rfl).trans (optVal (zc.dep 4 15 (by kernel_rfl)) rfl rfl)) ⟨_, rfl, Below.refl _ _, optDef zβ rfl⟩
        exact trivial
      · intro za w16 zh hb17 zu
        have zh := zh.cons (d := 16) (v := .bool ((decide (x = (sget l k))))) (optVal (zu 5 16 (by kernel_rfl)) rfl rfl)
        clear zu
        refine (show WE _ [(0, .slice a l.length c), (1, .agg #[.string x.name, .int .i64 x.ar, .bool x.pred]), (3, .pointer (some ⟨g2, 0, none⟩)), (5, .int .i64 (((k : Nat) : Int))), (7, .int .i64 (((l.length : Nat) : Int))), (8, .int .i64 (((k : Nat) : Int))), (9, .bool ((decide ((((k : Nat) : Int) : Int) < (((l.length : Nat) : Int) : Int))))), (16, .bool ((decide (x = (sget l k)))))] w16 _ .normal from ?_) za (zh.sub ⟨rfl, rfl, rfl, rfl, rfl, rfl, rfl, rfl, trivial⟩)
        refine WE.next ?_
        refine WC.cond rfl (fun h18 => ?_) (fun h18 => ?_)
        · have h18 : x = (sget l k) := by simpa using h18
          refine WC.seq ?_
          refine WC.region ?_
          refine WL.val (.int .i64 (((k : Nat) : Int))) rfl rfl rfl (fun za zC zh zk => wp_move rfl (zh.ev rfl) zk) ?_
          refine WL.val (.int .i64 (((k : Nat) : Int))) rfl rfl rfl (fun za zC zh zk => wp_assign rfl (zh.ev rfl) zk) ?_
          refine WL.nil (WE.sub (K' := [(0, .slice a l.length c), (1, .agg #[.string x.name, .int .i64 x.ar, .bool x.pred]), (3, .pointer (some ⟨g2, 0, none⟩)), (4, .int .i64 (((k : Nat) : Int))), (5, .int .i64 (((k : Nat) : Int))), (7, .int .i64 (((l.length : Nat) : Int))), (8, .int .i64 (((k : Nat) : Int))), (9, .bool ((decide ((((k : Nat) : Int) : Int) < (((l.length : Nat) : Int) : Int))))), (16, .bool ((decide (x = (sget l k)))))]) ⟨rfl, rfl, rfl, rfl, rfl, rfl, rfl, rfl, rfl, trivial⟩ ?_)
          refine WE.next ?_
          refine WC.ret ?_
          refine WE.blockRet ?_
          refine WE.thenRet ?_
          refine WE.thenRet ?_
          refine WE.blockRet ?_
          refine WE.thenRet ?_
          refine WE.ret1 rfl rfl ?_
          have hb19 : Below w.heap.size w w16 := (bstep hb9 hb17)
          exact ⟨_, rfl, congrArg (Value.int .i64) (by first | (rw [hE, List.drop_of_length_le (by omega)]; rfl) | (rw [hE, syAt_step (by omega), if_pos (Eq.symm ‹_›)])), hb19⟩
        · have h18 : ¬ (x = (sget l k)) := by simpa using h18
          refine WC.skip ?_
          refine WE.blockNormal ?_
          refine WE.next ?_
          refine WC.region ?_
          refine WL.val (.int .i64 ((((k + 1) : Nat) : Int))) rfl rfl rfl (fun za zC zh zk => addb_3 rfl (zh.ev rfl) (zh.ev rfl) (wrap_eq (by omega) (by omega) (by omega)) zk) ?_
          refine WL.val (.int .i64 ((((k + 1) : Nat) : Int))) rfl rfl rfl (fun za zC zh zk => wp_move rfl (zh.ev rfl) zk) ?_
          refine WL.nil (WE.sub (K' := [(0, .slice a l.length c), (1, .agg #[.string x.name, .int .i64 x.ar, .bool x.pred]), (3, .pointer (some ⟨g2, 0, none⟩)), (5, .int .i64 (((k : Nat) : Int))), (7, .int .i64 (((l.length : Nat) : Int))), (8, .int .i64 ((((k + 1) : Nat) : Int))), (9, .bool ((decide ((((k : Nat) : Int) : Int) < (((l.length : Nat) : Int) : Int))))), (16, .bool ((decide (x = (sget l k)))))]) ⟨rfl, rfl, rfl, rfl, rfl, rfl, rfl, rfl, trivial⟩ ?_)
          refine WE.round (k + 1) ⟨rfl, rfl, rfl, rfl, rfl, trivial⟩ ?_ ?_
          · have hb20 : Below w.heap.size w w16 := (bstep hb9 hb17)
            have hB21 := hB10.below hb17
            exact ⟨by omega, hE.trans (by rw [syAt_step (by omega), if_neg (fun e => h18 e.symm)]; simp), hb20, hB21⟩
          · omega
    · have h11 : ¬ ((((k : Nat) : Int) : Int) < (((l.length : Nat) : Int) : Int)) := by simpa using h11
      refine WC.exit ?_
      refine WE.thenExit ?_
      refine WE.thenExit ?_
      refine WE.blockIs rfl ?_
      refine WE.next ?_
      refine WC.seq ?_
      refine WC.region ?_
      refine WL.val (.int .i64 ((-1))) rfl rfl rfl (fun za zC zh zk => wp_assign rfl (zh.ev rfl) zk) ?_
      refine WL.nil (WE.sub (K' := [(0, .slice a l.length c), (1, .agg #[.string x.name, .int .i64 x.ar, .bool x.pred]), (3, .pointer (some ⟨g2, 0, none⟩)), (4, .int .i64 ((-1))), (7, .int .i64 (((l.length : Nat) : Int))), (8, .int .i64 (((k : Nat) : Int))), (9, .bool ((decide ((((k : Nat) : Int) : Int) < (((l.length : Nat) : Int) : Int)))))]) ⟨rfl, rfl, rfl, rfl, rfl, rfl, rfl, trivial⟩ ?_)
      refine WE.next ?_
      refine WC.ret ?_
      refine WE.ret1 rfl rfl ?_
      exact ⟨_, rfl, congrArg (Value.int .i64) (by first | (rw [hE, List.drop_of_length_le (by omega)]; rfl) | (rw [hE, syAt_step (by omega), if_pos (Eq.symm ‹_›)])), hb9⟩

set_option maxRecDepth 100000 in
theorem find_any (l : List Sy) (x : Sy) (w : World) (v : Value) (hv : IsSig w l v) : Calls Tryd.prog 12 #[v, x.val] w (Ret fun v' w' => v' = .tuple #[.int .i64 (max (syAt x l 0) 0), .bool (decide ((0 : Int) ≤ syAt x l 0))] ∧ Below w.heap.size w w') := by
  obtain ⟨a, c, rfl, hc, hm, hl⟩ := hv
  unfold Sy.val
  refine Calls.walk (l := [.agg #[.slice a l.length c], .agg #[.string x.name, .int .i64 x.ar, .bool x.pred]]) Tryd.func12 rfl (by kernel_rfl) ?_
  refine WC.sub (K' := [(0, .agg #[.slice a l.length c]), (1, .agg #[.string x.name, .int .i64 x.ar, .bool x.pred])]) ⟨rfl, rfl, trivial⟩ ?_
  refine WC.seq ?_
  refine WC.region ?_
  refine WL.step (post := NewBlk w 24 #[.slice a l.length c]) rfl rfl rfl (fun za zC zh zk => box_24 rfl (zh.ev rfl) (zk _ _ (newBlk _ _ _))) ?_
  rintro _ w1 ⟨g2, rfl, hg3, hB4, hb5, hz6⟩
  have hl7 : w.heap.size ≤ g2 := by omega
  refine WL.step (post := NewBlk w1 26 #[.string x.name, .int .i64 x.ar, .bool x.pred]) rfl rfl rfl (fun za zC zh zk => box_26 rfl (zh.ev rfl) (zk _ _ (newBlk _ _ _))) ?_
  rintro _ w8 ⟨g9, rfl, hg10, hB11, hb12, hz13⟩
  have hl14 : g2 < g9 := by have z1 := hB4.lt; omega
  have hl15 : w.heap.size ≤ g9 := by have z2 := (hb5).size; omega
  refine WL.val (.int .i64 0) rfl rfl rfl (fun za zC zh zk => wp_assign rfl (zh.ev rfl) zk) ?_
  refine WL.val (.bool false) rfl rfl rfl (fun za zC zh zk => wp_assign rfl (zh.ev rfl) zk) ?_
  refine WL.nil (WE.sub (K' := [(0, .agg #[.slice a l.length c]), (1, .agg #[.string x.name, .int .i64 x.ar, .bool x.pred]), (2, .pointer (some ⟨g2, 0, none⟩)), (3, .pointer (some ⟨g9, 0, none⟩)), (4, .int .i64 0), (5, .bool false)]) ⟨rfl, rfl, rfl, rfl, rfl, rfl, trivial⟩ ?_)
  refine WE.next ?_
  refine WC.seq ?_
  refine WC.region ?_
  refine WL.val (.pointer (some ⟨g2, 0, none⟩)) rfl rfl rfl (fun za zC zh zk => fld_24_0 rfl (zh.ev rfl) zk) ?_
  have hB16 := hB4.below hb12
  refine WL.val (.slice a l.length c) rfl rfl rfl (fun za zC zh zk => ld_22 rfl (zh.ev rfl) ((hB16.cell 0).trans rfl) zk) ?_
  refine WL.val (.agg #[.string x.name, .int .i64 x.ar, .bool x.pred]) rfl rfl rfl (fun za zC zh zk => ld_26 rfl (zh.ev rfl) ((hB11.cell 0).trans rfl) ((hB11.cell 1).trans rfl) ((hB11.cell 2).trans rfl) zk) ?_
  have hb17 : Below w.heap.size w w8 := (bstep hb5 hb12)
  refine WL.call rfl rfl rfl (fun za zh zC => wp_call (by kernel_rfl) rfl (hv2 (zh.ev rfl) (zh.ev rfl))) (index_any l x _ _ _ hc hm (hl.below hb17)) ?_
  rintro _ w18 ⟨rfl, hbc⟩
  refine WL.val (.int .i64 ((syAt x l 0))) rfl rfl rfl (fun za zC zh zk => wp_assign rfl (zh.ev rfl) zk) ?_
  refine WL.nil (WE.sub (K' := [(0, .agg #[.slice a l.length c]), (1, .agg #[.string x.name, .int .i64 x.ar, .bool x.pred]), (2, .pointer (some ⟨g2, 0, none⟩)), (3, .pointer (some ⟨g9, 0, none⟩)), (4, .int .i64 0), (5, .bool false), (6, .int .i64 ((syAt x l 0)))]) ⟨rfl, rfl, rfl, rfl, rfl, rfl, rfl, trivial⟩ ?_)
  refine WE.next ?_
  refine WC.seq ?_
  refine WC.region ?_
  refine WL.val (.int .i64 ((syAt x l 0))) rfl rfl rfl (fun za zC zh zk => wp_move rfl (zh.ev rfl) zk) ?_
  refine WL.val (.int .i64 ((max ((syAt x l 0)) 0))) rfl rfl rfl (fun za zC zh zk => max_3 rfl (zh.ev rfl) (zh.ev rfl) zk) ?_
  refine WL.val (.int .i64 ((syAt x l 0))) rfl rfl rfl (fun za zC zh zk => wp_move rfl (zh.ev rfl) zk) ?_
  refine WL.val (.bool ((decide ((0 : Int) ≤ ((syAt x l 0) : Int))))) rfl rfl rfl (fun za zC zh zk => geq_3 rfl (zh.ev rfl) (zh.ev rfl) zk) ?_
  refine WL.val (.int .i64 ((max ((syAt x l 0)) 0))) rfl rfl rfl (fun za zC zh zk => wp_assign rfl (zh.ev rfl) zk) ?_
  refine WL.val (.bool ((decide ((0 : Int) ≤ ((syAt x l 0) : Int))))) rfl rfl rfl (fun za zC zh zk => wp_assign rfl (zh.ev rfl) zk) ?_
  refine WL.nil (WE.sub (K' := [(0, .agg #[.slice a l.length c]), (1, .agg #[.string x.name, .int .i64 x.ar, .bool x.pred]), (2, .pointer (some ⟨g2, 0, none⟩)), (3, .pointer (some ⟨g9, 0, none⟩)), (4, .int .i64 ((max ((syAt x l 0)) 0))), (5, .bool ((decide ((0 : Int) ≤ ((syAt x l 0) : Int))))), (6, .int .i64 ((syAt x l 0)))]) ⟨rfl, rfl, rfl, rfl, rfl, rfl, rfl, trivial⟩ ?_)
  refine WE.next ?_
  refine WC.ret ?_
  refine WE.ret2 rfl rfl rfl ?_
  have hb19 : Below w.heap.size w w18 := (bstep hb17 hbc)
  exact ⟨_, rfl, rfl, hb19⟩

theorem take_eq_step {l r : List Sy} {k : Nat} (h1 : k < l.length) (h2 : k < r.length) (he : l.take k = r.take k) (h : sget l k = sget r k) : l.take (k + 1) = r.take (k + 1) := by
  rw [List.take_succ_eq_append_getElem h1, List.take_succ_eq_append_getElem h2, he, ← sget_lt h1, ← sget_lt h2, h]
set_option maxRecDepth 100000 in
theorem equal_any (l r : List Sy) (w : World) (a a2 : Option Addr) (c c2 : Nat) (hc : l.length ≤ c) (hm : c ≤ maxLen) (hl : IsSys w l a) (hc2 : r.length ≤ c2) (hm2 : c2 ≤ maxLen) (hr : IsSys w r a2) : Calls Tryd.prog 25 #[.slice a l.length c, .slice a2 r.length c2] w (Ret fun v' w' => v' = .bool (decide (l = r)) ∧ Below w.heap.size w w') := by
  unfold maxLen at hm hm2
  refine Calls.walk (l := [.slice a l.length c, .slice a2 r.length c2]) Tryd.func25 rfl (by kernel_rfl) ?_
  refine WC.sub (K' := [(0, .slice a l.length c), (1, .slice a2 r.length c2)]) ⟨rfl, rfl, trivial⟩ ?_
  refine WC.seq ?_
  refine WC.region ?_
  refine WL.val (.bool false) rfl rfl rfl (fun za zC zh zk => wp_assign rfl (zh.ev rfl) zk) ?_
  refine WL.nil (WE.sub (K' := [(0, .slice a l.length c), (1, .slice a2 r.length c2), (4, .bool false)]) ⟨rfl, rfl, rfl, trivial⟩ ?_)
  refine WE.next ?_
  refine WC.seq ?_
  refine WC.seq ?_
  refine WC.region ?_
  refine WL.val (.slice a l.length c) rfl rfl rfl (fun za zC zh zk => wp_move rfl (zh.ev rfl) zk) ?_
  refine WL.val (.int .i64 (((l.length : Nat) : Int))) rfl rfl rfl (fun za zC zh zk => len_22 rfl (zh.ev rfl) zk) ?_
  refine WL.val (.slice a2 r.length c2) rfl rfl rfl (fun za zC zh zk => wp_move rfl (zh.ev rfl) zk) ?_
  refine WL.val (.int .i64 (((r.length : Nat) : Int))) rfl rfl rfl (fun za zC zh zk => len_22 rfl (zh.ev rfl) zk) ?_
  refine WL.val (.bool (((((l.length : Nat) : Int) : Int) != (((r.length : Nat) : Int) : Int)))) rfl rfl rfl (fun za zC zh zk => neq_3 rfl (zh.ev rfl) (zh.ev rfl) zk) ?_
  refine WL.nil (WE.sub (K' := [(0, .slice a l.length c), (1, .slice a2 r.length c2), (4, .bool false), (10, .bool (((((l.length : Nat) : Int) : Int) != (((r.length : Nat) : Int) : Int))))]) ⟨rfl, rfl, rfl, rfl, trivial⟩ ?_)
  refine WE.next ?_
  refine WC.cond rfl (fun h1 => ?_) (fun h1 => ?_)
  · have h1 : (((l.length : Nat) : Int) : Int) ≠ (((r.length : Nat) : Int) : Int) := by simpa using h1
    refine WC.seq ?_
    refine WC.region ?_
    refine WL.val (.bool false) rfl rfl rfl (fun za zC zh zk => wp_assign rfl (zh.ev rfl) zk) ?_
    refine WL.nil (WE.sub (K' := [(0, .slice a l.length c), (1, .slice a2 r.length c2), (4, .bool false), (10, .bool (((((l.length : Nat) : Int) : Int) != (((r.length : Nat) : Int) : Int))))]) ⟨rfl, rfl, rfl, rfl, trivial⟩ ?_)
    refine WE.next ?_
    refine WC.ret ?_
    refine WE.thenRet ?_
    refine WE.ret1 rfl rfl ?_
    refine ⟨_, rfl, congrArg Value.bool ?_, (Below.refl _ _)⟩
    first
      | (symm; rw [decide_eq_false_iff_not]; intro e; subst e; first | omega | (simp at *; done) | exact absurd rfl ‹_›)
      | (symm; rw [decide_eq_true_eq]; rw [List.take_of_length_le (by omega), List.take_of_length_le (by omega)] at hE; exact hE)
  · have h1 : ¬ ((((l.length : Nat) : Int) : Int) ≠ (((r.length : Nat) : Int) : Int)) := by simpa using h1
    refine WC.skip ?_
    refine WE.next ?_
    refine WC.seq ?_
    refine WC.seq ?_
    refine WC.region ?_
    refine WL.val (.slice a l.length c) rfl rfl rfl (fun za zC zh zk => wp_move rfl (zh.ev rfl) zk) ?_
    refine WL.val (.int .i64 (((l.length : Nat) : Int))) rfl rfl rfl (fun za zC zh zk => len_22 rfl (zh.ev rfl) zk) ?_
    refine WL.val (.int .i64 0) rfl rfl rfl (fun za zC zh zk => wp_move rfl (zh.ev rfl) zk) ?_
    refine WL.nil (WE.sub (K' := [(0, .slice a l.length c), (1, .slice a2 r.length c2), (4, .bool false), (10, .bool (((((l.length : Nat) : Int) : Int) != (((r.length : Nat) : Int) : Int)))), (12, .int .i64 (((l.length : Nat) : Int))), (13, .int .i64 0)]) ⟨rfl, rfl, rfl, rfl, rfl, rfl, trivial⟩ ?_)
    refine WE.next ?_
    refine WC.block ?_
    refine WC.loop (X := Nat) (fun k => l.length - k) (fun k => [(0, .slice a l.length c), (1, .slice a2 r.length c2), (10, .bool (((((l.length : Nat) : Int) : Int) != (((r.length : Nat) : Int) : Int)))), (12, .int .i64 (((l.length : Nat) : Int))), (13, .int .i64 (((k : Nat) : Int)))]) (fun k w2 => k ≤ l.length ∧ l.take k = r.take k ∧ Below w.heap.size w w2) 0 ⟨rfl, rfl, rfl, rfl, rfl, trivial⟩ ?_ ?_
    · exact ⟨Nat.zero_le _, rfl, (Below.refl _ _)⟩
    · rintro k w2 ⟨hk, hE, hb3⟩
      refine WC.seq ?_
      refine WC.region ?_
      refine WL.val (.bool ((decide ((((k : Nat) : Int) : Int) < (((l.length : Nat) : Int) : Int))))) rfl rfl rfl (fun za zC zh zk => lss_3 rfl (zh.ev rfl) (zh.ev rfl) zk) ?_
      refine WL.nil (WE.sub (K' := [(0, .slice a l.length c), (1, .slice a2 r.length c2), (10, .bool (((((l.length : Nat) : Int) : Int) != (((r.length : Nat) : Int) : Int)))), (12, .int .i64 (((l.length : Nat) : Int))), (13, .int .i64 (((k : Nat) : Int))), (14, .bool ((decide ((((k : Nat) : Int) : Int) < (((l.length : Nat) : Int) : Int)))))]) ⟨rfl, rfl, rfl, rfl, rfl, rfl, trivial⟩ ?_)
      refine WE.next ?_
      refine WC.seq ?_
      refine WC.cond rfl (fun h4 => ?_) (fun h4 => ?_)
      · have h4 : (((k : Nat) : Int) : Int) < (((l.length : Nat) : Int) : Int) := by simpa using h4
        refine WC.skip ?_
        refine WE.next ?_
        refine WC.seq ?_
        refine WC.block ?_
        refine WC.seq ?_
        refine WC.region ?_
        refine WL.val (.int .i64 (((k : Nat) : Int))) rfl rfl rfl (fun za zC zh zk => wp_move rfl (zh.ev rfl) zk) ?_
        refine WL.val (.int .i64 (((k : Nat) : Int))) rfl rfl rfl (fun za zC zh zk => wp_assign rfl (zh.ev rfl) zk) ?_
        refine WL.nil (WE.sub (K' := [(0, .slice a l.length c), (1, .slice a2 r.length c2), (5, .int .i64 (((k : Nat) : Int))), (10, .bool (((((l.length : Nat) : Int) : Int) != (((r.length : Nat) : Int) : Int)))), (12, .int .i64 (((l.length : Nat) : Int))), (13, .int .i64 (((k : Nat) : Int))), (14, .bool ((decide ((((k : Nat) : Int) : Int) < (((l.length : Nat) : Int) : Int)))))]) ⟨rfl, rfl, rfl, rfl, rfl, rfl, rfl, trivial⟩ ?_)
        refine WE.next ?_
        refine WC.seq ?_
        obtain ⟨b5, o6, ha7, hc8⟩ := IsSys.open hl
        obtain ⟨b9, o10, ha11, hc12⟩ := IsSys.open hr
        refine WC.opt [(true, .val (.slice a l.length c)), (true, .val (.int .i64 (((k : Nat) : Int)))), (true, .val (.pointer (some ⟨b5, o6 + k * 3, none⟩))), (true, .val (.agg #[.string ((sget l k).name), .int .i64 ((sget l k).ar), .bool ((sget l k).pred)])), (true, .val (.slice a2 r.length c2)), (true, .val (.int .i64 (((k : Nat) : Int)))), (true, .val (.pointer (some ⟨b9, o10 + k * 3, none⟩))), (true, .val (.agg #[.string ((sget r k).name), .int .i64 ((sget r k).ar), .bool ((sget r k).pred)])), (true, .val (.bool ((!decide ((sget l k) = (sget r k))))))] [(0, .slice a l.length c), (1, .slice a2 r.length c2), (5, .int .i64 (((k : Nat) : Int))), (10, .bool (((((l.length : Nat) : Int) : Int) != (((r.length : Nat) : Int) : Int)))), (12, .int .i64 (((l.length : Nat) : Int))), (13, .int .i64 (((k : Nat) : Int))), (14, .bool ((decide ((((k : Nat) : Int) : Int) < (((l.length : Nat) : Int) : Int)))))] ⟨rfl, rfl, rfl, rfl, rfl, rfl, rfl, trivial⟩ (by kernel_rfl) (by kernel_rfl) (by kernel_rfl) ?_ ?_
        · refine ⟨⟨true, .none rfl, fun h w => optUndef h, fun zβ za zw zc => ?_⟩, ?_⟩
          · exact wp_move rfl (zc.kn.ev rfl) ⟨_, rfl, Below.refl _ _, optDef zβ rfl⟩
          refine ⟨⟨true, .none rfl, fun h w => optUndef h, fun zβ za zw zc => ?_⟩, ?_⟩
          · exact wp_move rfl (zc.kn.ev rfl) ⟨_, rfl, Below.refl _ _, optDef zβ rfl⟩
          refine ⟨⟨true, .none rfl, fun h w => optUndef h, fun zβ za zw zc => ?_⟩, ?_⟩
          · exact ix_22 (k := k) rfl ((show za.eval (.tmp 16) = za.tmps.getD 16 undef from rfl).trans (optVal (zc.dep 0 16 (by kernel_rfl)) rfl rfl)) (ha7 k (by first | omega | (simp; omega))) ((show za.eval (.tmp 17) = za.tmps.getD 17 undef from rfl).trans (optVal (zc.dep 1 17 (by kernel_rfl)) rfl rfl)) (by first | omega | (simp; omega)) ⟨_, rfl, Below.refl _ _, optDef zβ rfl⟩
          refine ⟨⟨true, .none rfl, fun h w => optUndef h, fun zβ za zw zc => ?_⟩, ?_⟩
          · exact ld_26 rfl ((show za.eval (.tmp 18) = za.tmps.getD 18 undef from rfl).trans (optVal (zc.dep 2 18 (by kernel_rfl)) rfl rfl)) (bkeeps (bstep hb3 zc.below) _ _ (hc8 k (by first | omega | (simp; omega))).1) (bkeeps (bstep hb3 zc.below) _ _ (hc8 k (by first | omega | (simp; omega))).2.1) (bkeeps (bstep hb3 zc.below) _ _ (hc8 k (by first | omega | (simp; omega))).2.2) ⟨_, rfl, Below.refl _ _, optDef zβ rfl⟩
          refine ⟨⟨true, .none rfl, fun h w => optUndef h, fun zβ za zw zc => ?_⟩, ?_⟩
          · exact wp_move rfl (zc.kn.ev rfl) ⟨_, rfl, Below.refl _ _, optDef zβ rfl⟩
          refine ⟨⟨true, .none rfl, fun h w => optUndef h, fun zβ za zw zc => ?_⟩, ?_⟩
          · exact wp_move rfl (zc.kn.ev rfl) ⟨_, rfl, Below.refl _ _, optDef zβ rfl⟩
          refine ⟨⟨true, .none rfl, fun h w => optUndef h, fun zβ za zw zc => ?_⟩, ?_⟩
          · exact ix_22 (k := k) rfl ((show za.eval (.tmp 20) = za.tmps.getD 20 undef from rfl).trans (optVal (zc.dep 4 20 (by kernel_rfl)) rfl rfl)) (ha11 k (by first | omega | (simp; omega))) ((show za.eval (.tmp 21) = za.tmps.getD 21 undef from rfl).trans (optVal (zc.dep 5 21 (by kernel_rfl)) rfl rfl)) (by first | omega | (simp; omega)) ⟨_, rfl, Below.refl _ _, optDef zβ rfl⟩
          refine ⟨⟨true, .none rfl, fun h w => optUndef h, fun zβ za zw zc => ?_⟩, ?_⟩
          · exact ld_26 rfl ((show za.eval (.tmp 22) = za.tmps.getD 22 undef from rfl).trans (optVal (zc.dep 6 22 (by kernel_rfl)) rfl rfl)) (bkeeps (bstep hb3 zc.below) _ _ (hc12 k (by first | omega | (simp; omega))).1) (bkeeps (bstep hb3 zc.below) _ _ (hc12 k (by first | omega | (simp; omega))).2.1) (bkeeps (bstep hb3 zc.below) _ _ (hc12 k (by first | omega | (simp; omega))).2.2) ⟨_, rfl, Below.refl _ _, optDef zβ rfl⟩
          refine ⟨⟨true, .none rfl, fun h w => optUndef h, fun zβ za zw zc => ?_⟩, ?_⟩
          · exact wp_neq_sy (s := (sget l k)) (t := (sget r k)) rfl ((show za.eval (.tmp 19) = za.tmps.getD 19 undef from rfl).trans (optVal (zc.dep 3 19 (by kernel_rfl)) rfl rfl)) ((show za.eval (.tmp 23) = za.tmps.getD 23 undef from rfl).trans (optVal (zc.dep 7 23 (by kernel_rfl)) rfl rfl)) ⟨_, rfl, Below.refl _ _, optDef zβ rfl⟩
          exact trivial
        · intro za w13 zh hb14 zu
          have zh := zh.cons (d := 24) (v := .bool ((!decide ((sget l k) = (sget r k))))) (optVal (zu 8 24 (by kernel_rfl)) rfl rfl)
          clear zu
          refine (show WE _ [(0, .slice a l.length c), (1, .slice a2 r.length c2), (5, .int .i64 (((k : Nat) : Int))), (10, .bool (((((l.length : Nat) : Int) : Int) != (((r.length : Nat) : Int) : Int)))), (12, .int .i64 (((l.length : Nat) : Int))), (13, .int .i64 (((k : Nat) : Int))), (14, .bool ((decide ((((k : Nat) : Int) : Int) < (((l.length : Nat) : Int) : Int))))), (24, .bool ((!decide ((sget l k) = (sget r k)))))] w13 _ .normal from ?_) za (zh.sub ⟨rfl, rfl, rfl, rfl, rfl, rfl, rfl, rfl, trivial⟩)
          refine WE.next ?_
          refine WC.cond rfl (fun h15 => ?_) (fun h15 => ?_)
          · have h15 : ¬ ((sget l k) = (sget r k)) := by simpa using h15
            refine WC.seq ?_
            refine WC.region ?_
            refine WL.val (.bool false) rfl rfl rfl (fun za zC zh zk => wp_assign rfl (zh.ev rfl) zk) ?_
            refine WL.nil (WE.sub (K' := [(0, .slice a l.length c), (1, .slice a2 r.length c2), (4, .bool false), (5, .int .i64 (((k : Nat) : Int))), (10, .bool (((((l.length : Nat) : Int) : Int) != (((r.length : Nat) : Int) : Int)))), (12, .int .i64 (((l.length : Nat) : Int))), (13, .int .i64 (((k : Nat) : Int))), (14, .bool ((decide ((((k : Nat) : Int) : Int) < (((l.length : Nat) : Int) : Int))))), (24, .bool ((!decide ((sget l k) = (sget r k)))))]) ⟨rfl, rfl, rfl, rfl, rfl, rfl, rfl, rfl, rfl, trivial⟩ ?_)
            refine WE.next ?_
            refine WC.ret ?_
            refine WE.blockRet ?_
            refine WE.thenRet ?_
            refine WE.thenRet ?_
            refine WE.blockRet ?_
            refine WE.thenRet ?_
            refine WE.ret1 rfl rfl ?_
            have hb16 : Below w.heap.size w w13 := (bstep hb3 hb14)
            refine ⟨_, rfl, congrArg Value.bool ?_, hb16⟩
            first
              | (symm; rw [decide_eq_false_iff_not]; intro e; subst e; first | omega | (simp at *; done) | exact absurd rfl ‹_›)
              | (symm; rw [decide_eq_true_eq]; rw [List.take_of_length_le (by omega), List.take_of_length_le (by omega)] at hE; exact hE)
          · have h15 : ¬ (¬ ((sget l k) = (sget r k))) := by simpa using h15
            refine WC.skip ?_
            refine WE.blockNormal ?_
            refine WE.next ?_
            refine WC.region ?_
            refine WL.val (.int .i64 ((((k + 1) : Nat) : Int))) rfl rfl rfl (fun za zC zh zk => addb_3 rfl (zh.ev rfl) (zh.ev rfl) (wrap_eq (by omega) (by omega) (by omega)) zk) ?_
            refine WL.val (.int .i64 ((((k + 1) : Nat) : Int))) rfl rfl rfl (fun za zC zh zk => wp_move rfl (zh.ev rfl) zk) ?_
            refine WL.nil (WE.sub (K' := [(0, .slice a l.length c), (1, .slice a2 r.length c2), (5, .int .i64 (((k : Nat) : Int))), (10, .bool (((((l.length : Nat) : Int) : Int) != (((r.length : Nat) : Int) : Int)))), (12, .int .i64 (((l.length : Nat) : Int))), (13, .int .i64 ((((k + 1) : Nat) : Int))), (14, .bool ((decide ((((k : Nat) : Int) : Int) < (((l.length : Nat) : Int) : Int))))), (24, .bool ((!decide ((sget l k) = (sget r k)))))]) ⟨rfl, rfl, rfl, rfl, rfl, rfl, rfl, rfl, trivial⟩ ?_)
            refine WE.round (k + 1) ⟨rfl, rfl, rfl, rfl, rfl, trivial⟩ ?_ ?_
            · have hb17 : Below w.heap.size w w13 := (bstep hb3 hb14)
              exact ⟨by omega, take_eq_step (by omega) (by omega) hE (by simpa using h15), hb17⟩
            · omega
      · have h4 : ¬ ((((k : Nat) : Int) : Int) < (((l.length : Nat) : Int) : Int)) := by simpa using h4
        refine WC.exit ?_
        refine WE.thenExit ?_
        refine WE.thenExit ?_
        refine WE.blockIs rfl ?_
        refine WE.next ?_
        refine WC.seq ?_
        refine WC.region ?_
        refine WL.val (.bool true) rfl rfl rfl (fun za zC zh zk => wp_assign rfl (zh.ev rfl) zk) ?_
        refine WL.nil (WE.sub (K' := [(0, .slice a l.length c), (1, .slice a2 r.length c2), (4, .bool true), (10, .bool (((((l.length : Nat) : Int) : Int) != (((r.length : Nat) : Int) : Int)))), (12, .int .i64 (((l.length : Nat) : Int))), (13, .int .i64 (((k : Nat) : Int))), (14, .bool ((decide ((((k : Nat) : Int) : Int) < (((l.length : Nat) : Int) : Int)))))]) ⟨rfl, rfl, rfl, rfl, rfl, rfl, rfl, trivial⟩ ?_)
        refine WE.next ?_
        refine WC.ret ?_
        refine WE.ret1 rfl rfl ?_
        refine ⟨_, rfl, congrArg Value.bool ?_, hb3⟩
        first
          | (symm; rw [decide_eq_false_iff_not]; intro e; subst e; first | omega | (simp at *; done) | exact absurd rfl ‹_›)
          | (symm; rw [decide_eq_true_eq]; rw [List.take_of_length_le (by omega), List.take_of_length_le (by omega)] at hE; exact hE)

set_option maxRecDepth 100000 in
theorem psame_any (l r : List Sy) (w : World) (v u : Value) (hv : IsSig w l v) (hu : IsSig w r u) : Calls Tryd.prog 10 #[v, u] w (Ret fun v' w' => v' = .bool (decide (l = r)) ∧ Below w.heap.size w w') := by
  obtain ⟨a, c, rfl, hc, hm, hl⟩ := hv
  obtain ⟨a2, c2, rfl, hc2, hm2, hr⟩ := hu
  refine Calls.walk (l := [.agg #[.slice a l.length c], .agg #[.slice a2 r.length c2]]) Tryd.func10 rfl (by kernel_rfl) ?_
  refine WC.sub (K' := [(0, .agg #[.slice a l.length c]), (1, .agg #[.slice a2 r.length c2])]) ⟨rfl, rfl, trivial⟩ ?_
  refine WC.seq ?_
  refine WC.region ?_
  refine WL.step (post := NewBlk w 24 #[.slice a l.length c]) rfl rfl rfl (fun za zC zh zk => box_24 rfl (zh.ev rfl) (zk _ _ (newBlk _ _ _))) ?_
  rintro _ w1 ⟨g2, rfl, hg3, hB4, hb5, hz6⟩
  have hl7 : w.heap.size ≤ g2 := by omega
  refine WL.step (post := NewBlk w1 24 #[.slice a2 r.length c2]) rfl rfl rfl (fun za zC zh zk => box_24 rfl (zh.ev rfl) (zk _ _ (newBlk _ _ _))) ?_
  rintro _ w8 ⟨g9, rfl, hg10, hB11, hb12, hz13⟩
  have hl14 : g2 < g9 := by have z1 := hB4.lt; omega
  have hl15 : w.heap.size ≤ g9 := by have z2 := (hb5).size; omega
  refine WL.val (.bool false) rfl rfl rfl (fun za zC zh zk => wp_assign rfl (zh.ev rfl) zk) ?_
  refine WL.nil (WE.sub (K' := [(0, .agg #[.slice a l.length c]), (1, .agg #[.slice a2 r.length c2]), (2, .pointer (some ⟨g2, 0, none⟩)), (3, .pointer (some ⟨g9, 0, none⟩)), (4, .bool false)]) ⟨rfl, rfl, rfl, rfl, rfl, trivial⟩ ?_)
  refine WE.next ?_
  refine WC.seq ?_
  refine WC.region ?_
  refine WL.val (.pointer (some ⟨g2, 0, none⟩)) rfl rfl rfl (fun za zC zh zk => fld_24_0 rfl (zh.ev rfl) zk) ?_
  have hB16 := hB4.below hb12
  refine WL.val (.slice a l.length c) rfl rfl rfl (fun za zC zh zk => ld_22 rfl (zh.ev rfl) ((hB16.cell 0).trans rfl) zk) ?_
  refine WL.val (.pointer (some ⟨g9, 0, none⟩)) rfl rfl rfl (fun za zC zh zk => fld_24_0 rfl (zh.ev rfl) zk) ?_
  refine WL.val (.slice a2 r.length c2) rfl rfl rfl (fun za zC zh zk => ld_22 rfl (zh.ev rfl) ((hB11.cell 0).trans rfl) zk) ?_
  have hb17 : Below w.heap.size w w8 := (bstep hb5 hb12)
  refine WL.call rfl rfl rfl (fun za zh zC => wp_call (by kernel_rfl) rfl (hv2 (zh.ev rfl) (zh.ev rfl))) (equal_any l r _ _ _ _ _ hc hm (hl.below hb17) hc2 hm2 (hr.below hb17)) ?_
  rintro _ w18 ⟨rfl, hbc⟩
  refine WL.val (.bool ((decide (l = r)))) rfl rfl rfl (fun za zC zh zk => wp_assign rfl (zh.ev rfl) zk) ?_
  refine WL.nil (WE.sub (K' := [(0, .agg #[.slice a l.length c]), (1, .agg #[.slice a2 r.length c2]), (2, .pointer (some ⟨g2, 0, none⟩)), (3, .pointer (some ⟨g9, 0, none⟩)), (4, .bool ((decide (l = r))))]) ⟨rfl, rfl, rfl, rfl, rfl, trivial⟩ ?_)
  refine WE.next ?_
  refine WC.ret ?_
  refine WE.ret1 rfl rfl ?_
  have hb19 : Below w.heap.size w w18 := (bstep hb17 hbc)
  exact ⟨_, rfl, rfl, hb19⟩

theorem isSig_one {w : World} {g : Nat} {x : Sy} (h : Blk w g 26 #[.string x.name, .int .i64 x.ar, .bool x.pred]) (h1 : I64 x.ar) (h2 : x.name.size ≤ maxLen) : IsSig w [x] (.agg #[.slice (some ⟨g, 0, none⟩) 1 1]) := by
  refine ⟨_, _, rfl, Nat.le_refl _, by unfold maxLen; omega, fun k hk => ?_⟩
  obtain rfl : k = 0 := by simpa using hk
  refine ⟨g, 0, _, rfl, rfl, fun j hj => ?_, rfl, h1, h2⟩
  rw [show 0 + 0 * 3 + j = j by omega, h.cell]
  simp
theorem truth_wf : I64 truth.ar ∧ truth.name.size ≤ maxLen := ⟨by unfold I64; decide, by decide +kernel⟩
set_option maxRecDepth 100000 in
theorem new_any (w : World) : Calls Tryd.prog 22 #[] w (Ret fun v' w' => IsSig w' [truth] v' ∧ Below w.heap.size w w') := by
  refine Calls.walk (l := []) Tryd.func22 rfl (by kernel_rfl) ?_
  refine WC.sub (K' := []) trivial ?_
  refine WC.seq ?_
  refine WC.region ?_
  refine WL.step (post := NewBlk w 24 #[.slice none 0 0]) rfl rfl rfl (fun za zC zh zk => alloc_24 rfl (zk _ _ (newBlk _ _ _))) ?_
  rintro _ w1 ⟨g2, rfl, hg3, hB4, hb5, hz6⟩
  have hl7 : w.heap.size ≤ g2 := by omega
  refine WL.nil (WE.sub (K' := [(0, .pointer (some ⟨g2, 0, none⟩))]) ⟨rfl, trivial⟩ ?_)
  refine WE.next ?_
  refine WC.seq ?_
  refine WC.region ?_
  refine WL.call rfl rfl rfl (fun za zh zC => wp_call (by kernel_rfl) rfl (hv0)) (ptruth_any _) ?_
  rintro _ w8 ⟨rfl, hbc⟩
  refine WL.step (post := NewRow w8 26 #[.string truth.name, .int .i64 truth.ar, .bool truth.pred] 1) rfl rfl rfl (fun za zC zh zk => row_22_1 rfl (zh.ev rfl) (zk _ _ (newRow _ _ _ _))) ?_
  rintro _ w9 ⟨g10, rfl, hg11, hB12, hb13, hz14⟩
  have hl15 : g2 < g10 := by have z1 := hB4.lt; have z2 := (hbc).size; omega
  have hb16 : Below w.heap.size w w8 := (bstep hb5 hbc)
  have hl17 : w.heap.size ≤ g10 := by have z2 := (hb16).size; omega
  refine WL.val (.agg #[.slice ((some ⟨g10, 0, none⟩)) 1 1]) rfl rfl rfl (fun za zC zh zk => build_24_0 rfl (zh.ev rfl) zk) ?_
  have hb19 : Below w1.heap.size w1 w9 := (bstep hbc hb13)
  have hB18 := hB4.below hb19
  refine WL.step (post := fun _ w' => Upd g2 w9 w' ∧ Blk w' g2 24 #[.slice ((some ⟨g10, 0, none⟩)) 1 1]) rfl rfl rfl (fun za zC zh zk => st_24 rfl (zh.ev rfl) (zh.ev rfl) rfl hB18 (by first | decide | simp) (fun v => zk v _ ⟨Upd.at_ _ _ _ _, hB18.set_ 0 _⟩)) ?_
  rintro v23 w20 ⟨hu21, hB22⟩
  have hb24 : Below w.heap.size w w9 := (bstep hb5 hb19)
  have hb25 := upd_below hb24 hu21 (by omega)
  have hB26 := upd_blk hB12 hu21 (by omega)
  refine WL.nil (WE.sub (K' := [(0, .pointer (some ⟨g2, 0, none⟩))]) ⟨rfl, trivial⟩ ?_)
  refine WE.next ?_
  refine WC.ret ?_
  refine WE.retAny (v := .agg #[.slice ((some ⟨g10, 0, none⟩)) 1 1]) (fun za zh => ?_) ?_
  · have z0 : za.tmps[0]?.getD undef = .pointer (some ⟨g2, 0, none⟩) := by rw [← Array.getD_eq_getD_getElem?]; exact zh.knows 0 _ rfl
    have y0 : w20.cell? ⟨g2, 0, none⟩ = some (.slice ((some ⟨g10, 0, none⟩)) 1 1) := ((hB22.cell 0).trans rfl)
    simp [results, Tryd.results22, z0, y0, go_sem]
  · exact ⟨_, rfl, isSig_one hB26 truth_wf.1 truth_wf.2, hb25⟩

end Go.Proofs.YtbnjppmmhhjjbaaDoor
