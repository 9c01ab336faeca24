/- The walk through the law SignFinds. -/
import Derived.Test.YtbnjppmmhhjjbaaSgnSymbols
namespace Go.Proofs.Ytbnjppmmhhjjbaa
open Go.RowKit Go

theorem kindOf_drop (p : Bool) {l : List Sy} {k j : Nat} (h : k < l.length) (hp : (sget l k).pred = p) : kindOf p (l.drop k) j = (j, sget l k) :: kindOf p (l.drop (k + 1)) (j + 1) := by
  rw [List.drop_eq_getElem_cons h, kindOf, sget_lt h]
  rw [sget_lt h] at hp
  rw [if_pos hp]
theorem kind_no {l : List Sy} {p : Bool} {k : Nat} {x : Nat × Sy} {pre : List (Nat × Sy)} (hk : k ≤ l.length) (hpre : pre = kindOf p (l.take k) 0) (hstop : k < l.length → (sget l k).pred = p) (h : (l.length ≤ k ∨ ¬ x.1 = k) ∨ ¬ x.2 = sget l k) : ¬ (pre ++ [x]) <+: kindOf p l 0 := by
  intro hp
  rw [kindOf_split p l k, ← hpre, List.prefix_append_right_inj] at hp
  have e : 0 + (l.take k).length = k := by simp; omega
  rw [e] at hp
  rcases Nat.lt_or_ge k l.length with h1 | h1
  · rw [kindOf_drop p h1 (hstop h1)] at hp
    have := (List.cons_prefix_cons.1 hp).1
    subst this
    rcases h with (h | h) | h
    · omega
    · exact h rfl
    · exact h rfl
  · rw [List.drop_of_length_le h1] at hp
    simp [kindOf] at hp
theorem kind_done {l : List Sy} {p : Bool} {k : Nat} (hk : k ≤ l.length) (he : kindOf p (l.take k) 0 = kindOf p l 0) (hstop : k < l.length → (sget l k).pred = p) : k = l.length := by
  rcases Nat.lt_or_ge k l.length with h1 | h1
  · rw [kindOf_split p l k, kindOf_drop p h1 (hstop h1)] at he
    have := congrArg List.length he
    simp at this
  · omega
theorem kind_same {l : List Sy} {p : Bool} {a k : Nat} (h : k < l.length) (hp : ¬ (sget l k).pred = p) (he : kindOf p (l.take k) 0 = kindOf p (l.take a) 0) : kindOf p (l.take (k + 1)) 0 = kindOf p (l.take a) 0 := by
  rw [kindOf_take p h, if_neg hp, he]
set_option maxRecDepth 100000 in
set_option maxHeartbeats 1000000 in
theorem finds_any (l : List Sy) (q : Sy) (p : Bool) (lv : Int) (w : World) (v : Value) (hz : l.length ≤ 1073741824) (hv : IsSig w l v) : Calls Try.prog 4 #[v, q.val, .bool p, .int .i64 lv] w (Ret fun v' w' => v' = .bool true ∧ Below w.heap.size w w') := by
  have hV := hv
  obtain ⟨a0, c, rfl, hc, hm, hl⟩ := hv
  unfold Sy.val
  refine Calls.walk (l := [.agg #[.slice a0 l.length c], .agg #[.string q.name, .int .i64 q.ar, .bool q.pred], .bool p, .int .i64 lv]) Try.func4 rfl (by kernel_rfl) ?_
  refine WC.sub (K' := [(0, .agg #[.slice a0 l.length c]), (1, .agg #[.string q.name, .int .i64 q.ar, .bool q.pred]), (2, .bool p), (3, .int .i64 lv)]) ⟨rfl, rfl, rfl, rfl, trivial⟩ ?_
  refine WC.seq ?_
  refine WC.region ?_
  refine WL.step (post := NewBlk w 24 #[.slice a0 l.length c]) rfl rfl rfl (fun za zC zh zk => box_24 rfl (zh.ev rfl) (zk _ _ (newBlk _ _ _))) ?_
  rintro _ w1 ⟨g2, rfl, hg3, hB4, hb5, hz6⟩
  have hl7 : w.heap.size ≤ g2 := by omega
  refine WL.step (post := NewBlk w1 35 #[.string q.name, .int .i64 q.ar, .bool q.pred]) rfl rfl rfl (fun za zC zh zk => box_35 rfl (zh.ev rfl) (zk _ _ (newBlk _ _ _))) ?_
  rintro _ w8 ⟨g9, rfl, hg10, hB11, hb12, hz13⟩
  have hl14 : g2 < g9 := by have z1 := hB4.lt; omega
  have hl15 : w.heap.size ≤ g9 := by have z2 := (hb5).size; omega
  refine WL.step (post := NewBlk w8 4 #[.bool p]) rfl rfl rfl (fun za zC zh zk => box_4 rfl (zh.ev rfl) (zk _ _ (newBlk _ _ _))) ?_
  rintro _ w16 ⟨g17, rfl, hg18, hB19, hb20, hz21⟩
  have hl22 : g2 < g17 := by have z1 := hB4.lt; have z2 := (hb12).size; omega
  have hl23 : g9 < g17 := by have z1 := hB11.lt; omega
  have hb24 : Below w.heap.size w w8 := (bstep hb5 hb12)
  have hl25 : w.heap.size ≤ g17 := by have z2 := (hb24).size; omega
  refine WL.step (post := NewBlk w16 3 #[.int .i64 lv]) rfl rfl rfl (fun za zC zh zk => box_3 rfl (zh.ev rfl) (zk _ _ (newBlk _ _ _))) ?_
  rintro _ w26 ⟨g27, rfl, hg28, hB29, hb30, hz31⟩
  have hb32 : Below w1.heap.size w1 w16 := (bstep hb12 hb20)
  have hl33 : g2 < g27 := by have z1 := hB4.lt; have z2 := (hb32).size; omega
  have hl34 : g9 < g27 := by have z1 := hB11.lt; have z2 := (hb20).size; omega
  have hl35 : g17 < g27 := by have z1 := hB19.lt; omega
  have hb36 : Below w.heap.size w w16 := (bstep hb5 hb32)
  have hl37 : w.heap.size ≤ g27 := by have z2 := (hb36).size; omega
  refine WL.step (post := NewBlk w26 4 #[.bool false]) rfl rfl rfl (fun za zC zh zk => alloc_4 rfl (zk _ _ (newBlk _ _ _))) ?_
  rintro _ w38 ⟨g39, rfl, hg40, hB41, hb42, hz43⟩
  have hb44 : Below w1.heap.size w1 w26 := (bstep hb32 hb30)
  have hl45 : g2 < g39 := by have z1 := hB4.lt; have z2 := (hb44).size; omega
  have hb46 : Below w8.heap.size w8 w26 := (bstep hb20 hb30)
  have hl47 : g9 < g39 := by have z1 := hB11.lt; have z2 := (hb46).size; omega
  have hl48 : g17 < g39 := by have z1 := hB19.lt; have z2 := (hb30).size; omega
  have hl49 : g27 < g39 := by have z1 := hB29.lt; omega
  have hb50 : Below w.heap.size w w26 := (bstep hb5 hb44)
  have hl51 : w.heap.size ≤ g39 := by have z2 := (hb50).size; omega
  refine WL.nil (WE.sub (K' := [(0, .agg #[.slice a0 l.length c]), (1, .agg #[.string q.name, .int .i64 q.ar, .bool q.pred]), (2, .bool p), (3, .int .i64 lv), (4, .pointer (some ⟨g2, 0, none⟩)), (5, .pointer (some ⟨g9, 0, none⟩)), (6, .pointer (some ⟨g17, 0, none⟩)), (7, .pointer (some ⟨g27, 0, none⟩)), (8, .pointer (some ⟨g39, 0, none⟩))]) ⟨rfl, rfl, rfl, rfl, rfl, rfl, rfl, rfl, rfl, trivial⟩ ?_)
  refine WE.next ?_
  refine WC.seq ?_
  refine WC.seq ?_
  refine WC.region ?_
  refine WL.call rfl rfl rfl (fun za zh zC => wp_call (by kernel_rfl) rfl (hv0)) (head_any _) ?_
  rintro _ w52 ⟨rfl, hbh⟩
  refine WL.val (.bool false) rfl rfl rfl (fun za zC zh zk => wp_not rfl (zh.ev rfl) zk) ?_
  refine WL.nil (WE.sub (K' := [(0, .agg #[.slice a0 l.length c]), (1, .agg #[.string q.name, .int .i64 q.ar, .bool q.pred]), (2, .bool p), (3, .int .i64 lv), (4, .pointer (some ⟨g2, 0, none⟩)), (5, .pointer (some ⟨g9, 0, none⟩)), (6, .pointer (some ⟨g17, 0, none⟩)), (7, .pointer (some ⟨g27, 0, none⟩)), (8, .pointer (some ⟨g39, 0, none⟩)), (18, .bool false)]) ⟨rfl, rfl, rfl, rfl, rfl, rfl, rfl, rfl, rfl, rfl, trivial⟩ ?_)
  refine WE.next ?_
  refine WC.condF rfl rfl ?_
  refine WC.skip ?_
  refine WE.next ?_
  refine WC.seq ?_
  refine WC.region ?_
  have hb54 : Below w1.heap.size w1 w52 := (bstep (bstep hb44 hb42) hbh)
  have hB53 := hB4.below hb54
  refine WL.val (.agg #[.slice a0 l.length c]) rfl rfl rfl (fun za zC zh zk => ld_24 rfl (zh.ev rfl) ((hB53.cell 0).trans rfl) zk) ?_
  have hb56 : Below w8.heap.size w8 w52 := (bstep (bstep hb46 hb42) hbh)
  have hB55 := hB11.below hb56
  refine WL.val (.agg #[.string q.name, .int .i64 q.ar, .bool q.pred]) rfl rfl rfl (fun za zC zh zk => ld_35 rfl (zh.ev rfl) ((hB55.cell 0).trans rfl) ((hB55.cell 1).trans rfl) ((hB55.cell 2).trans rfl) zk) ?_
  have hb57 : Below w.heap.size w w52 := (bstep hb5 hb54)
  refine WL.call rfl rfl rfl (fun za zh zC => wp_call (by kernel_rfl) rfl (hv2 (zh.ev rfl) (zh.ev rfl))) (find_any l q _ _ (IsSig.below hb57 hV)) ?_
  rintro _ w58 ⟨rfl, hbf⟩
  refine WL.val (.tuple #[.int .i64 ((max (syAt q l 0) 0)), .bool ((decide ((0 : Int) ≤ syAt q l 0)))]) rfl rfl rfl (fun za zC zh zk => wp_move rfl (zh.ev rfl) zk) ?_
  refine WL.val (.int .i64 ((max (syAt q l 0) 0))) rfl rfl rfl (fun za zC zh zk => ext2_0 rfl (zh.ev rfl) zk) ?_
  refine WL.val (.bool ((decide ((0 : Int) ≤ syAt q l 0)))) rfl rfl rfl (fun za zC zh zk => ext2_1 rfl (zh.ev rfl) zk) ?_
  refine WL.val (.int .i64 ((max (syAt q l 0) 0))) rfl rfl rfl (fun za zC zh zk => wp_assign rfl (zh.ev rfl) zk) ?_
  refine WL.val (.bool ((decide ((0 : Int) ≤ syAt q l 0)))) rfl rfl rfl (fun za zC zh zk => wp_assign rfl (zh.ev rfl) zk) ?_
  refine WL.nil (WE.sub (K' := [(0, .agg #[.slice a0 l.length c]), (1, .agg #[.string q.name, .int .i64 q.ar, .bool q.pred]), (2, .bool p), (3, .int .i64 lv), (4, .pointer (some ⟨g2, 0, none⟩)), (5, .pointer (some ⟨g9, 0, none⟩)), (6, .pointer (some ⟨g17, 0, none⟩)), (7, .pointer (some ⟨g27, 0, none⟩)), (8, .pointer (some ⟨g39, 0, none⟩)), (9, .int .i64 ((max (syAt q l 0) 0))), (10, .bool ((decide ((0 : Int) ≤ syAt q l 0)))), (18, .bool false)]) ⟨rfl, rfl, rfl, rfl, rfl, rfl, rfl, rfl, rfl, rfl, rfl, rfl, trivial⟩ ?_)
  refine WE.next ?_
  refine WC.seq ?_
  refine WC.region ?_
  refine WL.val (.pointer (some ⟨g2, 0, none⟩)) rfl rfl rfl (fun za zC zh zk => fld_24_0 rfl (zh.ev rfl) zk) ?_
  have hB59 := hB53.below hbf
  refine WL.val (.slice a0 l.length c) rfl rfl rfl (fun za zC zh zk => ld_22 rfl (zh.ev rfl) ((hB59.cell 0).trans rfl) zk) ?_
  have hB60 := hB55.below hbf
  refine WL.val (.agg #[.string q.name, .int .i64 q.ar, .bool q.pred]) rfl rfl rfl (fun za zC zh zk => ld_35 rfl (zh.ev rfl) ((hB60.cell 0).trans rfl) ((hB60.cell 1).trans rfl) ((hB60.cell 2).trans rfl) zk) ?_
  have hb61 : Below w.heap.size w w58 := (bstep hb57 hbf)
  refine WL.call rfl rfl rfl (fun za zh zC => wp_call (by kernel_rfl) rfl (hv2 (zh.ev rfl) (zh.ev rfl))) (ret_of (at_sig q l _ (IsSig.below hb61 hV))) ?_
  rintro _ w62 ⟨rfl, hba⟩
  refine WL.val (.int .i64 ((syAt q l 0))) rfl rfl rfl (fun za zC zh zk => wp_assign rfl (zh.ev rfl) zk) ?_
  refine WL.nil (WE.sub (K' := [(0, .agg #[.slice a0 l.length c]), (1, .agg #[.string q.name, .int .i64 q.ar, .bool q.pred]), (2, .bool p), (3, .int .i64 lv), (4, .pointer (some ⟨g2, 0, none⟩)), (5, .pointer (some ⟨g9, 0, none⟩)), (6, .pointer (some ⟨g17, 0, none⟩)), (7, .pointer (some ⟨g27, 0, none⟩)), (8, .pointer (some ⟨g39, 0, none⟩)), (9, .int .i64 ((max (syAt q l 0) 0))), (10, .bool ((decide ((0 : Int) ≤ syAt q l 0)))), (11, .int .i64 ((syAt q l 0))), (18, .bool false)]) ⟨rfl, rfl, rfl, rfl, rfl, rfl, rfl, rfl, rfl, rfl, rfl, rfl, rfl, trivial⟩ ?_)
  refine WE.next ?_
  refine WC.seq ?_
  refine WC.seq ?_
  refine WC.opt [(true, .val (.bool ((decide ((0 : Int) ≤ syAt q l 0))))), (true, .val (.int .i64 ((syAt q l 0)))), (true, .val (.bool ((decide ((0 : Int) ≤ ((syAt q l 0) : Int)))))), (true, .val (.bool (((decide ((0 : Int) ≤ syAt q l 0)) != (decide ((0 : Int) ≤ ((syAt q l 0) : Int))))))), (true, .val (.bool (((decide ((0 : Int) ≤ syAt q l 0)) != (decide ((0 : Int) ≤ ((syAt q l 0) : Int))))))), ((true && !((decide ((0 : Int) ≤ syAt q l 0)) != (decide ((0 : Int) ≤ ((syAt q l 0) : Int))))), .val (.int .i64 ((max (syAt q l 0) 0)))), ((true && !((decide ((0 : Int) ≤ syAt q l 0)) != (decide ((0 : Int) ≤ ((syAt q l 0) : Int))))), .val (.int .i64 ((syAt q l 0)))), ((true && !((decide ((0 : Int) ≤ syAt q l 0)) != (decide ((0 : Int) ≤ ((syAt q l 0) : Int))))), .val (.int .i64 ((max ((syAt q l 0)) 0)))), ((true && !((decide ((0 : Int) ≤ syAt q l 0)) != (decide ((0 : Int) ≤ ((syAt q l 0) : Int))))), .val (.bool ((((max (syAt q l 0) 0) : Int) != ((max ((syAt q l 0)) 0) : Int))))), (true, .val (.bool ((((decide ((0 : Int) ≤ syAt q l 0)) != (decide ((0 : Int) ≤ ((syAt q l 0) : Int)))) || (((max (syAt q l 0) 0) : Int) != ((max ((syAt q l 0)) 0) : Int))))))] [(0, .agg #[.slice a0 l.length c]), (1, .agg #[.string q.name, .int .i64 q.ar, .bool q.pred]), (2, .bool p), (3, .int .i64 lv), (4, .pointer (some ⟨g2, 0, none⟩)), (5, .pointer (some ⟨g9, 0, none⟩)), (6, .pointer (some ⟨g17, 0, none⟩)), (7, .pointer (some ⟨g27, 0, none⟩)), (8, .pointer (some ⟨g39, 0, none⟩)), (9, .int .i64 ((max (syAt q l 0) 0))), (10, .bool ((decide ((0 : Int) ≤ syAt q l 0)))), (11, .int .i64 ((syAt q l 0))), (18, .bool false)] ⟨rfl, rfl, rfl, rfl, rfl, rfl, rfl, rfl, rfl, rfl, rfl, rfl, rfl, trivial⟩ (by kernel_rfl) (by kernel_rfl) (by kernel_rfl) ?_ ?_
  · refine ⟨⟨true, .none rfl, fun h w => optUndef h, fun zβ za zw zc => ?_⟩, ?_⟩
    · exact wp_move rfl (zc.kn.ev rfl) ⟨_, rfl, Below.refl _ _, optDef zβ rfl⟩
    refine ⟨⟨true, .none rfl, fun h w => optUndef h, fun zβ za zw zc => ?_⟩, ?_⟩
    · exact wp_move rfl (zc.kn.ev rfl) ⟨_, rfl, Below.refl _ _, optDef zβ rfl⟩
    refine ⟨⟨true, .none rfl, fun h w => optUndef h, fun zβ za zw zc => ?_⟩, ?_⟩
    · exact geq_3 rfl ((show za.eval (.tmp 30) = za.tmps.getD 30 undef from rfl).trans (optVal (zc.dep 1 30 (by kernel_rfl)) rfl rfl)) (zc.kn.ev rfl) ⟨_, rfl, Below.refl _ _, optDef zβ rfl⟩
    refine ⟨⟨true, .none rfl, fun h w => optUndef h, fun zβ za zw zc => ?_⟩, ?_⟩
    · exact neq_4 rfl ((show za.eval (.tmp 29) = za.tmps.getD 29 undef from rfl).trans (optVal (zc.dep 0 29 (by kernel_rfl)) rfl rfl)) ((show za.eval (.tmp 31) = za.tmps.getD 31 undef from rfl).trans (optVal (zc.dep 2 31 (by kernel_rfl)) rfl rfl)) ⟨_, rfl, Below.refl _ _, optDef zβ rfl⟩
    refine ⟨⟨true, .none rfl, fun h w => optUndef h, fun zβ za zw zc => ?_⟩, ?_⟩
    · exact wp_move rfl ((show za.eval (.tmp 32) = za.tmps.getD 32 undef from rfl).trans (optVal (zc.dep 3 32 (by kernel_rfl)) rfl rfl)) ⟨_, rfl, Below.refl _ _, optDef zβ rfl⟩
    refine ⟨⟨(true && !((decide ((0 : Int) ≤ syAt q l 0)) != (decide ((0 : Int) ≤ ((syAt q l 0) : Int))))), .no (c := ((decide ((0 : Int) ≤ syAt q l 0)) != (decide ((0 : Int) ≤ ((syAt q l 0) : Int))))) (d := true) rfl (fun v w h => h), fun h w => optUndef h, fun zβ za zw zc => ?_⟩, ?_⟩
    · exact wp_move rfl (zc.kn.ev rfl) ⟨_, rfl, Below.refl _ _, optDef zβ rfl⟩
    refine ⟨⟨(true && !((decide ((0 : Int) ≤ syAt q l 0)) != (decide ((0 : Int) ≤ ((syAt q l 0) : Int))))), .no (c := ((decide ((0 : Int) ≤ syAt q l 0)) != (decide ((0 : Int) ≤ ((syAt q l 0) : Int))))) (d := true) rfl (fun v w h => h), fun h w => optUndef h, fun zβ za zw zc => ?_⟩, ?_⟩
    · exact wp_move rfl (zc.kn.ev rfl) ⟨_, rfl, Below.refl _ _, optDef zβ rfl⟩
    refine ⟨⟨(true && !((decide ((0 : Int) ≤ syAt q l 0)) != (decide ((0 : Int) ≤ ((syAt q l 0) : Int))))), .no (c := ((decide ((0 : Int) ≤ syAt q l 0)) != (decide ((0 : Int) ≤ ((syAt q l 0) : Int))))) (d := true) rfl (fun v w h => h), fun h w => optUndef h, fun zβ za zw zc => ?_⟩, ?_⟩
    · exact max_3 rfl ((show za.eval (.tmp 35) = za.tmps.getD 35 undef from rfl).trans (optVal (zc.dep 6 35 (by kernel_rfl)) rfl zβ)) (zc.kn.ev rfl) ⟨_, rfl, Below.refl _ _, optDef zβ rfl⟩
    refine ⟨⟨(true && !((decide ((0 : Int) ≤ syAt q l 0)) != (decide ((0 : Int) ≤ ((syAt q l 0) : Int))))), .no (c := ((decide ((0 : Int) ≤ syAt q l 0)) != (decide ((0 : Int) ≤ ((syAt q l 0) : Int))))) (d := true) rfl (fun v w h => h), fun h w => optUndef h, fun zβ za zw zc => ?_⟩, ?_⟩
    · exact neq_3 rfl ((show za.eval (.tmp 34) = za.tmps.getD 34 undef from rfl).trans (optVal (zc.dep 5 34 (by kernel_rfl)) rfl zβ)) ((show za.eval (.tmp 36) = za.tmps.getD 36 undef from rfl).trans (optVal (zc.dep 7 36 (by kernel_rfl)) rfl zβ)) ⟨_, rfl, Below.refl _ _, optDef zβ rfl⟩
    refine ⟨⟨true, .none rfl, fun h w => optUndef h, fun zβ za zw zc => ?_⟩, ?_⟩
    · exact wp_or rfl ((show za.eval (.tmp 33) = za.tmps.getD 33 undef from rfl).trans (optVal (zc.dep 4 33 (by kernel_rfl)) rfl rfl)) (fun hp => ((show za.eval (.tmp 37) = za.tmps.getD 37 undef from rfl).trans (optVal (zc.dep 8 37 (by kernel_rfl)) rfl (bMkN zβ hp)))) ⟨_, rfl, Below.refl _ _, optDef zβ rfl⟩
    exact trivial
  · intro za w63 zh hb64 zu
    have zh := zh.cons (d := 38) (v := .bool ((((decide ((0 : Int) ≤ syAt q l 0)) != (decide ((0 : Int) ≤ ((syAt q l 0) : Int)))) || (((max (syAt q l 0) 0) : Int) != ((max ((syAt q l 0)) 0) : Int))))) (optVal (zu 9 38 (by kernel_rfl)) rfl rfl)
    clear zu
    refine (show WE _ [(0, .agg #[.slice a0 l.length c]), (1, .agg #[.string q.name, .int .i64 q.ar, .bool q.pred]), (2, .bool p), (3, .int .i64 lv), (4, .pointer (some ⟨g2, 0, none⟩)), (5, .pointer (some ⟨g9, 0, none⟩)), (6, .pointer (some ⟨g17, 0, none⟩)), (7, .pointer (some ⟨g27, 0, none⟩)), (8, .pointer (some ⟨g39, 0, none⟩)), (9, .int .i64 ((max (syAt q l 0) 0))), (10, .bool ((decide ((0 : Int) ≤ syAt q l 0)))), (11, .int .i64 ((syAt q l 0))), (18, .bool false), (38, .bool ((((decide ((0 : Int) ≤ syAt q l 0)) != (decide ((0 : Int) ≤ ((syAt q l 0) : Int)))) || (((max (syAt q l 0) 0) : Int) != ((max ((syAt q l 0)) 0) : Int)))))] w63 _ .normal from ?_) za (zh.sub ⟨rfl, rfl, rfl, rfl, rfl, rfl, rfl, rfl, rfl, rfl, rfl, rfl, rfl, rfl, trivial⟩)
    refine WE.next ?_
    refine WC.condF rfl (by simp) ?_
    refine WC.skip ?_
    refine WE.next ?_
    refine WC.seq ?_
    refine WC.region ?_
    refine WL.step (post := NewBlk w63 3 #[.int .i64 0]) rfl rfl rfl (fun za zC zh zk => alloc_3 rfl (zk _ _ (newBlk _ _ _))) ?_
    rintro _ w65 ⟨g66, rfl, hg67, hB68, hb69, hz70⟩
    have hb71 : Below w58.heap.size w58 w63 := (bstep hba hb64)
    have hl72 : g2 < g66 := by have z1 := hB59.lt; have z2 := (hb71).size; omega
    have hl73 : g9 < g66 := by have z1 := hB60.lt; have z2 := (hb71).size; omega
    have hb74 : Below w16.heap.size w16 w63 := (bstep (bstep (bstep (bstep hb30 hb42) hbh) hbf) hb71)
    have hl75 : g17 < g66 := by have z1 := hB19.lt; have z2 := (hb74).size; omega
    have hb76 : Below w26.heap.size w26 w63 := (bstep (bstep (bstep hb42 hbh) hbf) hb71)
    have hl77 : g27 < g66 := by have z1 := hB29.lt; have z2 := (hb76).size; omega
    have hb78 : Below w38.heap.size w38 w63 := (bstep (bstep hbh hbf) hb71)
    have hl79 : g39 < g66 := by have z1 := hB41.lt; have z2 := (hb78).size; omega
    have hb80 : Below w.heap.size w w63 := (bstep hb36 hb74)
    have hl81 : w.heap.size ≤ g66 := by have z2 := (hb80).size; omega
    refine WL.step (post := NewBlk w65 3 #[.int .i64 0]) rfl rfl rfl (fun za zC zh zk => alloc_3 rfl (zk _ _ (newBlk _ _ _))) ?_
    rintro _ w82 ⟨g83, rfl, hg84, hB85, hb86, hz87⟩
    have hb88 : Below w58.heap.size w58 w65 := (bstep hb71 hb69)
    have hl89 : g2 < g83 := by have z1 := hB59.lt; have z2 := (hb88).size; omega
    have hl90 : g9 < g83 := by have z1 := hB60.lt; have z2 := (hb88).size; omega
    have hb91 : Below w16.heap.size w16 w65 := (bstep hb74 hb69)
    have hl92 : g17 < g83 := by have z1 := hB19.lt; have z2 := (hb91).size; omega
    have hb93 : Below w26.heap.size w26 w65 := (bstep hb76 hb69)
    have hl94 : g27 < g83 := by have z1 := hB29.lt; have z2 := (hb93).size; omega
    have hb95 : Below w38.heap.size w38 w65 := (bstep hb78 hb69)
    have hl96 : g39 < g83 := by have z1 := hB41.lt; have z2 := (hb95).size; omega
    have hl97 : g66 < g83 := by have z1 := hB68.lt; omega
    have hb98 : Below w.heap.size w w65 := (bstep hb36 hb91)
    have hl99 : w.heap.size ≤ g83 := by have z2 := (hb98).size; omega
    have hB100 := hB68.below hb86
    refine WL.step (post := fun _ w' => Upd g66 w82 w' ∧ Blk w' g66 3 #[.int .i64 0]) rfl rfl rfl (fun za zC zh zk => st_3 rfl (zh.ev rfl) (zh.ev rfl) hB100 (by first | decide | simp) (fun v => zk v _ ⟨Upd.at_ _ _ _ _, hB100.set_ 0 _⟩)) ?_
    rintro v104 w101 ⟨hu102, hB103⟩
    have hb105 : Below w.heap.size w w82 := (bstep hb98 hb86)
    have hb106 := upd_below hb105 hu102 (by omega)
    have hb108 : Below w58.heap.size w58 w82 := (bstep hb88 hb86)
    have hB107 := hB59.below hb108
    have hB109 := upd_blk hB107 hu102 (by omega)
    have hB110 := hB60.below hb108
    have hB111 := upd_blk hB110 hu102 (by omega)
    have hb113 : Below w16.heap.size w16 w82 := (bstep hb91 hb86)
    have hB112 := hB19.below hb113
    have hB114 := upd_blk hB112 hu102 (by omega)
    have hb116 : Below w26.heap.size w26 w82 := (bstep hb93 hb86)
    have hB115 := hB29.below hb116
    have hB117 := upd_blk hB115 hu102 (by omega)
    have hb119 : Below w38.heap.size w38 w82 := (bstep hb95 hb86)
    have hB118 := hB41.below hb119
    have hB120 := upd_blk hB118 hu102 (by omega)
    have hB121 := upd_blk hB85 hu102 (by omega)
    refine WL.step (post := fun _ w' => Upd g83 w101 w' ∧ Blk w' g83 3 #[.int .i64 0]) rfl rfl rfl (fun za zC zh zk => st_3 rfl (zh.ev rfl) (zh.ev rfl) hB121 (by first | decide | simp) (fun v => zk v _ ⟨Upd.at_ _ _ _ _, hB121.set_ 0 _⟩)) ?_
    rintro v125 w122 ⟨hu123, hB124⟩
    have hb126 := upd_below hb106 hu123 (by omega)
    have hB127 := upd_blk hB109 hu123 (by omega)
    have hB128 := upd_blk hB111 hu123 (by omega)
    have hB129 := upd_blk hB114 hu123 (by omega)
    have hB130 := upd_blk hB117 hu123 (by omega)
    have hB131 := upd_blk hB120 hu123 (by omega)
    have hB132 := upd_blk hB103 hu123 (by omega)
    refine WL.nil (WE.sub (K' := [(0, .agg #[.slice a0 l.length c]), (1, .agg #[.string q.name, .int .i64 q.ar, .bool q.pred]), (2, .bool p), (3, .int .i64 lv), (4, .pointer (some ⟨g2, 0, none⟩)), (5, .pointer (some ⟨g9, 0, none⟩)), (6, .pointer (some ⟨g17, 0, none⟩)), (7, .pointer (some ⟨g27, 0, none⟩)), (8, .pointer (some ⟨g39, 0, none⟩)), (9, .int .i64 ((max (syAt q l 0) 0))), (10, .bool ((decide ((0 : Int) ≤ syAt q l 0)))), (11, .int .i64 ((syAt q l 0))), (12, .pointer (some ⟨g66, 0, none⟩)), (13, .pointer (some ⟨g83, 0, none⟩)), (18, .bool false), (38, .bool ((((decide ((0 : Int) ≤ syAt q l 0)) != (decide ((0 : Int) ≤ ((syAt q l 0) : Int)))) || (((max (syAt q l 0) 0) : Int) != ((max ((syAt q l 0)) 0) : Int)))))]) ⟨rfl, rfl, rfl, rfl, rfl, rfl, rfl, rfl, rfl, rfl, rfl, rfl, rfl, rfl, rfl, rfl, trivial⟩ ?_)
    refine WE.next ?_
    refine WC.seq ?_
    refine WC.region ?_
    refine WL.val (.agg #[.slice a0 l.length c]) rfl rfl rfl (fun za zC zh zk => ld_24 rfl (zh.ev rfl) ((hB127.cell 0).trans rfl) zk) ?_
    refine WL.val (.bool p) rfl rfl rfl (fun za zC zh zk => ld_4 rfl (zh.ev rfl) ((hB129.cell 0).trans rfl) zk) ?_
    refine WL.call rfl rfl rfl (fun za zh zC => wp_call (by kernel_rfl) rfl (hv2 (zh.ev rfl) (zh.ev rfl))) (symbols_any l p _ _ (by omega) (IsSig.below hb126 hV)) ?_
    rintro _ w133 ⟨gl, gp, cra, crc, rfl, hIT, hbs⟩
    have hl134 : g2 < w122.heap.size := by have z := hB127.lt; omega
    have hl135 : g9 < w122.heap.size := by have z := hB128.lt; omega
    have hl136 : g17 < w122.heap.size := by have z := hB129.lt; omega
    have hl137 : g27 < w122.heap.size := by have z := hB130.lt; omega
    have hl138 : g39 < w122.heap.size := by have z := hB131.lt; omega
    have hl139 : g66 < w122.heap.size := by have z := hB132.lt; omega
    have hl140 : g83 < w122.heap.size := by have z := hB124.lt; omega
    have hl141 := hIT.h5
    have hl142 := hIT.h3
    have hsz12 : w122.heap.size ≤ w133.heap.size := (hbs).size
    refine WL.val (.func (.func 24) #[] #[.pointer (some ⟨gl, 0, none⟩), .pointer (some ⟨gp, 0, none⟩)]) rfl rfl rfl (fun za zC zh zk => wp_assign rfl (zh.ev rfl) zk) ?_
    refine WL.nil (WE.sub (K' := [(0, .agg #[.slice a0 l.length c]), (1, .agg #[.string q.name, .int .i64 q.ar, .bool q.pred]), (2, .bool p), (3, .int .i64 lv), (4, .pointer (some ⟨g2, 0, none⟩)), (5, .pointer (some ⟨g9, 0, none⟩)), (6, .pointer (some ⟨g17, 0, none⟩)), (7, .pointer (some ⟨g27, 0, none⟩)), (8, .pointer (some ⟨g39, 0, none⟩)), (9, .int .i64 ((max (syAt q l 0) 0))), (10, .bool ((decide ((0 : Int) ≤ syAt q l 0)))), (11, .int .i64 ((syAt q l 0))), (12, .pointer (some ⟨g66, 0, none⟩)), (13, .pointer (some ⟨g83, 0, none⟩)), (14, .func (.func 24) #[] #[.pointer (some ⟨gl, 0, none⟩), .pointer (some ⟨gp, 0, none⟩)]), (18, .bool false), (38, .bool ((((decide ((0 : Int) ≤ syAt q l 0)) != (decide ((0 : Int) ≤ ((syAt q l 0) : Int)))) || (((max (syAt q l 0) 0) : Int) != ((max ((syAt q l 0)) 0) : Int)))))]) ⟨rfl, rfl, rfl, rfl, rfl, rfl, rfl, rfl, rfl, rfl, rfl, rfl, rfl, rfl, rfl, rfl, rfl, trivial⟩ ?_)
    refine WE.next ?_
    refine WC.seq ?_
    refine WC.seq ?_
    refine WC.region ?_
    refine WL.val (.func (.func 24) #[] #[.pointer (some ⟨gl, 0, none⟩), .pointer (some ⟨gp, 0, none⟩)]) rfl rfl rfl (fun za zC zh zk => wp_move rfl (zh.ev rfl) zk) ?_
    refine WL.val (.bool false) rfl rfl rfl (fun za zC zh zk => eqlfn_40 rfl (zh.ev rfl) (zh.ev rfl) zk) ?_
    refine WL.nil (WE.sub (K' := [(0, .agg #[.slice a0 l.length c]), (1, .agg #[.string q.name, .int .i64 q.ar, .bool q.pred]), (2, .bool p), (3, .int .i64 lv), (4, .pointer (some ⟨g2, 0, none⟩)), (5, .pointer (some ⟨g9, 0, none⟩)), (6, .pointer (some ⟨g17, 0, none⟩)), (7, .pointer (some ⟨g27, 0, none⟩)), (8, .pointer (some ⟨g39, 0, none⟩)), (9, .int .i64 ((max (syAt q l 0) 0))), (10, .bool ((decide ((0 : Int) ≤ syAt q l 0)))), (11, .int .i64 ((syAt q l 0))), (12, .pointer (some ⟨g66, 0, none⟩)), (13, .pointer (some ⟨g83, 0, none⟩)), (14, .func (.func 24) #[] #[.pointer (some ⟨gl, 0, none⟩), .pointer (some ⟨gp, 0, none⟩)]), (18, .bool false), (38, .bool ((((decide ((0 : Int) ≤ syAt q l 0)) != (decide ((0 : Int) ≤ ((syAt q l 0) : Int)))) || (((max (syAt q l 0) 0) : Int) != ((max ((syAt q l 0)) 0) : Int))))), (43, .bool false)]) ⟨rfl, rfl, rfl, rfl, rfl, rfl, rfl, rfl, rfl, rfl, rfl, rfl, rfl, rfl, rfl, rfl, rfl, rfl, trivial⟩ ?_)
    refine WE.next ?_
    refine WC.condF rfl rfl ?_
    refine WC.skip ?_
    refine WE.next ?_
    refine WC.seq ?_
    refine WC.seq ?_
    refine WC.region ?_
    refine WL.val (.func (.func 24) #[] #[.pointer (some ⟨gl, 0, none⟩), .pointer (some ⟨gp, 0, none⟩)]) rfl rfl rfl (fun za zC zh zk => wp_move rfl (zh.ev rfl) zk) ?_
    refine WL.nil (WE.sub (K' := [(0, .agg #[.slice a0 l.length c]), (1, .agg #[.string q.name, .int .i64 q.ar, .bool q.pred]), (2, .bool p), (3, .int .i64 lv), (4, .pointer (some ⟨g2, 0, none⟩)), (5, .pointer (some ⟨g9, 0, none⟩)), (6, .pointer (some ⟨g17, 0, none⟩)), (7, .pointer (some ⟨g27, 0, none⟩)), (8, .pointer (some ⟨g39, 0, none⟩)), (9, .int .i64 ((max (syAt q l 0) 0))), (10, .bool ((decide ((0 : Int) ≤ syAt q l 0)))), (11, .int .i64 ((syAt q l 0))), (12, .pointer (some ⟨g66, 0, none⟩)), (13, .pointer (some ⟨g83, 0, none⟩)), (14, .func (.func 24) #[] #[.pointer (some ⟨gl, 0, none⟩), .pointer (some ⟨gp, 0, none⟩)]), (18, .bool false), (38, .bool ((((decide ((0 : Int) ≤ syAt q l 0)) != (decide ((0 : Int) ≤ ((syAt q l 0) : Int)))) || (((max (syAt q l 0) 0) : Int) != ((max ((syAt q l 0)) 0) : Int))))), (43, .bool false), (44, .func (.func 24) #[] #[.pointer (some ⟨gl, 0, none⟩), .pointer (some ⟨gp, 0, none⟩)])]) ⟨rfl, rfl, rfl, rfl, rfl, rfl, rfl, rfl, rfl, rfl, rfl, rfl, rfl, rfl, rfl, rfl, rfl, rfl, rfl, trivial⟩ ?_)
    refine WE.next ?_
    refine WC.block ?_
    refine WC.range (γ := Nat) (encs := fun zx => [.int .i64 (((zx.1 : Nat) : Int)), .agg #[.string zx.2.name, .int .i64 zx.2.ar, .bool zx.2.pred]]) ((fun b => b < w122.heap.size ∨ w133.heap.size ≤ b)) rfl (by kernel_rfl) (by kernel_rfl) (symbols_seq _ (fun b h1 h2 h => by omega) (by omega) hIT) ((fun l hl => .inr (Nat.le_trans ((Nat.le_refl _)) hl))) ((Below.refl _ _)) (fun _ => rfl) (fun x zy => [(0, .agg #[.slice a0 l.length c]), (1, .agg #[.string q.name, .int .i64 q.ar, .bool q.pred]), (2, .bool p), (3, .int .i64 lv), (4, .pointer (some ⟨g2, 0, none⟩)), (5, .pointer (some ⟨g9, 0, none⟩)), (6, .pointer (some ⟨g17, 0, none⟩)), (7, .pointer (some ⟨g27, 0, none⟩)), (8, .pointer (some ⟨g39, 0, none⟩)), (9, .int .i64 ((max (syAt q l 0) 0))), (10, .bool ((decide ((0 : Int) ≤ syAt q l 0)))), (11, .int .i64 ((syAt q l 0))), (12, .pointer (some ⟨g66, 0, none⟩)), (13, .pointer (some ⟨g83, 0, none⟩)), (14, .func (.func 24) #[] #[.pointer (some ⟨gl, 0, none⟩), .pointer (some ⟨gp, 0, none⟩)]), (15, .int .i64 (((x.1 : Nat) : Int))), (16, .pointer (some ⟨zy, 0, none⟩)), (18, .bool false), (38, .bool ((((decide ((0 : Int) ≤ syAt q l 0)) != (decide ((0 : Int) ≤ ((syAt q l 0) : Int)))) || (((max (syAt q l 0) 0) : Int) != ((max ((syAt q l 0)) 0) : Int))))), (43, .bool false), (44, .func (.func 24) #[] #[.pointer (some ⟨gl, 0, none⟩), .pointer (some ⟨gp, 0, none⟩)])]) (fun x zy w143 => w133.heap.size ≤ zy ∧ Blk w143 zy 35 #[.string x.2.name, .int .i64 x.2.ar, .bool x.2.pred]) (fun pre w143 => ∃ (a : Nat), a ≤ l.length ∧ pre = kindOf p (l.take a) 0 ∧ w133.heap.size ≤ (w143).heap.size ∧ Below w.heap.size w w143 ∧ Blk w143 g66 3 #[.int .i64 (((a : Nat) : Int))] ∧ Blk w143 g83 3 #[.int .i64 (((pre.length : Nat) : Int))] ∧ Blk w143 g2 24 #[.slice a0 l.length c] ∧ Blk w143 g9 35 #[.string q.name, .int .i64 q.ar, .bool q.pred] ∧ Blk w143 g17 4 #[.bool p] ∧ Blk w143 g27 3 #[.int .i64 lv] ∧ Blk w143 g39 4 #[.bool false]) (fun zc pre w143 => zc = .ret ∧ ∃ b : Bool, Blk w143 g39 4 #[.bool b] ∧ Below w.heap.size w w143 ∧ (b = false → ¬ pre <+: kindOf p l 0)) (fun pre w1 w2 t h => (by obtain ⟨a, z0, z1, z2, z3, z4, z5, z6, z7, z8, z9, z10⟩ := h; exact ⟨a, z0, z1, Nat.le_trans z2 t.size, below_turn z3 t (Nat.le_trans hb126.size hbs.size), blk_turn z4 t, blk_turn z5 t, blk_turn z6 t, blk_turn z7 t, blk_turn z8 t, blk_turn z9 t, blk_turn z10 t⟩)) (fun zc pre w1 w2 t h => (by obtain ⟨e, b, z1, z2, z3⟩ := h; exact ⟨e, b, blk_turn z1 t, below_turn z2 t (Nat.le_trans hb126.size hbs.size), z3⟩)) (fun x zy w1 w2 t h => ⟨h.1, blk_turn h.2 t⟩) ?_ ?_ ?_ ?_ ?_
    · have hb144 : Below w.heap.size w w133 := (bstep hb126 hbs)
      have hB145 := hB132.below hbs
      have hB146 := hB124.below hbs
      have hB147 := hB127.below hbs
      have hB148 := hB128.below hbs
      have hB149 := hB129.below hbs
      have hB150 := hB130.below hbs
      have hB151 := hB131.below hbs
      exact ⟨0, Nat.zero_le _, rfl, (Nat.le_refl _), hb144, hB145, hB146, hB147, hB148, hB149, hB150, hB151⟩
    · rintro zl152 pre x w153 ⟨a, _, _, hzs, hb154, _, _, _, _, _, _, _⟩
      refine WC.sub (K' := [(0, .agg #[.slice a0 l.length c]), (1, .agg #[.string q.name, .int .i64 q.ar, .bool q.pred]), (2, .bool p), (3, .int .i64 lv), (4, .pointer (some ⟨g2, 0, none⟩)), (5, .pointer (some ⟨g9, 0, none⟩)), (6, .pointer (some ⟨g17, 0, none⟩)), (7, .pointer (some ⟨g27, 0, none⟩)), (8, .pointer (some ⟨g39, 0, none⟩)), (9, .int .i64 ((max (syAt q l 0) 0))), (10, .bool ((decide ((0 : Int) ≤ syAt q l 0)))), (11, .int .i64 ((syAt q l 0))), (12, .pointer (some ⟨g66, 0, none⟩)), (13, .pointer (some ⟨g83, 0, none⟩)), (14, .func (.func 24) #[] #[.pointer (some ⟨gl, 0, none⟩), .pointer (some ⟨gp, 0, none⟩)]), (18, .bool false), (38, .bool ((((decide ((0 : Int) ≤ syAt q l 0)) != (decide ((0 : Int) ≤ ((syAt q l 0) : Int)))) || (((max (syAt q l 0) 0) : Int) != ((max ((syAt q l 0)) 0) : Int))))), (43, .bool false), (44, .func (.func 24) #[] #[.pointer (some ⟨gl, 0, none⟩), .pointer (some ⟨gp, 0, none⟩)]), (45, .int .i64 (((x.1 : Nat) : Int))), (46, .agg #[.string x.2.name, .int .i64 x.2.ar, .bool x.2.pred])]) ⟨rfl, rfl, rfl, rfl, rfl, rfl, rfl, rfl, rfl, rfl, rfl, rfl, rfl, rfl, rfl, rfl, rfl, rfl, rfl, rfl, rfl, trivial⟩ ?_
      refine WC.seq ?_
      refine WC.region ?_
      refine WL.val (.int .i64 (((x.1 : Nat) : Int))) rfl rfl rfl (fun za zC zh zk => wp_assign rfl (zh.ev rfl) zk) ?_
      refine WL.nil (WE.sub (K' := [(0, .agg #[.slice a0 l.length c]), (1, .agg #[.string q.name, .int .i64 q.ar, .bool q.pred]), (2, .bool p), (3, .int .i64 lv), (4, .pointer (some ⟨g2, 0, none⟩)), (5, .pointer (some ⟨g9, 0, none⟩)), (6, .pointer (some ⟨g17, 0, none⟩)), (7, .pointer (some ⟨g27, 0, none⟩)), (8, .pointer (some ⟨g39, 0, none⟩)), (9, .int .i64 ((max (syAt q l 0) 0))), (10, .bool ((decide ((0 : Int) ≤ syAt q l 0)))), (11, .int .i64 ((syAt q l 0))), (12, .pointer (some ⟨g66, 0, none⟩)), (13, .pointer (some ⟨g83, 0, none⟩)), (14, .func (.func 24) #[] #[.pointer (some ⟨gl, 0, none⟩), .pointer (some ⟨gp, 0, none⟩)]), (15, .int .i64 (((x.1 : Nat) : Int))), (18, .bool false), (38, .bool ((((decide ((0 : Int) ≤ syAt q l 0)) != (decide ((0 : Int) ≤ ((syAt q l 0) : Int)))) || (((max (syAt q l 0) 0) : Int) != ((max ((syAt q l 0)) 0) : Int))))), (43, .bool false), (44, .func (.func 24) #[] #[.pointer (some ⟨gl, 0, none⟩), .pointer (some ⟨gp, 0, none⟩)]), (45, .int .i64 (((x.1 : Nat) : Int))), (46, .agg #[.string x.2.name, .int .i64 x.2.ar, .bool x.2.pred])]) ⟨rfl, rfl, rfl, rfl, rfl, rfl, rfl, rfl, rfl, rfl, rfl, rfl, rfl, rfl, rfl, rfl, rfl, rfl, rfl, rfl, rfl, rfl, trivial⟩ ?_)
      refine WE.next ?_
      refine WC.region ?_
      refine WL.step (post := NewBlk w153 35 #[.string (⟨#[]⟩), .int .i64 0, .bool false]) rfl rfl rfl (fun za zC zh zk => alloc_35 rfl (zk _ _ (newBlk _ _ _))) ?_
      rintro _ w155 ⟨g156, rfl, hg157, hB158, hb159, hz160⟩
      have hl161 : w133.heap.size ≤ g156 := by have z2 := hzs; omega
      have hl162 : w.heap.size ≤ g156 := by have z2 := (hb154).size; omega
      have hl163 : w153.heap.size ≤ g156 := by omega
      refine WL.step (post := fun _ w' => Upd g156 w155 w' ∧ Blk w' g156 35 #[.string x.2.name, .int .i64 x.2.ar, .bool x.2.pred]) rfl rfl rfl (fun za zC zh zk => st_35 rfl (zh.ev rfl) (zh.ev rfl) rfl rfl rfl hB158 (by first | decide | simp) (fun v => zk v _ ⟨((Upd.at_ _ _ _ _).trans (Upd.at_ _ _ _ _)).trans (Upd.at_ _ _ _ _), ((hB158.set_ 0 _).set_ 1 _).set_ 2 _⟩)) ?_
      rintro v167 w164 ⟨hu165, hB166⟩
      have hb168 : Below w.heap.size w w155 := (bstep hb154 hb159)
      have hb169 := upd_below hb168 hu165 (by omega)
      have hb170 := upd_below hb159 hu165 (by omega)
      refine WL.nil (WE.sub (K' := [(0, .agg #[.slice a0 l.length c]), (1, .agg #[.string q.name, .int .i64 q.ar, .bool q.pred]), (2, .bool p), (3, .int .i64 lv), (4, .pointer (some ⟨g2, 0, none⟩)), (5, .pointer (some ⟨g9, 0, none⟩)), (6, .pointer (some ⟨g17, 0, none⟩)), (7, .pointer (some ⟨g27, 0, none⟩)), (8, .pointer (some ⟨g39, 0, none⟩)), (9, .int .i64 ((max (syAt q l 0) 0))), (10, .bool ((decide ((0 : Int) ≤ syAt q l 0)))), (11, .int .i64 ((syAt q l 0))), (12, .pointer (some ⟨g66, 0, none⟩)), (13, .pointer (some ⟨g83, 0, none⟩)), (14, .func (.func 24) #[] #[.pointer (some ⟨gl, 0, none⟩), .pointer (some ⟨gp, 0, none⟩)]), (15, .int .i64 (((x.1 : Nat) : Int))), (16, .pointer (some ⟨g156, 0, none⟩)), (18, .bool false), (38, .bool ((((decide ((0 : Int) ≤ syAt q l 0)) != (decide ((0 : Int) ≤ ((syAt q l 0) : Int)))) || (((max (syAt q l 0) 0) : Int) != ((max ((syAt q l 0)) 0) : Int))))), (43, .bool false), (44, .func (.func 24) #[] #[.pointer (some ⟨gl, 0, none⟩), .pointer (some ⟨gp, 0, none⟩)]), (45, .int .i64 (((x.1 : Nat) : Int))), (46, .agg #[.string x.2.name, .int .i64 x.2.ar, .bool x.2.pred])]) ⟨rfl, rfl, rfl, rfl, rfl, rfl, rfl, rfl, rfl, rfl, rfl, rfl, rfl, rfl, rfl, rfl, rfl, rfl, rfl, rfl, rfl, rfl, rfl, trivial⟩ ?_)
      exact fun _ zk => ⟨hb170, g156, zk.sub ⟨rfl, rfl, rfl, rfl, rfl, rfl, rfl, rfl, rfl, rfl, rfl, rfl, rfl, rfl, rfl, rfl, rfl, rfl, rfl, rfl, rfl, trivial⟩, ⟨by omega, hB166⟩⟩
    · rintro zl171 pre x zy w172 ⟨a, ha, hpre, hz182, hb174, hB175, hB176, hB177, hB178, hB179, hB180, hB181⟩ hAW hl173
      obtain ⟨hzl, hzy⟩ := hAW
      have hl183 : g66 < zy := by omega
      have hl184 : g83 < zy := by omega
      have hl185 : g2 < zy := by omega
      have hl186 : g9 < zy := by omega
      have hl187 : g17 < zy := by omega
      have hl188 : g27 < zy := by omega
      have hl189 : g39 < zy := by omega
      refine WC.block ?_
      refine WC.seq ?_
      refine WC.block ?_
      refine WC.loop (X := Nat) (fun k => l.length - k) (fun k => [(0, .agg #[.slice a0 l.length c]), (1, .agg #[.string q.name, .int .i64 q.ar, .bool q.pred]), (2, .bool p), (3, .int .i64 lv), (4, .pointer (some ⟨g2, 0, none⟩)), (5, .pointer (some ⟨g9, 0, none⟩)), (6, .pointer (some ⟨g17, 0, none⟩)), (7, .pointer (some ⟨g27, 0, none⟩)), (8, .pointer (some ⟨g39, 0, none⟩)), (9, .int .i64 ((max (syAt q l 0) 0))), (10, .bool ((decide ((0 : Int) ≤ syAt q l 0)))), (11, .int .i64 ((syAt q l 0))), (12, .pointer (some ⟨g66, 0, none⟩)), (13, .pointer (some ⟨g83, 0, none⟩)), (14, .func (.func 24) #[] #[.pointer (some ⟨gl, 0, none⟩), .pointer (some ⟨gp, 0, none⟩)]), (15, .int .i64 (((x.1 : Nat) : Int))), (16, .pointer (some ⟨zy, 0, none⟩)), (18, .bool false), (38, .bool ((((decide ((0 : Int) ≤ syAt q l 0)) != (decide ((0 : Int) ≤ ((syAt q l 0) : Int)))) || (((max (syAt q l 0) 0) : Int) != ((max ((syAt q l 0)) 0) : Int))))), (43, .bool false), (44, .func (.func 24) #[] #[.pointer (some ⟨gl, 0, none⟩), .pointer (some ⟨gp, 0, none⟩)])]) (fun k w190 => k ≤ l.length ∧ a ≤ k ∧ kindOf p (l.take k) 0 = kindOf p (l.take a) 0 ∧ Below w.heap.size w w190 ∧ Blk w190 g83 3 #[.int .i64 (((pre.length : Nat) : Int))] ∧ Blk w190 g2 24 #[.slice a0 l.length c] ∧ Blk w190 g9 35 #[.string q.name, .int .i64 q.ar, .bool q.pred] ∧ Blk w190 g17 4 #[.bool p] ∧ Blk w190 g27 3 #[.int .i64 lv] ∧ Blk w190 g39 4 #[.bool false] ∧ Blk w190 zy 35 #[.string x.2.name, .int .i64 x.2.ar, .bool x.2.pred] ∧ Blk w190 g66 3 #[.int .i64 (((k : Nat) : Int))] ∧ Chg ((fun b => b < w122.heap.size ∨ w133.heap.size ≤ b)) w172 w190 ∧ KeepsFrom w133.heap.size w172 w190) a ⟨rfl, rfl, rfl, rfl, rfl, rfl, rfl, rfl, rfl, rfl, rfl, rfl, rfl, rfl, rfl, rfl, rfl, rfl, rfl, rfl, rfl, trivial⟩ ?_ ?_
      · have hs191 : Chg ((fun b => b < w122.heap.size ∨ w133.heap.size ≤ b)) w172 w172 := (Chg.refl ((fun b => b < w122.heap.size ∨ w133.heap.size ≤ b)) _)
        exact ⟨ha, Nat.le_refl _, rfl, hb174, hB176, hB177, hB178, hB179, hB180, hB181, hzy, hB175, hs191, (KeepsFrom.refl _ _)⟩
      · rintro k w190 ⟨hk, hak, hke, hb192, hB193, hB194, hB195, hB196, hB197, hB198, hB199, hB200, hc201, hk202⟩
        refine WC.seq ?_
        refine WC.seq ?_
        obtain ⟨b203, o204, ha205, hc206⟩ := IsSys.open hl
        refine WC.opt [(true, .val (.int .i64 (((k : Nat) : Int)))), (true, .val (.pointer (some ⟨g2, 0, none⟩))), (true, .val (.slice a0 l.length c)), (true, .val (.int .i64 (((l.length : Nat) : Int)))), (true, .val (.bool ((decide ((((k : Nat) : Int) : Int) < (((l.length : Nat) : Int) : Int)))))), (true, .val (.bool ((decide ((((k : Nat) : Int) : Int) < (((l.length : Nat) : Int) : Int)))))), ((true && (decide ((((k : Nat) : Int) : Int) < (((l.length : Nat) : Int) : Int)))), .val (.pointer (some ⟨g2, 0, none⟩))), ((true && (decide ((((k : Nat) : Int) : Int) < (((l.length : Nat) : Int) : Int)))), .val (.slice a0 l.length c)), ((true && (decide ((((k : Nat) : Int) : Int) < (((l.length : Nat) : Int) : Int)))), .val (.int .i64 (((k : Nat) : Int)))), ((true && (decide ((((k : Nat) : Int) : Int) < (((l.length : Nat) : Int) : Int)))), .val (.pointer (some ⟨b203, o204 + k * 3, none⟩))), ((true && (decide ((((k : Nat) : Int) : Int) < (((l.length : Nat) : Int) : Int)))), .val (.pointer (some ⟨b203, o204 + k * 3 + 2, none⟩))), ((true && (decide ((((k : Nat) : Int) : Int) < (((l.length : Nat) : Int) : Int)))), .val (.bool ((sget l k).pred))), ((true && (decide ((((k : Nat) : Int) : Int) < (((l.length : Nat) : Int) : Int)))), .val (.bool p)), ((true && (decide ((((k : Nat) : Int) : Int) < (((l.length : Nat) : Int) : Int)))), .val (.bool (((sget l k).pred != p)))), (true, .val (.bool (((decide ((((k : Nat) : Int) : Int) < (((l.length : Nat) : Int) : Int))) && ((sget l k).pred != p)))))] [(0, .agg #[.slice a0 l.length c]), (1, .agg #[.string q.name, .int .i64 q.ar, .bool q.pred]), (2, .bool p), (3, .int .i64 lv), (4, .pointer (some ⟨g2, 0, none⟩)), (5, .pointer (some ⟨g9, 0, none⟩)), (6, .pointer (some ⟨g17, 0, none⟩)), (7, .pointer (some ⟨g27, 0, none⟩)), (8, .pointer (some ⟨g39, 0, none⟩)), (9, .int .i64 ((max (syAt q l 0) 0))), (10, .bool ((decide ((0 : Int) ≤ syAt q l 0)))), (11, .int .i64 ((syAt q l 0))), (12, .pointer (some ⟨g66, 0, none⟩)), (13, .pointer (some ⟨g83, 0, none⟩)), (14, .func (.func 24) #[] #[.pointer (some ⟨gl, 0, none⟩), .pointer (some ⟨gp, 0, none⟩)]), (15, .int .i64 (((x.1 : Nat) : Int))), (16, .pointer (some ⟨zy, 0, none⟩)), (18, .bool false), (38, .bool ((((decide ((0 : Int) ≤ syAt q l 0)) != (decide ((0 : Int) ≤ ((syAt q l 0) : Int)))) || (((max (syAt q l 0) 0) : Int) != ((max ((syAt q l 0)) 0) : Int))))), (43, .bool false), (44, .func (.func 24) #[] #[.pointer (some ⟨gl, 0, none⟩), .pointer (some ⟨gp, 0, none⟩)])] ⟨rfl, rfl, rfl, rfl, rfl, rfl, rfl, rfl, rfl, rfl, rfl, rfl, rfl, rfl, rfl, rfl, rfl, rfl, rfl, rfl, rfl, trivial⟩ (by kernel_rfl) (by kernel_rfl) (by kernel_rfl) ?_ ?_
        · refine ⟨⟨true, .none rfl, fun h w => optUndef h, fun zβ za zw zc => ?_⟩, ?_⟩
          · exact ld_3 rfl (zc.kn.ev rfl) (bkeeps zc.below _ _ ((hB200.cell 0).trans rfl)) ⟨_, rfl, Below.refl _ _, optDef zβ rfl⟩
          refine ⟨⟨true, .none rfl, fun h w => optUndef h, fun zβ za zw zc => ?_⟩, ?_⟩
          · exact fld_24_0 rfl (zc.kn.ev rfl) ⟨_, rfl, Below.refl _ _, optDef zβ rfl⟩
          refine ⟨⟨true, .none rfl, fun h w => optUndef h, fun zβ za zw zc => ?_⟩, ?_⟩
          · exact ld_22 rfl ((show za.eval (.tmp 48) = za.tmps.getD 48 undef from rfl).trans (optVal (zc.dep 1 48 (by kernel_rfl)) rfl rfl)) (bkeeps zc.below _ _ ((hB194.cell 0).trans rfl)) ⟨_, rfl, Below.refl _ _, optDef zβ rfl⟩
          refine ⟨⟨true, .none rfl, fun h w => optUndef h, fun zβ za zw zc => ?_⟩, ?_⟩
          · exact len_22 rfl ((show za.eval (.tmp 49) = za.tmps.getD 49 undef from rfl).trans (optVal (zc.dep 2 49 (by kernel_rfl)) rfl rfl)) ⟨_, rfl, Below.refl _ _, optDef zβ rfl⟩
          refine ⟨⟨true, .none rfl, fun h w => optUndef h, fun zβ za zw zc => ?_⟩, ?_⟩
          · exact lss_3 rfl ((show za.eval (.tmp 47) = za.tmps.getD 47 undef from rfl).trans (optVal (zc.dep 0 47 (by kernel_rfl)) rfl rfl)) ((show za.eval (.tmp 50) = za.tmps.getD 50 undef from rfl).trans (optVal (zc.dep 3 50 (by kernel_rfl)) rfl rfl)) ⟨_, rfl, Below.refl _ _, optDef zβ rfl⟩
          refine ⟨⟨true, .none rfl, fun h w => optUndef h, fun zβ za zw zc => ?_⟩, ?_⟩
          · exact wp_move rfl ((show za.eval (.tmp 51) = za.tmps.getD 51 undef from rfl).trans (optVal (zc.dep 4 51 (by kernel_rfl)) rfl rfl)) ⟨_, rfl, Below.refl _ _, optDef zβ rfl⟩
          refine ⟨⟨(true && (decide ((((k : Nat) : Int) : Int) < (((l.length : Nat) : Int) : Int)))), .yes (c := (decide ((((k : Nat) : Int) : Int) < (((l.length : Nat) : Int) : Int)))) (d := true) rfl (fun v w h => h), fun h w => optUndef h, fun zβ za zw zc => ?_⟩, ?_⟩
          · exact fld_24_0 rfl (zc.kn.ev rfl) ⟨_, rfl, Below.refl _ _, optDef zβ rfl⟩
          refine ⟨⟨(true && (decide ((((k : Nat) : Int) : Int) < (((l.length : Nat) : Int) : Int)))), .yes (c := (decide ((((k : Nat) : Int) : Int) < (((l.length : Nat) : Int) : Int)))) (d := true) rfl (fun v w h => h), fun h w => optUndef h, fun zβ za zw zc => ?_⟩, ?_⟩
          · exact ld_22 rfl ((show za.eval (.tmp 53) = za.tmps.getD 53 undef from rfl).trans (optVal (zc.dep 6 53 (by kernel_rfl)) rfl zβ)) (bkeeps zc.below _ _ ((hB194.cell 0).trans rfl)) ⟨_, rfl, Below.refl _ _, optDef zβ rfl⟩
          refine ⟨⟨(true && (decide ((((k : Nat) : Int) : Int) < (((l.length : Nat) : Int) : Int)))), .yes (c := (decide ((((k : Nat) : Int) : Int) < (((l.length : Nat) : Int) : Int)))) (d := true) rfl (fun v w h => h), fun h w => optUndef h, fun zβ za zw zc => ?_⟩, ?_⟩
          · exact ld_3 rfl (zc.kn.ev rfl) (bkeeps zc.below _ _ ((hB200.cell 0).trans rfl)) ⟨_, rfl, Below.refl _ _, optDef zβ rfl⟩
          refine ⟨⟨(true && (decide ((((k : Nat) : Int) : Int) < (((l.length : Nat) : Int) : Int)))), .yes (c := (decide ((((k : Nat) : Int) : Int) < (((l.length : Nat) : Int) : Int)))) (d := true) rfl (fun v w h => h), fun h w => optUndef h, fun zβ za zw zc => ?_⟩, ?_⟩
          · exact ix_22 (k := k) rfl ((show za.eval (.tmp 54) = za.tmps.getD 54 undef from rfl).trans (optVal (zc.dep 7 54 (by kernel_rfl)) rfl zβ)) (ha205 k (by have zz := zβ; simp only [Bool.and_eq_true, Bool.or_eq_true, Bool.true_and, Bool.not_eq_true', Bool.or_eq_false_iff, Bool.and_eq_false_iff, beq_eq_false_iff_ne, ne_eq, beq_iff_eq, decide_eq_true_eq, decide_eq_false_iff_not, bne_iff_ne] at zz; omega)) ((show za.eval (.tmp 55) = za.tmps.getD 55 undef from rfl).trans (optVal (zc.dep 8 55 (by kernel_rfl)) rfl zβ)) (by have zz := zβ; simp only [Bool.and_eq_true, Bool.or_eq_true, Bool.true_and, Bool.not_eq_true', Bool.or_eq_false_iff, Bool.and_eq_false_iff, beq_eq_false_iff_ne, ne_eq, beq_iff_eq, decide_eq_true_eq, decide_eq_false_iff_not, bne_iff_ne] at zz; omega) ⟨_, rfl, Below.refl _ _, optDef zβ rfl⟩
          refine ⟨⟨(true && (decide ((((k : Nat) : Int) : Int) < (((l.length : Nat) : Int) : Int)))), .yes (c := (decide ((((k : Nat) : Int) : Int) < (((l.length : Nat) : Int) : Int)))) (d := true) rfl (fun v w h => h), fun h w => optUndef h, fun zβ za zw zc => ?_⟩, ?_⟩
          · exact fld_35_2 rfl ((show za.eval (.tmp 56) = za.tmps.getD 56 undef from rfl).trans (optVal (zc.dep 9 56 (by kernel_rfl)) rfl zβ)) ⟨_, rfl, Below.refl _ _, optDef zβ rfl⟩
          refine ⟨⟨(true && (decide ((((k : Nat) : Int) : Int) < (((l.length : Nat) : Int) : Int)))), .yes (c := (decide ((((k : Nat) : Int) : Int) < (((l.length : Nat) : Int) : Int)))) (d := true) rfl (fun v w h => h), fun h w => optUndef h, fun zβ za zw zc => ?_⟩, ?_⟩
          · exact ld_4 rfl ((show za.eval (.tmp 57) = za.tmps.getD 57 undef from rfl).trans (optVal (zc.dep 10 57 (by kernel_rfl)) rfl zβ)) (bkeeps (bstep hb192 zc.below) _ _ (hc206 k (by have zz := zβ; simp only [Bool.and_eq_true, Bool.or_eq_true, Bool.true_and, Bool.not_eq_true', Bool.or_eq_false_iff, Bool.and_eq_false_iff, beq_eq_false_iff_ne, ne_eq, beq_iff_eq, decide_eq_true_eq, decide_eq_false_iff_not, bne_iff_ne] at zz; omega)).2.2) ⟨_, rfl, Below.refl _ _, optDef zβ rfl⟩
          refine ⟨⟨(true && (decide ((((k : Nat) : Int) : Int) < (((l.length : Nat) : Int) : Int)))), .yes (c := (decide ((((k : Nat) : Int) : Int) < (((l.length : Nat) : Int) : Int)))) (d := true) rfl (fun v w h => h), fun h w => optUndef h, fun zβ za zw zc => ?_⟩, ?_⟩
          · exact ld_4 rfl (zc.kn.ev rfl) (bkeeps zc.below _ _ ((hB196.cell 0).trans rfl)) ⟨_, rfl, Below.refl _ _, optDef zβ rfl⟩
          refine ⟨⟨(true && (decide ((((k : Nat) : Int) : Int) < (((l.length : Nat) : Int) : Int)))), .yes (c := (decide ((((k : Nat) : Int) : Int) < (((l.length : Nat) : Int) : Int)))) (d := true) rfl (fun v w h => h), fun h w => optUndef h, fun zβ za zw zc => ?_⟩, ?_⟩
          · exact neq_4 rfl ((show za.eval (.tmp 58) = za.tmps.getD 58 undef from rfl).trans (optVal (zc.dep 11 58 (by kernel_rfl)) rfl zβ)) ((show za.eval (.tmp 59) = za.tmps.getD 59 undef from rfl).trans (optVal (zc.dep 12 59 (by kernel_rfl)) rfl zβ)) ⟨_, rfl, Below.refl _ _, optDef zβ rfl⟩
          refine ⟨⟨true, .none rfl, fun h w => optUndef h, fun zβ za zw zc => ?_⟩, ?_⟩
          · exact wp_and rfl ((show za.eval (.tmp 52) = za.tmps.getD 52 undef from rfl).trans (optVal (zc.dep 5 52 (by kernel_rfl)) rfl rfl)) (fun hp => ((show za.eval (.tmp 60) = za.tmps.getD 60 undef from rfl).trans (optVal (zc.dep 13 60 (by kernel_rfl)) rfl (bMk zβ hp)))) ⟨_, rfl, Below.refl _ _, optDef zβ rfl⟩
          exact trivial
        · intro za w207 zh hb208 zu
          have zh := zh.cons (d := 61) (v := .bool (((decide ((((k : Nat) : Int) : Int) < (((l.length : Nat) : Int) : Int))) && ((sget l k).pred != p)))) (optVal (zu 14 61 (by kernel_rfl)) rfl rfl)
          clear zu
          refine (show WE _ [(0, .agg #[.slice a0 l.length c]), (1, .agg #[.string q.name, .int .i64 q.ar, .bool q.pred]), (2, .bool p), (3, .int .i64 lv), (4, .pointer (some ⟨g2, 0, none⟩)), (5, .pointer (some ⟨g9, 0, none⟩)), (6, .pointer (some ⟨g17, 0, none⟩)), (7, .pointer (some ⟨g27, 0, none⟩)), (8, .pointer (some ⟨g39, 0, none⟩)), (9, .int .i64 ((max (syAt q l 0) 0))), (10, .bool ((decide ((0 : Int) ≤ syAt q l 0)))), (11, .int .i64 ((syAt q l 0))), (12, .pointer (some ⟨g66, 0, none⟩)), (13, .pointer (some ⟨g83, 0, none⟩)), (14, .func (.func 24) #[] #[.pointer (some ⟨gl, 0, none⟩), .pointer (some ⟨gp, 0, none⟩)]), (15, .int .i64 (((x.1 : Nat) : Int))), (16, .pointer (some ⟨zy, 0, none⟩)), (18, .bool false), (38, .bool ((((decide ((0 : Int) ≤ syAt q l 0)) != (decide ((0 : Int) ≤ ((syAt q l 0) : Int)))) || (((max (syAt q l 0) 0) : Int) != ((max ((syAt q l 0)) 0) : Int))))), (43, .bool false), (44, .func (.func 24) #[] #[.pointer (some ⟨gl, 0, none⟩), .pointer (some ⟨gp, 0, none⟩)]), (61, .bool (((decide ((((k : Nat) : Int) : Int) < (((l.length : Nat) : Int) : Int))) && ((sget l k).pred != p))))] w207 _ .normal from ?_) za (zh.sub ⟨rfl, rfl, rfl, rfl, rfl, rfl, rfl, rfl, rfl, rfl, rfl, rfl, rfl, rfl, rfl, rfl, rfl, rfl, rfl, rfl, rfl, rfl, trivial⟩)
          refine WE.next ?_
          refine WC.cond rfl (fun h209 => ?_) (fun h209 => ?_)
          · have h209 : ((((k : Nat) : Int) : Int) < (((l.length : Nat) : Int) : Int)) ∧ ((sget l k).pred ≠ p) := by simpa using h209
            refine WC.skip ?_
            refine WE.next ?_
            refine WC.block ?_
            refine WC.region ?_
            have hB210 := hB200.below hb208
            refine WL.val (.int .i64 (((k : Nat) : Int))) rfl rfl rfl (fun za zC zh zk => ld_3 rfl (zh.ev rfl) ((hB210.cell 0).trans rfl) zk) ?_
            refine WL.val (.int .i64 ((((k + 1) : Nat) : Int))) rfl rfl rfl (fun za zC zh zk => addb_3 rfl (zh.ev rfl) (zh.ev rfl) (wrap_eq (by omega) (by omega) (by omega)) zk) ?_
            refine WL.step (post := fun _ w' => Upd g66 w207 w' ∧ Blk w' g66 3 #[.int .i64 ((((k + 1) : Nat) : Int))]) rfl rfl rfl (fun za zC zh zk => st_3 rfl (zh.ev rfl) (zh.ev rfl) hB210 (by first | decide | simp) (fun v => zk v _ ⟨Upd.at_ _ _ _ _, hB210.set_ 0 _⟩)) ?_
            rintro v214 w211 ⟨hu212, hB213⟩
            have hb215 : Below w.heap.size w w207 := (bstep hb192 hb208)
            have hb216 := upd_below hb215 hu212 (by omega)
            have hB217 := hB193.below hb208
            have hB218 := upd_blk hB217 hu212 (by omega)
            have hB219 := hB194.below hb208
            have hB220 := upd_blk hB219 hu212 (by omega)
            have hB221 := hB195.below hb208
            have hB222 := upd_blk hB221 hu212 (by omega)
            have hB223 := hB196.below hb208
            have hB224 := upd_blk hB223 hu212 (by omega)
            have hB225 := hB197.below hb208
            have hB226 := upd_blk hB225 hu212 (by omega)
            have hB227 := hB198.below hb208
            have hB228 := upd_blk hB227 hu212 (by omega)
            have hB229 := hB199.below hb208
            have hB230 := upd_blk hB229 hu212 (by omega)
            refine WL.nil (WE.sub (K' := [(0, .agg #[.slice a0 l.length c]), (1, .agg #[.string q.name, .int .i64 q.ar, .bool q.pred]), (2, .bool p), (3, .int .i64 lv), (4, .pointer (some ⟨g2, 0, none⟩)), (5, .pointer (some ⟨g9, 0, none⟩)), (6, .pointer (some ⟨g17, 0, none⟩)), (7, .pointer (some ⟨g27, 0, none⟩)), (8, .pointer (some ⟨g39, 0, none⟩)), (9, .int .i64 ((max (syAt q l 0) 0))), (10, .bool ((decide ((0 : Int) ≤ syAt q l 0)))), (11, .int .i64 ((syAt q l 0))), (12, .pointer (some ⟨g66, 0, none⟩)), (13, .pointer (some ⟨g83, 0, none⟩)), (14, .func (.func 24) #[] #[.pointer (some ⟨gl, 0, none⟩), .pointer (some ⟨gp, 0, none⟩)]), (15, .int .i64 (((x.1 : Nat) : Int))), (16, .pointer (some ⟨zy, 0, none⟩)), (18, .bool false), (38, .bool ((((decide ((0 : Int) ≤ syAt q l 0)) != (decide ((0 : Int) ≤ ((syAt q l 0) : Int)))) || (((max (syAt q l 0) 0) : Int) != ((max ((syAt q l 0)) 0) : Int))))), (43, .bool false), (44, .func (.func 24) #[] #[.pointer (some ⟨gl, 0, none⟩), .pointer (some ⟨gp, 0, none⟩)]), (61, .bool (((decide ((((k : Nat) : Int) : Int) < (((l.length : Nat) : Int) : Int))) && ((sget l k).pred != p))))]) ⟨rfl, rfl, rfl, rfl, rfl, rfl, rfl, rfl, rfl, rfl, rfl, rfl, rfl, rfl, rfl, rfl, rfl, rfl, rfl, rfl, rfl, rfl, trivial⟩ ?_)
            refine WE.blockNormal ?_
            refine WE.round (k + 1) ⟨rfl, rfl, rfl, rfl, rfl, rfl, rfl, rfl, rfl, rfl, rfl, rfl, rfl, rfl, rfl, rfl, rfl, rfl, rfl, rfl, rfl, trivial⟩ ?_ ?_
            · have hs231 : Chg ((fun b => b < w122.heap.size ∨ w133.heap.size ≤ b)) w172 w211 := (Chg.trans2 (Chg.trans2 (Chg.trans2 (Chg.refl ((fun b => b < w122.heap.size ∨ w133.heap.size ≤ b)) _) hc201 (fun i h1 h2 => by (try dsimp only at *); omega)) (Chg.ofBelow (S := fun k => k < 0) hb208) (fun i h1 h2 => by (try dsimp only at *); omega)) (Chg.ofUpd (S := fun k => k = g66) hu212 rfl) (fun i h1 h2 => by (try dsimp only at *); omega))
              exact ⟨by omega, by omega, kind_same (by omega) h209.2 hke, hb216, hB218, hB220, hB222, hB224, hB226, hB228, hB230, hB213, hs231, ((hk202.trans (keepsFrom_below hb208)).trans (keepsFrom_upd hu212 hB210))⟩
            · omega
          · have h209 : ¬ (((((k : Nat) : Int) : Int) < (((l.length : Nat) : Int) : Int)) ∧ ((sget l k).pred ≠ p)) := by simpa using h209
            have hst : k < l.length → (sget l k).pred = p := fun hkl => Classical.byContradiction fun hne => h209 ⟨by omega, hne⟩
            refine WC.exit ?_
            refine WE.thenExit ?_
            refine WE.thenExit ?_
            refine WE.blockIs rfl ?_
            refine WE.next ?_
            refine WC.seq ?_
            refine WC.seq ?_
            have hB232 := hB200.below hb208
            have hB233 := hB194.below hb208
            have hB234 := hB199.below hb208
            have hb235 : Below w.heap.size w w207 := (bstep hb192 hb208)
            refine WC.opt [(true, .val (.int .i64 (((k : Nat) : Int)))), (true, .val (.pointer (some ⟨g2, 0, none⟩))), (true, .val (.slice a0 l.length c)), (true, .val (.int .i64 (((l.length : Nat) : Int)))), (true, .val (.bool ((decide ((((l.length : Nat) : Int) : Int) ≤ (((k : Nat) : Int) : Int)))))), (true, .val (.bool ((decide ((((l.length : Nat) : Int) : Int) ≤ (((k : Nat) : Int) : Int)))))), ((true && !(decide ((((l.length : Nat) : Int) : Int) ≤ (((k : Nat) : Int) : Int)))), .val (.int .i64 (((x.1 : Nat) : Int)))), ((true && !(decide ((((l.length : Nat) : Int) : Int) ≤ (((k : Nat) : Int) : Int)))), .val (.int .i64 (((k : Nat) : Int)))), ((true && !(decide ((((l.length : Nat) : Int) : Int) ≤ (((k : Nat) : Int) : Int)))), .val (.bool (((((x.1 : Nat) : Int) : Int) != (((k : Nat) : Int) : Int))))), (true, .val (.bool (((decide ((((l.length : Nat) : Int) : Int) ≤ (((k : Nat) : Int) : Int))) || ((((x.1 : Nat) : Int) : Int) != (((k : Nat) : Int) : Int)))))), (true, .val (.bool (((decide ((((l.length : Nat) : Int) : Int) ≤ (((k : Nat) : Int) : Int))) || ((((x.1 : Nat) : Int) : Int) != (((k : Nat) : Int) : Int)))))), ((true && !((decide ((((l.length : Nat) : Int) : Int) ≤ (((k : Nat) : Int) : Int))) || ((((x.1 : Nat) : Int) : Int) != (((k : Nat) : Int) : Int)))), .val (.agg #[.string x.2.name, .int .i64 x.2.ar, .bool x.2.pred])), ((true && !((decide ((((l.length : Nat) : Int) : Int) ≤ (((k : Nat) : Int) : Int))) || ((((x.1 : Nat) : Int) : Int) != (((k : Nat) : Int) : Int)))), .val (.pointer (some ⟨g2, 0, none⟩))), ((true && !((decide ((((l.length : Nat) : Int) : Int) ≤ (((k : Nat) : Int) : Int))) || ((((x.1 : Nat) : Int) : Int) != (((k : Nat) : Int) : Int)))), .val (.slice a0 l.length c)), ((true && !((decide ((((l.length : Nat) : Int) : Int) ≤ (((k : Nat) : Int) : Int))) || ((((x.1 : Nat) : Int) : Int) != (((k : Nat) : Int) : Int)))), .val (.int .i64 (((k : Nat) : Int)))), ((true && !((decide ((((l.length : Nat) : Int) : Int) ≤ (((k : Nat) : Int) : Int))) || ((((x.1 : Nat) : Int) : Int) != (((k : Nat) : Int) : Int)))), .val (.pointer (some ⟨b203, o204 + k * 3, none⟩))), ((true && !((decide ((((l.length : Nat) : Int) : Int) ≤ (((k : Nat) : Int) : Int))) || ((((x.1 : Nat) : Int) : Int) != (((k : Nat) : Int) : Int)))), .val (.agg #[.string ((sget l k).name), .int .i64 ((sget l k).ar), .bool ((sget l k).pred)])), ((true && !((decide ((((l.length : Nat) : Int) : Int) ≤ (((k : Nat) : Int) : Int))) || ((((x.1 : Nat) : Int) : Int) != (((k : Nat) : Int) : Int)))), .val (.bool ((!decide (x.2 = (sget l k)))))), (true, .val (.bool ((((decide ((((l.length : Nat) : Int) : Int) ≤ (((k : Nat) : Int) : Int))) || ((((x.1 : Nat) : Int) : Int) != (((k : Nat) : Int) : Int))) || (!decide (x.2 = (sget l k)))))))] [(0, .agg #[.slice a0 l.length c]), (1, .agg #[.string q.name, .int .i64 q.ar, .bool q.pred]), (2, .bool p), (3, .int .i64 lv), (4, .pointer (some ⟨g2, 0, none⟩)), (5, .pointer (some ⟨g9, 0, none⟩)), (6, .pointer (some ⟨g17, 0, none⟩)), (7, .pointer (some ⟨g27, 0, none⟩)), (8, .pointer (some ⟨g39, 0, none⟩)), (9, .int .i64 ((max (syAt q l 0) 0))), (10, .bool ((decide ((0 : Int) ≤ syAt q l 0)))), (11, .int .i64 ((syAt q l 0))), (12, .pointer (some ⟨g66, 0, none⟩)), (13, .pointer (some ⟨g83, 0, none⟩)), (14, .func (.func 24) #[] #[.pointer (some ⟨gl, 0, none⟩), .pointer (some ⟨gp, 0, none⟩)]), (15, .int .i64 (((x.1 : Nat) : Int))), (16, .pointer (some ⟨zy, 0, none⟩)), (18, .bool false), (38, .bool ((((decide ((0 : Int) ≤ syAt q l 0)) != (decide ((0 : Int) ≤ ((syAt q l 0) : Int)))) || (((max (syAt q l 0) 0) : Int) != ((max ((syAt q l 0)) 0) : Int))))), (43, .bool false), (44, .func (.func 24) #[] #[.pointer (some ⟨gl, 0, none⟩), .pointer (some ⟨gp, 0, none⟩)]), (61, .bool (((decide ((((k : Nat) : Int) : Int) < (((l.length : Nat) : Int) : Int))) && ((sget l k).pred != p))))] ⟨rfl, rfl, rfl, rfl, rfl, rfl, rfl, rfl, rfl, rfl, rfl, rfl, rfl, rfl, rfl, rfl, rfl, rfl, rfl, rfl, rfl, rfl, trivial⟩ (by kernel_rfl) (by kernel_rfl) (by kernel_rfl) ?_ ?_
            · refine ⟨⟨true, .none rfl, fun h w => optUndef h, fun zβ za zw zc => ?_⟩, ?_⟩
              · exact ld_3 rfl (zc.kn.ev rfl) (bkeeps zc.below _ _ ((hB232.cell 0).trans rfl)) ⟨_, rfl, Below.refl _ _, optDef zβ rfl⟩
              refine ⟨⟨true, .none rfl, fun h w => optUndef h, fun zβ za zw zc => ?_⟩, ?_⟩
              · exact fld_24_0 rfl (zc.kn.ev rfl) ⟨_, rfl, Below.refl _ _, optDef zβ rfl⟩
              refine ⟨⟨true, .none rfl, fun h w => optUndef h, fun zβ za zw zc => ?_⟩, ?_⟩
              · exact ld_22 rfl ((show za.eval (.tmp 65) = za.tmps.getD 65 undef from rfl).trans (optVal (zc.dep 1 65 (by kernel_rfl)) rfl rfl)) (bkeeps zc.below _ _ ((hB233.cell 0).trans rfl)) ⟨_, rfl, Below.refl _ _, optDef zβ rfl⟩
              refine ⟨⟨true, .none rfl, fun h w => optUndef h, fun zβ za zw zc => ?_⟩, ?_⟩
              · exact len_22 rfl ((show za.eval (.tmp 66) = za.tmps.getD 66 undef from rfl).trans (optVal (zc.dep 2 66 (by kernel_rfl)) rfl rfl)) ⟨_, rfl, Below.refl _ _, optDef zβ rfl⟩
              refine ⟨⟨true, .none rfl, fun h w => optUndef h, fun zβ za zw zc => ?_⟩, ?_⟩
              · exact geq_3 rfl ((show za.eval (.tmp 64) = za.tmps.getD 64 undef from rfl).trans (optVal (zc.dep 0 64 (by kernel_rfl)) rfl rfl)) ((show za.eval (.tmp 67) = za.tmps.getD 67 undef from rfl).trans (optVal (zc.dep 3 67 (by kernel_rfl)) rfl rfl)) ⟨_, rfl, Below.refl _ _, optDef zβ rfl⟩
              refine ⟨⟨true, .none rfl, fun h w => optUndef h, fun zβ za zw zc => ?_⟩, ?_⟩
              · exact wp_move rfl ((show za.eval (.tmp 68) = za.tmps.getD 68 undef from rfl).trans (optVal (zc.dep 4 68 (by kernel_rfl)) rfl rfl)) ⟨_, rfl, Below.refl _ _, optDef zβ rfl⟩
              refine ⟨⟨(true && !(decide ((((l.length : Nat) : Int) : Int) ≤ (((k : Nat) : Int) : Int)))), .no (c := (decide ((((l.length : Nat) : Int) : Int) ≤ (((k : Nat) : Int) : Int)))) (d := true) rfl (fun v w h => h), fun h w => optUndef h, fun zβ za zw zc => ?_⟩, ?_⟩
              · exact wp_move rfl (zc.kn.ev rfl) ⟨_, rfl, Below.refl _ _, optDef zβ rfl⟩
              refine ⟨⟨(true && !(decide ((((l.length : Nat) : Int) : Int) ≤ (((k : Nat) : Int) : Int)))), .no (c := (decide ((((l.length : Nat) : Int) : Int) ≤ (((k : Nat) : Int) : Int)))) (d := true) rfl (fun v w h => h), fun h w => optUndef h, fun zβ za zw zc => ?_⟩, ?_⟩
              · exact ld_3 rfl (zc.kn.ev rfl) (bkeeps zc.below _ _ ((hB232.cell 0).trans rfl)) ⟨_, rfl, Below.refl _ _, optDef zβ rfl⟩
              refine ⟨⟨(true && !(decide ((((l.length : Nat) : Int) : Int) ≤ (((k : Nat) : Int) : Int)))), .no (c := (decide ((((l.length : Nat) : Int) : Int) ≤ (((k : Nat) : Int) : Int)))) (d := true) rfl (fun v w h => h), fun h w => optUndef h, fun zβ za zw zc => ?_⟩, ?_⟩
              · exact neq_3 rfl ((show za.eval (.tmp 70) = za.tmps.getD 70 undef from rfl).trans (optVal (zc.dep 6 70 (by kernel_rfl)) rfl zβ)) ((show za.eval (.tmp 71) = za.tmps.getD 71 undef from rfl).trans (optVal (zc.dep 7 71 (by kernel_rfl)) rfl zβ)) ⟨_, rfl, Below.refl _ _, optDef zβ rfl⟩
              refine ⟨⟨true, .none rfl, fun h w => optUndef h, fun zβ za zw zc => ?_⟩, ?_⟩
              · exact wp_or rfl ((show za.eval (.tmp 69) = za.tmps.getD 69 undef from rfl).trans (optVal (zc.dep 5 69 (by kernel_rfl)) rfl rfl)) (fun hp => ((show za.eval (.tmp 72) = za.tmps.getD 72 undef from rfl).trans (optVal (zc.dep 8 72 (by kernel_rfl)) rfl (bMkN zβ hp)))) ⟨_, rfl, Below.refl _ _, optDef zβ rfl⟩
              refine ⟨⟨true, .none rfl, fun h w => optUndef h, fun zβ za zw zc => ?_⟩, ?_⟩
              · exact wp_move rfl ((show za.eval (.tmp 73) = za.tmps.getD 73 undef from rfl).trans (optVal (zc.dep 9 73 (by kernel_rfl)) rfl rfl)) ⟨_, rfl, Below.refl _ _, optDef zβ rfl⟩
              refine ⟨⟨(true && !((decide ((((l.length : Nat) : Int) : Int) ≤ (((k : Nat) : Int) : Int))) || ((((x.1 : Nat) : Int) : Int) != (((k : Nat) : Int) : Int)))), .no (c := ((decide ((((l.length : Nat) : Int) : Int) ≤ (((k : Nat) : Int) : Int))) || ((((x.1 : Nat) : Int) : Int) != (((k : Nat) : Int) : Int)))) (d := true) rfl (fun v w h => h), fun h w => optUndef h, fun zβ za zw zc => ?_⟩, ?_⟩
              · exact ld_35 rfl (zc.kn.ev rfl) (bkeeps zc.below _ _ ((hB234.cell 0).trans rfl)) (bkeeps zc.below _ _ ((hB234.cell 1).trans rfl)) (bkeeps zc.below _ _ ((hB234.cell 2).trans rfl)) ⟨_, rfl, Below.refl _ _, optDef zβ rfl⟩
              refine ⟨⟨(true && !((decide ((((l.length : Nat) : Int) : Int) ≤ (((k : Nat) : Int) : Int))) || ((((x.1 : Nat) : Int) : Int) != (((k : Nat) : Int) : Int)))), .no (c := ((decide ((((l.length : Nat) : Int) : Int) ≤ (((k : Nat) : Int) : Int))) || ((((x.1 : Nat) : Int) : Int) != (((k : Nat) : Int) : Int)))) (d := true) rfl (fun v w h => h), fun h w => optUndef h, fun zβ za zw zc => ?_⟩, ?_⟩
              · exact fld_24_0 rfl (zc.kn.ev rfl) ⟨_, rfl, Below.refl _ _, optDef zβ rfl⟩
              refine ⟨⟨(true && !((decide ((((l.length : Nat) : Int) : Int) ≤ (((k : Nat) : Int) : Int))) || ((((x.1 : Nat) : Int) : Int) != (((k : Nat) : Int) : Int)))), .no (c := ((decide ((((l.length : Nat) : Int) : Int) ≤ (((k : Nat) : Int) : Int))) || ((((x.1 : Nat) : Int) : Int) != (((k : Nat) : Int) : Int)))) (d := true) rfl (fun v w h => h), fun h w => optUndef h, fun zβ za zw zc => ?_⟩, ?_⟩
              · exact ld_22 rfl ((show za.eval (.tmp 76) = za.tmps.getD 76 undef from rfl).trans (optVal (zc.dep 12 76 (by kernel_rfl)) rfl zβ)) (bkeeps zc.below _ _ ((hB233.cell 0).trans rfl)) ⟨_, rfl, Below.refl _ _, optDef zβ rfl⟩
              refine ⟨⟨(true && !((decide ((((l.length : Nat) : Int) : Int) ≤ (((k : Nat) : Int) : Int))) || ((((x.1 : Nat) : Int) : Int) != (((k : Nat) : Int) : Int)))), .no (c := ((decide ((((l.length : Nat) : Int) : Int) ≤ (((k : Nat) : Int) : Int))) || ((((x.1 : Nat) : Int) : Int) != (((k : Nat) : Int) : Int)))) (d := true) rfl (fun v w h => h), fun h w => optUndef h, fun zβ za zw zc => ?_⟩, ?_⟩
              · exact ld_3 rfl (zc.kn.ev rfl) (bkeeps zc.below _ _ ((hB232.cell 0).trans rfl)) ⟨_, rfl, Below.refl _ _, optDef zβ rfl⟩
              refine ⟨⟨(true && !((decide ((((l.length : Nat) : Int) : Int) ≤ (((k : Nat) : Int) : Int))) || ((((x.1 : Nat) : Int) : Int) != (((k : Nat) : Int) : Int)))), .no (c := ((decide ((((l.length : Nat) : Int) : Int) ≤ (((k : Nat) : Int) : Int))) || ((((x.1 : Nat) : Int) : Int) != (((k : Nat) : Int) : Int)))) (d := true) rfl (fun v w h => h), fun h w => optUndef h, fun zβ za zw zc => ?_⟩, ?_⟩
              · exact ix_22 (k := k) rfl ((show za.eval (.tmp 77) = za.tmps.getD 77 undef from rfl).trans (optVal (zc.dep 13 77 (by kernel_rfl)) rfl zβ)) (ha205 k (by have zz := zβ; simp only [Bool.and_eq_true, Bool.or_eq_true, Bool.true_and, Bool.not_eq_true', Bool.or_eq_false_iff, Bool.and_eq_false_iff, beq_eq_false_iff_ne, ne_eq, beq_iff_eq, decide_eq_true_eq, decide_eq_false_iff_not, bne_iff_ne] at zz; omega)) ((show za.eval (.tmp 78) = za.tmps.getD 78 undef from rfl).trans (optVal (zc.dep 14 78 (by kernel_rfl)) rfl zβ)) (by have zz := zβ; simp only [Bool.and_eq_true, Bool.or_eq_true, Bool.true_and, Bool.not_eq_true', Bool.or_eq_false_iff, Bool.and_eq_false_iff, beq_eq_false_iff_ne, ne_eq, beq_iff_eq, decide_eq_true_eq, decide_eq_false_iff_not, bne_iff_ne] at zz; omega) ⟨_, rfl, Below.refl _ _, optDef zβ rfl⟩
              refine ⟨⟨(true && !((decide ((((l.length : Nat) : Int) : Int) ≤ (((k : Nat) : Int) : Int))) || ((((x.1 : Nat) : Int) : Int) != (((k : Nat) : Int) : Int)))), .no (c := ((decide ((((l.length : Nat) : Int) : Int) ≤ (((k : Nat) : Int) : Int))) || ((((x.1 : Nat) : Int) : Int) != (((k : Nat) : Int) : Int)))) (d := true) rfl (fun v w h => h), fun h w => optUndef h, fun zβ za zw zc => ?_⟩, ?_⟩
              · exact ld_35 rfl ((show za.eval (.tmp 79) = za.tmps.getD 79 undef from rfl).trans (optVal (zc.dep 15 79 (by kernel_rfl)) rfl zβ)) (bkeeps (bstep hb235 zc.below) _ _ (hc206 k (by have zz := zβ; simp only [Bool.and_eq_true, Bool.or_eq_true, Bool.true_and, Bool.not_eq_true', Bool.or_eq_false_iff, Bool.and_eq_false_iff, beq_eq_false_iff_ne, ne_eq, beq_iff_eq, decide_eq_true_eq, decide_eq_false_iff_not, bne_iff_ne] at zz; omega)).1) (bkeeps (bstep hb235 zc.below) _ _ (hc206 k (by have zz := zβ; simp only [Bool.and_eq_true, Bool.or_eq_true, Bool.true_and, Bool.not_eq_true', Bool.or_eq_false_iff, Bool.and_eq_false_iff, beq_eq_false_iff_ne, ne_eq, beq_iff_eq, decide_eq_true_eq, decide_eq_false_iff_not, bne_iff_ne] at zz; omega)).2.1) (bkeeps (bstep hb235 zc.below) _ _ (hc206 k (by have zz := zβ; simp only [Bool.and_eq_true, Bool.or_eq_true, Bool.true_and, Bool.not_eq_true', Bool.or_eq_false_iff, Bool.and_eq_false_iff, beq_eq_false_iff_ne, ne_eq, beq_iff_eq, decide_eq_true_eq, decide_eq_false_iff_not, bne_iff_ne] at zz; omega)).2.2) ⟨_, rfl, Below.refl _ _, optDef zβ rfl⟩
              refine ⟨⟨(true && !((decide ((((l.length : Nat) : Int) : Int) ≤ (((k : Nat) : Int) : Int))) || ((((x.1 : Nat) : Int) : Int) != (((k : Nat) : Int) : Int)))), .no (c := ((decide ((((l.length : Nat) : Int) : Int) ≤ (((k : Nat) : Int) : Int))) || ((((x.1 : Nat) : Int) : Int) != (((k : Nat) : Int) : Int)))) (d := true) rfl (fun v w h => h), fun h w => optUndef h, fun zβ za zw zc => ?_⟩, ?_⟩
              · exact wp_neq_sy (s := x.2) (t := (sget l k)) rfl ((show za.eval (.tmp 75) = za.tmps.getD 75 undef from rfl).trans (optVal (zc.dep 11 75 (by kernel_rfl)) rfl zβ)) ((show za.eval (.tmp 80) = za.tmps.getD 80 undef from rfl).trans (optVal (zc.dep 16 80 (by kernel_rfl)) rfl zβ)) ⟨_, rfl, Below.refl _ _, optDef zβ rfl⟩
              refine ⟨⟨true, .none rfl, fun h w => optUndef h, fun zβ za zw zc => ?_⟩, ?_⟩
              · exact wp_or rfl ((show za.eval (.tmp 74) = za.tmps.getD 74 undef from rfl).trans (optVal (zc.dep 10 74 (by kernel_rfl)) rfl rfl)) (fun hp => ((show za.eval (.tmp 81) = za.tmps.getD 81 undef from rfl).trans (optVal (zc.dep 17 81 (by kernel_rfl)) rfl (bMkN zβ hp)))) ⟨_, rfl, Below.refl _ _, optDef zβ rfl⟩
              exact trivial
            · intro za w236 zh hb237 zu
              have zh := zh.cons (d := 82) (v := .bool ((((decide ((((l.length : Nat) : Int) : Int) ≤ (((k : Nat) : Int) : Int))) || ((((x.1 : Nat) : Int) : Int) != (((k : Nat) : Int) : Int))) || (!decide (x.2 = (sget l k)))))) (optVal (zu 18 82 (by kernel_rfl)) rfl rfl)
              clear zu
              refine (show WE _ [(0, .agg #[.slice a0 l.length c]), (1, .agg #[.string q.name, .int .i64 q.ar, .bool q.pred]), (2, .bool p), (3, .int .i64 lv), (4, .pointer (some ⟨g2, 0, none⟩)), (5, .pointer (some ⟨g9, 0, none⟩)), (6, .pointer (some ⟨g17, 0, none⟩)), (7, .pointer (some ⟨g27, 0, none⟩)), (8, .pointer (some ⟨g39, 0, none⟩)), (9, .int .i64 ((max (syAt q l 0) 0))), (10, .bool ((decide ((0 : Int) ≤ syAt q l 0)))), (11, .int .i64 ((syAt q l 0))), (12, .pointer (some ⟨g66, 0, none⟩)), (13, .pointer (some ⟨g83, 0, none⟩)), (14, .func (.func 24) #[] #[.pointer (some ⟨gl, 0, none⟩), .pointer (some ⟨gp, 0, none⟩)]), (15, .int .i64 (((x.1 : Nat) : Int))), (16, .pointer (some ⟨zy, 0, none⟩)), (18, .bool false), (38, .bool ((((decide ((0 : Int) ≤ syAt q l 0)) != (decide ((0 : Int) ≤ ((syAt q l 0) : Int)))) || (((max (syAt q l 0) 0) : Int) != ((max ((syAt q l 0)) 0) : Int))))), (43, .bool false), (44, .func (.func 24) #[] #[.pointer (some ⟨gl, 0, none⟩), .pointer (some ⟨gp, 0, none⟩)]), (61, .bool (((decide ((((k : Nat) : Int) : Int) < (((l.length : Nat) : Int) : Int))) && ((sget l k).pred != p)))), (82, .bool ((((decide ((((l.length : Nat) : Int) : Int) ≤ (((k : Nat) : Int) : Int))) || ((((x.1 : Nat) : Int) : Int) != (((k : Nat) : Int) : Int))) || (!decide (x.2 = (sget l k))))))] w236 _ .normal from ?_) za (zh.sub ⟨rfl, rfl, rfl, rfl, rfl, rfl, rfl, rfl, rfl, rfl, rfl, rfl, rfl, rfl, rfl, rfl, rfl, rfl, rfl, rfl, rfl, rfl, rfl, trivial⟩)
              refine WE.next ?_
              refine WC.cond rfl (fun h238 => ?_) (fun h238 => ?_)
              · have h238 : (((((l.length : Nat) : Int) : Int) ≤ (((k : Nat) : Int) : Int)) ∨ ((((x.1 : Nat) : Int) : Int) ≠ (((k : Nat) : Int) : Int))) ∨ (¬ (x.2 = (sget l k))) := by simpa using h238
                refine WC.seq ?_
                refine WC.region ?_
                have hb240 : Below w190.heap.size w190 w236 := (bstep hb208 hb237)
                have hB239 := hB198.below hb240
                refine WL.step (post := fun _ w' => Upd g39 w236 w' ∧ Blk w' g39 4 #[.bool false]) rfl rfl rfl (fun za zC zh zk => st_4 rfl (zh.ev rfl) (zh.ev rfl) hB239 (by first | decide | simp) (fun v => zk v _ ⟨Upd.at_ _ _ _ _, hB239.set_ 0 _⟩)) ?_
                rintro v244 w241 ⟨hu242, hB243⟩
                have hb245 : Below w.heap.size w w236 := (bstep hb192 hb240)
                have hb246 := upd_below hb245 hu242 (by omega)
                have hB247 := hB193.below hb240
                have hB248 := upd_blk hB247 hu242 (by omega)
                have hB249 := hB233.below hb237
                have hB250 := upd_blk hB249 hu242 (by omega)
                have hB251 := hB195.below hb240
                have hB252 := upd_blk hB251 hu242 (by omega)
                have hB253 := hB196.below hb240
                have hB254 := upd_blk hB253 hu242 (by omega)
                have hB255 := hB197.below hb240
                have hB256 := upd_blk hB255 hu242 (by omega)
                have hB257 := hB234.below hb237
                have hB258 := upd_blk hB257 hu242 (by omega)
                have hB259 := hB232.below hb237
                have hB260 := upd_blk hB259 hu242 (by omega)
                refine WL.nil (WE.sub (K' := [(0, .agg #[.slice a0 l.length c]), (1, .agg #[.string q.name, .int .i64 q.ar, .bool q.pred]), (2, .bool p), (3, .int .i64 lv), (4, .pointer (some ⟨g2, 0, none⟩)), (5, .pointer (some ⟨g9, 0, none⟩)), (6, .pointer (some ⟨g17, 0, none⟩)), (7, .pointer (some ⟨g27, 0, none⟩)), (8, .pointer (some ⟨g39, 0, none⟩)), (9, .int .i64 ((max (syAt q l 0) 0))), (10, .bool ((decide ((0 : Int) ≤ syAt q l 0)))), (11, .int .i64 ((syAt q l 0))), (12, .pointer (some ⟨g66, 0, none⟩)), (13, .pointer (some ⟨g83, 0, none⟩)), (14, .func (.func 24) #[] #[.pointer (some ⟨gl, 0, none⟩), .pointer (some ⟨gp, 0, none⟩)]), (15, .int .i64 (((x.1 : Nat) : Int))), (16, .pointer (some ⟨zy, 0, none⟩)), (18, .bool false), (38, .bool ((((decide ((0 : Int) ≤ syAt q l 0)) != (decide ((0 : Int) ≤ ((syAt q l 0) : Int)))) || (((max (syAt q l 0) 0) : Int) != ((max ((syAt q l 0)) 0) : Int))))), (43, .bool false), (44, .func (.func 24) #[] #[.pointer (some ⟨gl, 0, none⟩), .pointer (some ⟨gp, 0, none⟩)]), (61, .bool (((decide ((((k : Nat) : Int) : Int) < (((l.length : Nat) : Int) : Int))) && ((sget l k).pred != p)))), (82, .bool ((((decide ((((l.length : Nat) : Int) : Int) ≤ (((k : Nat) : Int) : Int))) || ((((x.1 : Nat) : Int) : Int) != (((k : Nat) : Int) : Int))) || (!decide (x.2 = (sget l k))))))]) ⟨rfl, rfl, rfl, rfl, rfl, rfl, rfl, rfl, rfl, rfl, rfl, rfl, rfl, rfl, rfl, rfl, rfl, rfl, rfl, rfl, rfl, rfl, rfl, trivial⟩ ?_)
                refine WE.next ?_
                refine WC.ret ?_
                refine WE.thenRet ?_
                refine WE.blockRet ?_
                exact fun _ _ => ⟨((hk202.trans (keepsFrom_below hb240)).trans (keepsFrom_upd hu242 hB239)), ⟨rfl, false, hB243, hb246, fun _ => kind_no hk (hpre.trans hke.symm) hst (by have z := h238; simp only [ne_eq] at z; rcases z with (z | z) | z <;> first | exact .inl (.inl (by omega)) | exact .inl (.inr (by omega)) | exact .inr z)⟩⟩
              · have h238 : ¬ ((((((l.length : Nat) : Int) : Int) ≤ (((k : Nat) : Int) : Int)) ∨ ((((x.1 : Nat) : Int) : Int) ≠ (((k : Nat) : Int) : Int))) ∨ (¬ (x.2 = (sget l k)))) := by simpa using h238
                have hx1 : x = (k, sget l k) := by simp only [not_or, Classical.not_not, ne_eq] at h238; obtain ⟨⟨z1, z2⟩, z3⟩ := h238; exact Prod.ext (by omega) z3
                have hnext : pre ++ [x] = kindOf p (l.take (k + 1)) 0 := by simp only [not_or, Classical.not_not, ne_eq] at h238; rw [kindOf_take p (by omega), if_pos (hst (by omega)), hke, ← hpre, hx1]
                refine WC.skip ?_
                refine WE.next ?_
                refine WC.seq ?_
                refine WC.region ?_
                have hB261 := hB232.below hb237
                refine WL.val (.int .i64 (((k : Nat) : Int))) rfl rfl rfl (fun za zC zh zk => ld_3 rfl (zh.ev rfl) ((hB261.cell 0).trans rfl) zk) ?_
                refine WL.val (.int .i64 ((((k + 1) : Nat) : Int))) rfl rfl rfl (fun za zC zh zk => addb_3 rfl (zh.ev rfl) (zh.ev rfl) (wrap_eq (by omega) (by omega) (by omega)) zk) ?_
                refine WL.step (post := fun _ w' => Upd g66 w236 w' ∧ Blk w' g66 3 #[.int .i64 ((((k + 1) : Nat) : Int))]) rfl rfl rfl (fun za zC zh zk => st_3 rfl (zh.ev rfl) (zh.ev rfl) hB261 (by first | decide | simp) (fun v => zk v _ ⟨Upd.at_ _ _ _ _, hB261.set_ 0 _⟩)) ?_
                rintro v265 w262 ⟨hu263, hB264⟩
                have hb266 : Below w.heap.size w w236 := (bstep hb235 hb237)
                have hb267 := upd_below hb266 hu263 (by omega)
                have hb269 : Below w190.heap.size w190 w236 := (bstep hb208 hb237)
                have hB268 := hB193.below hb269
                have hB270 := upd_blk hB268 hu263 (by omega)
                have hB271 := hB233.below hb237
                have hB272 := upd_blk hB271 hu263 (by omega)
                have hB273 := hB195.below hb269
                have hB274 := upd_blk hB273 hu263 (by omega)
                have hB275 := hB196.below hb269
                have hB276 := upd_blk hB275 hu263 (by omega)
                have hB277 := hB197.below hb269
                have hB278 := upd_blk hB277 hu263 (by omega)
                have hB279 := hB198.below hb269
                have hB280 := upd_blk hB279 hu263 (by omega)
                have hB281 := hB234.below hb237
                have hB282 := upd_blk hB281 hu263 (by omega)
                refine WL.nil (WE.sub (K' := [(0, .agg #[.slice a0 l.length c]), (1, .agg #[.string q.name, .int .i64 q.ar, .bool q.pred]), (2, .bool p), (3, .int .i64 lv), (4, .pointer (some ⟨g2, 0, none⟩)), (5, .pointer (some ⟨g9, 0, none⟩)), (6, .pointer (some ⟨g17, 0, none⟩)), (7, .pointer (some ⟨g27, 0, none⟩)), (8, .pointer (some ⟨g39, 0, none⟩)), (9, .int .i64 ((max (syAt q l 0) 0))), (10, .bool ((decide ((0 : Int) ≤ syAt q l 0)))), (11, .int .i64 ((syAt q l 0))), (12, .pointer (some ⟨g66, 0, none⟩)), (13, .pointer (some ⟨g83, 0, none⟩)), (14, .func (.func 24) #[] #[.pointer (some ⟨gl, 0, none⟩), .pointer (some ⟨gp, 0, none⟩)]), (15, .int .i64 (((x.1 : Nat) : Int))), (16, .pointer (some ⟨zy, 0, none⟩)), (18, .bool false), (38, .bool ((((decide ((0 : Int) ≤ syAt q l 0)) != (decide ((0 : Int) ≤ ((syAt q l 0) : Int)))) || (((max (syAt q l 0) 0) : Int) != ((max ((syAt q l 0)) 0) : Int))))), (43, .bool false), (44, .func (.func 24) #[] #[.pointer (some ⟨gl, 0, none⟩), .pointer (some ⟨gp, 0, none⟩)]), (61, .bool (((decide ((((k : Nat) : Int) : Int) < (((l.length : Nat) : Int) : Int))) && ((sget l k).pred != p)))), (82, .bool ((((decide ((((l.length : Nat) : Int) : Int) ≤ (((k : Nat) : Int) : Int))) || ((((x.1 : Nat) : Int) : Int) != (((k : Nat) : Int) : Int))) || (!decide (x.2 = (sget l k))))))]) ⟨rfl, rfl, rfl, rfl, rfl, rfl, rfl, rfl, rfl, rfl, rfl, rfl, rfl, rfl, rfl, rfl, rfl, rfl, rfl, rfl, rfl, rfl, rfl, trivial⟩ ?_)
                refine WE.next ?_
                refine WC.seq ?_
                refine WC.region ?_
                refine WL.val (.int .i64 (((pre.length : Nat) : Int))) rfl rfl rfl (fun za zC zh zk => ld_3 rfl (zh.ev rfl) ((hB270.cell 0).trans rfl) zk) ?_
                refine WL.val (.int .i64 ((((pre.length + 1) : Nat) : Int))) rfl rfl rfl (fun za zC zh zk => addb_3 rfl (zh.ev rfl) (zh.ev rfl) (wrap_eq (by omega) (by omega) (by omega)) zk) ?_
                refine WL.step (post := fun _ w' => Upd g83 w262 w' ∧ Blk w' g83 3 #[.int .i64 ((((pre.length + 1) : Nat) : Int))]) rfl rfl rfl (fun za zC zh zk => st_3 rfl (zh.ev rfl) (zh.ev rfl) hB270 (by first | decide | simp) (fun v => zk v _ ⟨Upd.at_ _ _ _ _, hB270.set_ 0 _⟩)) ?_
                rintro v286 w283 ⟨hu284, hB285⟩
                have hb287 := upd_below hb267 hu284 (by omega)
                have hB288 := upd_blk hB272 hu284 (by omega)
                have hB289 := upd_blk hB274 hu284 (by omega)
                have hB290 := upd_blk hB276 hu284 (by omega)
                have hB291 := upd_blk hB278 hu284 (by omega)
                have hB292 := upd_blk hB280 hu284 (by omega)
                have hB293 := upd_blk hB282 hu284 (by omega)
                have hB294 := upd_blk hB264 hu284 (by omega)
                refine WL.nil (WE.sub (K' := [(0, .agg #[.slice a0 l.length c]), (1, .agg #[.string q.name, .int .i64 q.ar, .bool q.pred]), (2, .bool p), (3, .int .i64 lv), (4, .pointer (some ⟨g2, 0, none⟩)), (5, .pointer (some ⟨g9, 0, none⟩)), (6, .pointer (some ⟨g17, 0, none⟩)), (7, .pointer (some ⟨g27, 0, none⟩)), (8, .pointer (some ⟨g39, 0, none⟩)), (9, .int .i64 ((max (syAt q l 0) 0))), (10, .bool ((decide ((0 : Int) ≤ syAt q l 0)))), (11, .int .i64 ((syAt q l 0))), (12, .pointer (some ⟨g66, 0, none⟩)), (13, .pointer (some ⟨g83, 0, none⟩)), (14, .func (.func 24) #[] #[.pointer (some ⟨gl, 0, none⟩), .pointer (some ⟨gp, 0, none⟩)]), (15, .int .i64 (((x.1 : Nat) : Int))), (16, .pointer (some ⟨zy, 0, none⟩)), (18, .bool false), (38, .bool ((((decide ((0 : Int) ≤ syAt q l 0)) != (decide ((0 : Int) ≤ ((syAt q l 0) : Int)))) || (((max (syAt q l 0) 0) : Int) != ((max ((syAt q l 0)) 0) : Int))))), (43, .bool false), (44, .func (.func 24) #[] #[.pointer (some ⟨gl, 0, none⟩), .pointer (some ⟨gp, 0, none⟩)]), (61, .bool (((decide ((((k : Nat) : Int) : Int) < (((l.length : Nat) : Int) : Int))) && ((sget l k).pred != p)))), (82, .bool ((((decide ((((l.length : Nat) : Int) : Int) ≤ (((k : Nat) : Int) : Int))) || ((((x.1 : Nat) : Int) : Int) != (((k : Nat) : Int) : Int))) || (!decide (x.2 = (sget l k))))))]) ⟨rfl, rfl, rfl, rfl, rfl, rfl, rfl, rfl, rfl, rfl, rfl, rfl, rfl, rfl, rfl, rfl, rfl, rfl, rfl, rfl, rfl, rfl, rfl, trivial⟩ ?_)
                refine WE.next ?_
                refine WC.seq ?_
                refine WC.region ?_
                refine WL.val (.int .i64 ((((pre.length + 1) : Nat) : Int))) rfl rfl rfl (fun za zC zh zk => ld_3 rfl (zh.ev rfl) ((hB285.cell 0).trans rfl) zk) ?_
                refine WL.val (.int .i64 lv) rfl rfl rfl (fun za zC zh zk => ld_3 rfl (zh.ev rfl) ((hB291.cell 0).trans rfl) zk) ?_
                refine WL.val (.bool ((((((pre.length + 1) : Nat) : Int) : Int) == (lv : Int)))) rfl rfl rfl (fun za zC zh zk => eql_3 rfl (zh.ev rfl) (zh.ev rfl) zk) ?_
                refine WL.nil (WE.sub (K' := [(0, .agg #[.slice a0 l.length c]), (1, .agg #[.string q.name, .int .i64 q.ar, .bool q.pred]), (2, .bool p), (3, .int .i64 lv), (4, .pointer (some ⟨g2, 0, none⟩)), (5, .pointer (some ⟨g9, 0, none⟩)), (6, .pointer (some ⟨g17, 0, none⟩)), (7, .pointer (some ⟨g27, 0, none⟩)), (8, .pointer (some ⟨g39, 0, none⟩)), (9, .int .i64 ((max (syAt q l 0) 0))), (10, .bool ((decide ((0 : Int) ≤ syAt q l 0)))), (11, .int .i64 ((syAt q l 0))), (12, .pointer (some ⟨g66, 0, none⟩)), (13, .pointer (some ⟨g83, 0, none⟩)), (14, .func (.func 24) #[] #[.pointer (some ⟨gl, 0, none⟩), .pointer (some ⟨gp, 0, none⟩)]), (15, .int .i64 (((x.1 : Nat) : Int))), (16, .pointer (some ⟨zy, 0, none⟩)), (18, .bool false), (38, .bool ((((decide ((0 : Int) ≤ syAt q l 0)) != (decide ((0 : Int) ≤ ((syAt q l 0) : Int)))) || (((max (syAt q l 0) 0) : Int) != ((max ((syAt q l 0)) 0) : Int))))), (43, .bool false), (44, .func (.func 24) #[] #[.pointer (some ⟨gl, 0, none⟩), .pointer (some ⟨gp, 0, none⟩)]), (61, .bool (((decide ((((k : Nat) : Int) : Int) < (((l.length : Nat) : Int) : Int))) && ((sget l k).pred != p)))), (82, .bool ((((decide ((((l.length : Nat) : Int) : Int) ≤ (((k : Nat) : Int) : Int))) || ((((x.1 : Nat) : Int) : Int) != (((k : Nat) : Int) : Int))) || (!decide (x.2 = (sget l k)))))), (89, .bool ((((((pre.length + 1) : Nat) : Int) : Int) == (lv : Int))))]) ⟨rfl, rfl, rfl, rfl, rfl, rfl, rfl, rfl, rfl, rfl, rfl, rfl, rfl, rfl, rfl, rfl, rfl, rfl, rfl, rfl, rfl, rfl, rfl, rfl, trivial⟩ ?_)
                refine WE.next ?_
                refine WC.cond rfl (fun h295 => ?_) (fun h295 => ?_)
                · have h295 : ((((pre.length + 1) : Nat) : Int) : Int) = (lv : Int) := by simpa using h295
                  refine WC.seq ?_
                  refine WC.region ?_
                  refine WL.step (post := fun _ w' => Upd g39 w283 w' ∧ Blk w' g39 4 #[.bool true]) rfl rfl rfl (fun za zC zh zk => st_4 rfl (zh.ev rfl) (zh.ev rfl) hB292 (by first | decide | simp) (fun v => zk v _ ⟨Upd.at_ _ _ _ _, hB292.set_ 0 _⟩)) ?_
                  rintro v299 w296 ⟨hu297, hB298⟩
                  have hb300 := upd_below hb287 hu297 (by omega)
                  have hB301 := upd_blk hB285 hu297 (by omega)
                  have hB302 := upd_blk hB288 hu297 (by omega)
                  have hB303 := upd_blk hB289 hu297 (by omega)
                  have hB304 := upd_blk hB290 hu297 (by omega)
                  have hB305 := upd_blk hB291 hu297 (by omega)
                  have hB306 := upd_blk hB293 hu297 (by omega)
                  have hB307 := upd_blk hB294 hu297 (by omega)
                  refine WL.nil (WE.sub (K' := [(0, .agg #[.slice a0 l.length c]), (1, .agg #[.string q.name, .int .i64 q.ar, .bool q.pred]), (2, .bool p), (3, .int .i64 lv), (4, .pointer (some ⟨g2, 0, none⟩)), (5, .pointer (some ⟨g9, 0, none⟩)), (6, .pointer (some ⟨g17, 0, none⟩)), (7, .pointer (some ⟨g27, 0, none⟩)), (8, .pointer (some ⟨g39, 0, none⟩)), (9, .int .i64 ((max (syAt q l 0) 0))), (10, .bool ((decide ((0 : Int) ≤ syAt q l 0)))), (11, .int .i64 ((syAt q l 0))), (12, .pointer (some ⟨g66, 0, none⟩)), (13, .pointer (some ⟨g83, 0, none⟩)), (14, .func (.func 24) #[] #[.pointer (some ⟨gl, 0, none⟩), .pointer (some ⟨gp, 0, none⟩)]), (15, .int .i64 (((x.1 : Nat) : Int))), (16, .pointer (some ⟨zy, 0, none⟩)), (18, .bool false), (38, .bool ((((decide ((0 : Int) ≤ syAt q l 0)) != (decide ((0 : Int) ≤ ((syAt q l 0) : Int)))) || (((max (syAt q l 0) 0) : Int) != ((max ((syAt q l 0)) 0) : Int))))), (43, .bool false), (44, .func (.func 24) #[] #[.pointer (some ⟨gl, 0, none⟩), .pointer (some ⟨gp, 0, none⟩)]), (61, .bool (((decide ((((k : Nat) : Int) : Int) < (((l.length : Nat) : Int) : Int))) && ((sget l k).pred != p)))), (82, .bool ((((decide ((((l.length : Nat) : Int) : Int) ≤ (((k : Nat) : Int) : Int))) || ((((x.1 : Nat) : Int) : Int) != (((k : Nat) : Int) : Int))) || (!decide (x.2 = (sget l k)))))), (89, .bool ((((((pre.length + 1) : Nat) : Int) : Int) == (lv : Int))))]) ⟨rfl, rfl, rfl, rfl, rfl, rfl, rfl, rfl, rfl, rfl, rfl, rfl, rfl, rfl, rfl, rfl, rfl, rfl, rfl, rfl, rfl, rfl, rfl, rfl, trivial⟩ ?_)
                  refine WE.next ?_
                  refine WC.ret ?_
                  refine WE.blockRet ?_
                  exact fun _ _ => ⟨((((hk202.trans (keepsFrom_below hb269)).trans (keepsFrom_upd hu263 hB261)).trans (keepsFrom_upd hu284 hB270)).trans (keepsFrom_upd hu297 hB292)), ⟨rfl, true, hB298, hb300, fun e => by cases e⟩⟩
                · have h295 : ¬ (((((pre.length + 1) : Nat) : Int) : Int) = (lv : Int)) := by simpa using h295
                  refine WC.skip ?_
                  refine WE.blockNormal ?_
                  have hs308 : Chg ((fun b => b < w122.heap.size ∨ w133.heap.size ≤ b)) w172 w283 := (Chg.trans2 (Chg.trans2 (Chg.trans2 (Chg.trans2 (Chg.refl ((fun b => b < w122.heap.size ∨ w133.heap.size ≤ b)) _) hc201 (fun i h1 h2 => by (try dsimp only at *); omega)) (Chg.ofBelow (S := fun k => k < 0) hb269) (fun i h1 h2 => by (try dsimp only at *); omega)) (Chg.ofUpd (S := fun k => k = g66) hu263 rfl) (fun i h1 h2 => by (try dsimp only at *); omega)) (Chg.ofUpd (S := fun k => k = g83) hu284 rfl) (fun i h1 h2 => by (try dsimp only at *); omega))
                  exact fun _ _ => ⟨(((hk202.trans (keepsFrom_below hb269)).trans (keepsFrom_upd hu263 hB261)).trans (keepsFrom_upd hu284 hB270)), hs308, ⟨k + 1, by omega, hnext, (Nat.le_trans (Nat.le_trans (Nat.le_trans (Nat.le_trans hz182 hc201.size) hb269.size) (Nat.le_of_eq hu263.size.symm)) (Nat.le_of_eq hu284.size.symm)), hb287, hB294, (by rw [List.length_append]; exact hB285), hB288, hB289, hB290, hB291, hB292⟩⟩
    · rintro D309 xs310 w311 hD312 hS313 ⟨a, ha, hpre, hz323, hb315, hB316, hB317, hB318, hB319, hB320, hB321, hB322⟩ hw314
      skip
      refine WE.blockNormal ?_
      refine WE.next ?_
      refine WC.seq ?_
      refine WC.block ?_
      refine WC.loop (X := Nat) (fun k => l.length - k) (fun k => [(0, .agg #[.slice a0 l.length c]), (1, .agg #[.string q.name, .int .i64 q.ar, .bool q.pred]), (2, .bool p), (3, .int .i64 lv), (4, .pointer (some ⟨g2, 0, none⟩)), (5, .pointer (some ⟨g9, 0, none⟩)), (6, .pointer (some ⟨g17, 0, none⟩)), (7, .pointer (some ⟨g27, 0, none⟩)), (8, .pointer (some ⟨g39, 0, none⟩)), (9, .int .i64 ((max (syAt q l 0) 0))), (10, .bool ((decide ((0 : Int) ≤ syAt q l 0)))), (11, .int .i64 ((syAt q l 0))), (12, .pointer (some ⟨g66, 0, none⟩)), (13, .pointer (some ⟨g83, 0, none⟩)), (14, .func (.func 24) #[] #[.pointer (some ⟨gl, 0, none⟩), .pointer (some ⟨gp, 0, none⟩)]), (18, .bool false), (38, .bool ((((decide ((0 : Int) ≤ syAt q l 0)) != (decide ((0 : Int) ≤ ((syAt q l 0) : Int)))) || (((max (syAt q l 0) 0) : Int) != ((max ((syAt q l 0)) 0) : Int))))), (43, .bool false), (44, .func (.func 24) #[] #[.pointer (some ⟨gl, 0, none⟩), .pointer (some ⟨gp, 0, none⟩)])]) (fun k w324 => k ≤ l.length ∧ a ≤ k ∧ kindOf p (l.take k) 0 = kindOf p (l.take a) 0 ∧ Below w.heap.size w w324 ∧ Blk w324 g83 3 #[.int .i64 (((xs310.length : Nat) : Int))] ∧ Blk w324 g2 24 #[.slice a0 l.length c] ∧ Blk w324 g9 35 #[.string q.name, .int .i64 q.ar, .bool q.pred] ∧ Blk w324 g17 4 #[.bool p] ∧ Blk w324 g27 3 #[.int .i64 lv] ∧ Blk w324 g39 4 #[.bool false] ∧ Blk w324 g66 3 #[.int .i64 (((k : Nat) : Int))] ∧ Mk (w324) D309) a ⟨rfl, rfl, rfl, rfl, rfl, rfl, rfl, rfl, rfl, rfl, rfl, rfl, rfl, rfl, rfl, rfl, rfl, rfl, rfl, trivial⟩ ?_ ?_
      · exact ⟨ha, Nat.le_refl _, rfl, hb315, hB317, hB318, hB319, hB320, hB321, hB322, hB316, hw314⟩
      · rintro k w324 ⟨hk, hak, hke, hb325, hB326, hB327, hB328, hB329, hB330, hB331, hB332, ho333⟩
        refine WC.seq ?_
        refine WC.seq ?_
        obtain ⟨b334, o335, ha336, hc337⟩ := IsSys.open hl
        refine WC.opt [(true, .val (.int .i64 (((k : Nat) : Int)))), (true, .val (.pointer (some ⟨g2, 0, none⟩))), (true, .val (.slice a0 l.length c)), (true, .val (.int .i64 (((l.length : Nat) : Int)))), (true, .val (.bool ((decide ((((k : Nat) : Int) : Int) < (((l.length : Nat) : Int) : Int)))))), (true, .val (.bool ((decide ((((k : Nat) : Int) : Int) < (((l.length : Nat) : Int) : Int)))))), ((true && (decide ((((k : Nat) : Int) : Int) < (((l.length : Nat) : Int) : Int)))), .val (.pointer (some ⟨g2, 0, none⟩))), ((true && (decide ((((k : Nat) : Int) : Int) < (((l.length : Nat) : Int) : Int)))), .val (.slice a0 l.length c)), ((true && (decide ((((k : Nat) : Int) : Int) < (((l.length : Nat) : Int) : Int)))), .val (.int .i64 (((k : Nat) : Int)))), ((true && (decide ((((k : Nat) : Int) : Int) < (((l.length : Nat) : Int) : Int)))), .val (.pointer (some ⟨b334, o335 + k * 3, none⟩))), ((true && (decide ((((k : Nat) : Int) : Int) < (((l.length : Nat) : Int) : Int)))), .val (.pointer (some ⟨b334, o335 + k * 3 + 2, none⟩))), ((true && (decide ((((k : Nat) : Int) : Int) < (((l.length : Nat) : Int) : Int)))), .val (.bool ((sget l k).pred))), ((true && (decide ((((k : Nat) : Int) : Int) < (((l.length : Nat) : Int) : Int)))), .val (.bool p)), ((true && (decide ((((k : Nat) : Int) : Int) < (((l.length : Nat) : Int) : Int)))), .val (.bool (((sget l k).pred != p)))), (true, .val (.bool (((decide ((((k : Nat) : Int) : Int) < (((l.length : Nat) : Int) : Int))) && ((sget l k).pred != p)))))] [(0, .agg #[.slice a0 l.length c]), (1, .agg #[.string q.name, .int .i64 q.ar, .bool q.pred]), (2, .bool p), (3, .int .i64 lv), (4, .pointer (some ⟨g2, 0, none⟩)), (5, .pointer (some ⟨g9, 0, none⟩)), (6, .pointer (some ⟨g17, 0, none⟩)), (7, .pointer (some ⟨g27, 0, none⟩)), (8, .pointer (some ⟨g39, 0, none⟩)), (9, .int .i64 ((max (syAt q l 0) 0))), (10, .bool ((decide ((0 : Int) ≤ syAt q l 0)))), (11, .int .i64 ((syAt q l 0))), (12, .pointer (some ⟨g66, 0, none⟩)), (13, .pointer (some ⟨g83, 0, none⟩)), (14, .func (.func 24) #[] #[.pointer (some ⟨gl, 0, none⟩), .pointer (some ⟨gp, 0, none⟩)]), (18, .bool false), (38, .bool ((((decide ((0 : Int) ≤ syAt q l 0)) != (decide ((0 : Int) ≤ ((syAt q l 0) : Int)))) || (((max (syAt q l 0) 0) : Int) != ((max ((syAt q l 0)) 0) : Int))))), (43, .bool false), (44, .func (.func 24) #[] #[.pointer (some ⟨gl, 0, none⟩), .pointer (some ⟨gp, 0, none⟩)])] ⟨rfl, rfl, rfl, rfl, rfl, rfl, rfl, rfl, rfl, rfl, rfl, rfl, rfl, rfl, rfl, rfl, rfl, rfl, rfl, trivial⟩ (by kernel_rfl) (by kernel_rfl) (by kernel_rfl) ?_ ?_
        · refine ⟨⟨true, .none rfl, fun h w => optUndef h, fun zβ za zw zc => ?_⟩, ?_⟩
          · exact ld_3 rfl (zc.kn.ev rfl) (bkeeps zc.below _ _ ((hB332.cell 0).trans rfl)) ⟨_, rfl, Below.refl _ _, optDef zβ rfl⟩
          refine ⟨⟨true, .none rfl, fun h w => optUndef h, fun zβ za zw zc => ?_⟩, ?_⟩
          · exact fld_24_0 rfl (zc.kn.ev rfl) ⟨_, rfl, Below.refl _ _, optDef zβ rfl⟩
          refine ⟨⟨true, .none rfl, fun h w => optUndef h, fun zβ za zw zc => ?_⟩, ?_⟩
          · exact ld_22 rfl ((show za.eval (.tmp 91) = za.tmps.getD 91 undef from rfl).trans (optVal (zc.dep 1 91 (by kernel_rfl)) rfl rfl)) (bkeeps zc.below _ _ ((hB327.cell 0).trans rfl)) ⟨_, rfl, Below.refl _ _, optDef zβ rfl⟩
          refine ⟨⟨true, .none rfl, fun h w => optUndef h, fun zβ za zw zc => ?_⟩, ?_⟩
          · exact len_22 rfl ((show za.eval (.tmp 92) = za.tmps.getD 92 undef from rfl).trans (optVal (zc.dep 2 92 (by kernel_rfl)) rfl rfl)) ⟨_, rfl, Below.refl _ _, optDef zβ rfl⟩
          refine ⟨⟨true, .none rfl, fun h w => optUndef h, fun zβ za zw zc => ?_⟩, ?_⟩
          · exact lss_3 rfl ((show za.eval (.tmp 90) = za.tmps.getD 90 undef from rfl).trans (optVal (zc.dep 0 90 (by kernel_rfl)) rfl rfl)) ((show za.eval (.tmp 93) = za.tmps.getD 93 undef from rfl).trans (optVal (zc.dep 3 93 (by kernel_rfl)) rfl rfl)) ⟨_, rfl, Below.refl _ _, optDef zβ rfl⟩
          refine ⟨⟨true, .none rfl, fun h w => optUndef h, fun zβ za zw zc => ?_⟩, ?_⟩
          · exact wp_move rfl ((show za.eval (.tmp 94) = za.tmps.getD 94 undef from rfl).trans (optVal (zc.dep 4 94 (by kernel_rfl)) rfl rfl)) ⟨_, rfl, Below.refl _ _, optDef zβ rfl⟩
          refine ⟨⟨(true && (decide ((((k : Nat) : Int) : Int) < (((l.length : Nat) : Int) : Int)))), .yes (c := (decide ((((k : Nat) : Int) : Int) < (((l.length : Nat) : Int) : Int)))) (d := true) rfl (fun v w h => h), fun h w => optUndef h, fun zβ za zw zc => ?_⟩, ?_⟩
          · exact fld_24_0 rfl (zc.kn.ev rfl) ⟨_, rfl, Below.refl _ _, optDef zβ rfl⟩
          refine ⟨⟨(true && (decide ((((k : Nat) : Int) : Int) < (((l.length : Nat) : Int) : Int)))), .yes (c := (decide ((((k : Nat) : Int) : Int) < (((l.length : Nat) : Int) : Int)))) (d := true) rfl (fun v w h => h), fun h w => optUndef h, fun zβ za zw zc => ?_⟩, ?_⟩
          · exact ld_22 rfl ((show za.eval (.tmp 96) = za.tmps.getD 96 undef from rfl).trans (optVal (zc.dep 6 96 (by kernel_rfl)) rfl zβ)) (bkeeps zc.below _ _ ((hB327.cell 0).trans rfl)) ⟨_, rfl, Below.refl _ _, optDef zβ rfl⟩
          refine ⟨⟨(true && (decide ((((k : Nat) : Int) : Int) < (((l.length : Nat) : Int) : Int)))), .yes (c := (decide ((((k : Nat) : Int) : Int) < (((l.length : Nat) : Int) : Int)))) (d := true) rfl (fun v w h => h), fun h w => optUndef h, fun zβ za zw zc => ?_⟩, ?_⟩
          · exact ld_3 rfl (zc.kn.ev rfl) (bkeeps zc.below _ _ ((hB332.cell 0).trans rfl)) ⟨_, rfl, Below.refl _ _, optDef zβ rfl⟩
          refine ⟨⟨(true && (decide ((((k : Nat) : Int) : Int) < (((l.length : Nat) : Int) : Int)))), .yes (c := (decide ((((k : Nat) : Int) : Int) < (((l.length : Nat) : Int) : Int)))) (d := true) rfl (fun v w h => h), fun h w => optUndef h, fun zβ za zw zc => ?_⟩, ?_⟩
          · exact ix_22 (k := k) rfl ((show za.eval (.tmp 97) = za.tmps.getD 97 undef from rfl).trans (optVal (zc.dep 7 97 (by kernel_rfl)) rfl zβ)) (ha336 k (by have zz := zβ; simp only [Bool.and_eq_true, Bool.or_eq_true, Bool.true_and, Bool.not_eq_true', Bool.or_eq_false_iff, Bool.and_eq_false_iff, beq_eq_false_iff_ne, ne_eq, beq_iff_eq, decide_eq_true_eq, decide_eq_false_iff_not, bne_iff_ne] at zz; omega)) ((show za.eval (.tmp 98) = za.tmps.getD 98 undef from rfl).trans (optVal (zc.dep 8 98 (by kernel_rfl)) rfl zβ)) (by have zz := zβ; simp only [Bool.and_eq_true, Bool.or_eq_true, Bool.true_and, Bool.not_eq_true', Bool.or_eq_false_iff, Bool.and_eq_false_iff, beq_eq_false_iff_ne, ne_eq, beq_iff_eq, decide_eq_true_eq, decide_eq_false_iff_not, bne_iff_ne] at zz; omega) ⟨_, rfl, Below.refl _ _, optDef zβ rfl⟩
          refine ⟨⟨(true && (decide ((((k : Nat) : Int) : Int) < (((l.length : Nat) : Int) : Int)))), .yes (c := (decide ((((k : Nat) : Int) : Int) < (((l.length : Nat) : Int) : Int)))) (d := true) rfl (fun v w h => h), fun h w => optUndef h, fun zβ za zw zc => ?_⟩, ?_⟩
          · exact fld_35_2 rfl ((show za.eval (.tmp 99) = za.tmps.getD 99 undef from rfl).trans (optVal (zc.dep 9 99 (by kernel_rfl)) rfl zβ)) ⟨_, rfl, Below.refl _ _, optDef zβ rfl⟩
          refine ⟨⟨(true && (decide ((((k : Nat) : Int) : Int) < (((l.length : Nat) : Int) : Int)))), .yes (c := (decide ((((k : Nat) : Int) : Int) < (((l.length : Nat) : Int) : Int)))) (d := true) rfl (fun v w h => h), fun h w => optUndef h, fun zβ za zw zc => ?_⟩, ?_⟩
          · exact ld_4 rfl ((show za.eval (.tmp 100) = za.tmps.getD 100 undef from rfl).trans (optVal (zc.dep 10 100 (by kernel_rfl)) rfl zβ)) (bkeeps (bstep hb325 zc.below) _ _ (hc337 k (by have zz := zβ; simp only [Bool.and_eq_true, Bool.or_eq_true, Bool.true_and, Bool.not_eq_true', Bool.or_eq_false_iff, Bool.and_eq_false_iff, beq_eq_false_iff_ne, ne_eq, beq_iff_eq, decide_eq_true_eq, decide_eq_false_iff_not, bne_iff_ne] at zz; omega)).2.2) ⟨_, rfl, Below.refl _ _, optDef zβ rfl⟩
          refine ⟨⟨(true && (decide ((((k : Nat) : Int) : Int) < (((l.length : Nat) : Int) : Int)))), .yes (c := (decide ((((k : Nat) : Int) : Int) < (((l.length : Nat) : Int) : Int)))) (d := true) rfl (fun v w h => h), fun h w => optUndef h, fun zβ za zw zc => ?_⟩, ?_⟩
          · exact ld_4 rfl (zc.kn.ev rfl) (bkeeps zc.below _ _ ((hB329.cell 0).trans rfl)) ⟨_, rfl, Below.refl _ _, optDef zβ rfl⟩
          refine ⟨⟨(true && (decide ((((k : Nat) : Int) : Int) < (((l.length : Nat) : Int) : Int)))), .yes (c := (decide ((((k : Nat) : Int) : Int) < (((l.length : Nat) : Int) : Int)))) (d := true) rfl (fun v w h => h), fun h w => optUndef h, fun zβ za zw zc => ?_⟩, ?_⟩
          · exact neq_4 rfl ((show za.eval (.tmp 101) = za.tmps.getD 101 undef from rfl).trans (optVal (zc.dep 11 101 (by kernel_rfl)) rfl zβ)) ((show za.eval (.tmp 102) = za.tmps.getD 102 undef from rfl).trans (optVal (zc.dep 12 102 (by kernel_rfl)) rfl zβ)) ⟨_, rfl, Below.refl _ _, optDef zβ rfl⟩
          refine ⟨⟨true, .none rfl, fun h w => optUndef h, fun zβ za zw zc => ?_⟩, ?_⟩
          · exact wp_and rfl ((show za.eval (.tmp 95) = za.tmps.getD 95 undef from rfl).trans (optVal (zc.dep 5 95 (by kernel_rfl)) rfl rfl)) (fun hp => ((show za.eval (.tmp 103) = za.tmps.getD 103 undef from rfl).trans (optVal (zc.dep 13 103 (by kernel_rfl)) rfl (bMk zβ hp)))) ⟨_, rfl, Below.refl _ _, optDef zβ rfl⟩
          exact trivial
        · intro za w338 zh hb339 zu
          have zh := zh.cons (d := 104) (v := .bool (((decide ((((k : Nat) : Int) : Int) < (((l.length : Nat) : Int) : Int))) && ((sget l k).pred != p)))) (optVal (zu 14 104 (by kernel_rfl)) rfl rfl)
          clear zu
          refine (show WE _ [(0, .agg #[.slice a0 l.length c]), (1, .agg #[.string q.name, .int .i64 q.ar, .bool q.pred]), (2, .bool p), (3, .int .i64 lv), (4, .pointer (some ⟨g2, 0, none⟩)), (5, .pointer (some ⟨g9, 0, none⟩)), (6, .pointer (some ⟨g17, 0, none⟩)), (7, .pointer (some ⟨g27, 0, none⟩)), (8, .pointer (some ⟨g39, 0, none⟩)), (9, .int .i64 ((max (syAt q l 0) 0))), (10, .bool ((decide ((0 : Int) ≤ syAt q l 0)))), (11, .int .i64 ((syAt q l 0))), (12, .pointer (some ⟨g66, 0, none⟩)), (13, .pointer (some ⟨g83, 0, none⟩)), (14, .func (.func 24) #[] #[.pointer (some ⟨gl, 0, none⟩), .pointer (some ⟨gp, 0, none⟩)]), (18, .bool false), (38, .bool ((((decide ((0 : Int) ≤ syAt q l 0)) != (decide ((0 : Int) ≤ ((syAt q l 0) : Int)))) || (((max (syAt q l 0) 0) : Int) != ((max ((syAt q l 0)) 0) : Int))))), (43, .bool false), (44, .func (.func 24) #[] #[.pointer (some ⟨gl, 0, none⟩), .pointer (some ⟨gp, 0, none⟩)]), (104, .bool (((decide ((((k : Nat) : Int) : Int) < (((l.length : Nat) : Int) : Int))) && ((sget l k).pred != p))))] w338 _ .normal from ?_) za (zh.sub ⟨rfl, rfl, rfl, rfl, rfl, rfl, rfl, rfl, rfl, rfl, rfl, rfl, rfl, rfl, rfl, rfl, rfl, rfl, rfl, rfl, trivial⟩)
          refine WE.next ?_
          refine WC.cond rfl (fun h340 => ?_) (fun h340 => ?_)
          · have h340 : ((((k : Nat) : Int) : Int) < (((l.length : Nat) : Int) : Int)) ∧ ((sget l k).pred ≠ p) := by simpa using h340
            refine WC.skip ?_
            refine WE.next ?_
            refine WC.block ?_
            refine WC.region ?_
            have hB341 := hB332.below hb339
            refine WL.val (.int .i64 (((k : Nat) : Int))) rfl rfl rfl (fun za zC zh zk => ld_3 rfl (zh.ev rfl) ((hB341.cell 0).trans rfl) zk) ?_
            refine WL.val (.int .i64 ((((k + 1) : Nat) : Int))) rfl rfl rfl (fun za zC zh zk => addb_3 rfl (zh.ev rfl) (zh.ev rfl) (wrap_eq (by omega) (by omega) (by omega)) zk) ?_
            refine WL.step (post := fun _ w' => Upd g66 w338 w' ∧ Blk w' g66 3 #[.int .i64 ((((k + 1) : Nat) : Int))]) rfl rfl rfl (fun za zC zh zk => st_3 rfl (zh.ev rfl) (zh.ev rfl) hB341 (by first | decide | simp) (fun v => zk v _ ⟨Upd.at_ _ _ _ _, hB341.set_ 0 _⟩)) ?_
            rintro v345 w342 ⟨hu343, hB344⟩
            have hb346 : Below w.heap.size w w338 := (bstep hb325 hb339)
            have hb347 := upd_below hb346 hu343 (by omega)
            have hB348 := hB326.below hb339
            have hB349 := upd_blk hB348 hu343 (by omega)
            have hB350 := hB327.below hb339
            have hB351 := upd_blk hB350 hu343 (by omega)
            have hB352 := hB328.below hb339
            have hB353 := upd_blk hB352 hu343 (by omega)
            have hB354 := hB329.below hb339
            have hB355 := upd_blk hB354 hu343 (by omega)
            have hB356 := hB330.below hb339
            have hB357 := upd_blk hB356 hu343 (by omega)
            have hB358 := hB331.below hb339
            have hB359 := upd_blk hB358 hu343 (by omega)
            have ho360 := ho333.below hb339
            have ho361 := ho360.upd hu343 (by omega)
            refine WL.nil (WE.sub (K' := [(0, .agg #[.slice a0 l.length c]), (1, .agg #[.string q.name, .int .i64 q.ar, .bool q.pred]), (2, .bool p), (3, .int .i64 lv), (4, .pointer (some ⟨g2, 0, none⟩)), (5, .pointer (some ⟨g9, 0, none⟩)), (6, .pointer (some ⟨g17, 0, none⟩)), (7, .pointer (some ⟨g27, 0, none⟩)), (8, .pointer (some ⟨g39, 0, none⟩)), (9, .int .i64 ((max (syAt q l 0) 0))), (10, .bool ((decide ((0 : Int) ≤ syAt q l 0)))), (11, .int .i64 ((syAt q l 0))), (12, .pointer (some ⟨g66, 0, none⟩)), (13, .pointer (some ⟨g83, 0, none⟩)), (14, .func (.func 24) #[] #[.pointer (some ⟨gl, 0, none⟩), .pointer (some ⟨gp, 0, none⟩)]), (18, .bool false), (38, .bool ((((decide ((0 : Int) ≤ syAt q l 0)) != (decide ((0 : Int) ≤ ((syAt q l 0) : Int)))) || (((max (syAt q l 0) 0) : Int) != ((max ((syAt q l 0)) 0) : Int))))), (43, .bool false), (44, .func (.func 24) #[] #[.pointer (some ⟨gl, 0, none⟩), .pointer (some ⟨gp, 0, none⟩)]), (104, .bool (((decide ((((k : Nat) : Int) : Int) < (((l.length : Nat) : Int) : Int))) && ((sget l k).pred != p))))]) ⟨rfl, rfl, rfl, rfl, rfl, rfl, rfl, rfl, rfl, rfl, rfl, rfl, rfl, rfl, rfl, rfl, rfl, rfl, rfl, rfl, trivial⟩ ?_)
            refine WE.blockNormal ?_
            refine WE.round (k + 1) ⟨rfl, rfl, rfl, rfl, rfl, rfl, rfl, rfl, rfl, rfl, rfl, rfl, rfl, rfl, rfl, rfl, rfl, rfl, rfl, trivial⟩ ?_ ?_
            · exact ⟨by omega, by omega, kind_same (by omega) h340.2 hke, hb347, hB349, hB351, hB353, hB355, hB357, hB359, hB344, ho361⟩
            · omega
          · have h340 : ¬ (((((k : Nat) : Int) : Int) < (((l.length : Nat) : Int) : Int)) ∧ ((sget l k).pred ≠ p)) := by simpa using h340
            have hst : k < l.length → (sget l k).pred = p := fun hkl => Classical.byContradiction fun hne => h340 ⟨by omega, hne⟩
            refine WC.exit ?_
            refine WE.thenExit ?_
            refine WE.thenExit ?_
            refine WE.blockIs rfl ?_
            refine WE.next ?_
            refine WC.seq ?_
            refine WC.region ?_
            have hB362 := hB332.below hb339
            refine WL.val (.int .i64 (((k : Nat) : Int))) rfl rfl rfl (fun za zC zh zk => ld_3 rfl (zh.ev rfl) ((hB362.cell 0).trans rfl) zk) ?_
            refine WL.val (.pointer (some ⟨g2, 0, none⟩)) rfl rfl rfl (fun za zC zh zk => fld_24_0 rfl (zh.ev rfl) zk) ?_
            have hB363 := hB327.below hb339
            refine WL.val (.slice a0 l.length c) rfl rfl rfl (fun za zC zh zk => ld_22 rfl (zh.ev rfl) ((hB363.cell 0).trans rfl) zk) ?_
            refine WL.val (.int .i64 (((l.length : Nat) : Int))) rfl rfl rfl (fun za zC zh zk => len_22 rfl (zh.ev rfl) zk) ?_
            refine WL.val (.bool (((((k : Nat) : Int) : Int) == (((l.length : Nat) : Int) : Int)))) rfl rfl rfl (fun za zC zh zk => eql_3 rfl (zh.ev rfl) (zh.ev rfl) zk) ?_
            have hB364 := hB331.below hb339
            refine WL.step (post := fun _ w' => Upd g39 w338 w' ∧ Blk w' g39 4 #[.bool (((((k : Nat) : Int) : Int) == (((l.length : Nat) : Int) : Int)))]) rfl rfl rfl (fun za zC zh zk => st_4 rfl (zh.ev rfl) (zh.ev rfl) hB364 (by first | decide | simp) (fun v => zk v _ ⟨Upd.at_ _ _ _ _, hB364.set_ 0 _⟩)) ?_
            rintro v368 w365 ⟨hu366, hB367⟩
            have hb369 : Below w.heap.size w w338 := (bstep hb325 hb339)
            have hb370 := upd_below hb369 hu366 (by omega)
            have hB371 := hB326.below hb339
            have hB372 := upd_blk hB371 hu366 (by omega)
            have hB373 := upd_blk hB363 hu366 (by omega)
            have hB374 := hB328.below hb339
            have hB375 := upd_blk hB374 hu366 (by omega)
            have hB376 := hB329.below hb339
            have hB377 := upd_blk hB376 hu366 (by omega)
            have hB378 := hB330.below hb339
            have hB379 := upd_blk hB378 hu366 (by omega)
            have hB380 := upd_blk hB362 hu366 (by omega)
            have ho381 := ho333.below hb339
            have ho382 := ho381.upd hu366 (by omega)
            refine WL.nil (WE.sub (K' := [(0, .agg #[.slice a0 l.length c]), (1, .agg #[.string q.name, .int .i64 q.ar, .bool q.pred]), (2, .bool p), (3, .int .i64 lv), (4, .pointer (some ⟨g2, 0, none⟩)), (5, .pointer (some ⟨g9, 0, none⟩)), (6, .pointer (some ⟨g17, 0, none⟩)), (7, .pointer (some ⟨g27, 0, none⟩)), (8, .pointer (some ⟨g39, 0, none⟩)), (9, .int .i64 ((max (syAt q l 0) 0))), (10, .bool ((decide ((0 : Int) ≤ syAt q l 0)))), (11, .int .i64 ((syAt q l 0))), (12, .pointer (some ⟨g66, 0, none⟩)), (13, .pointer (some ⟨g83, 0, none⟩)), (14, .func (.func 24) #[] #[.pointer (some ⟨gl, 0, none⟩), .pointer (some ⟨gp, 0, none⟩)]), (18, .bool false), (38, .bool ((((decide ((0 : Int) ≤ syAt q l 0)) != (decide ((0 : Int) ≤ ((syAt q l 0) : Int)))) || (((max (syAt q l 0) 0) : Int) != ((max ((syAt q l 0)) 0) : Int))))), (43, .bool false), (44, .func (.func 24) #[] #[.pointer (some ⟨gl, 0, none⟩), .pointer (some ⟨gp, 0, none⟩)]), (104, .bool (((decide ((((k : Nat) : Int) : Int) < (((l.length : Nat) : Int) : Int))) && ((sget l k).pred != p))))]) ⟨rfl, rfl, rfl, rfl, rfl, rfl, rfl, rfl, rfl, rfl, rfl, rfl, rfl, rfl, rfl, rfl, rfl, rfl, rfl, rfl, trivial⟩ ?_)
            refine WE.next ?_
            refine WC.ret ?_
            obtain ⟨w383, hs384, hc385, hk386⟩ := shut_all [D309] w365 (by intro D hD; simp only [List.mem_cons, List.not_mem_nil, or_false] at hD; rcases hD with rfl <;> assumption) (by simp <;> omega)
            have hB387 : Blk w383 g83 3 #[.int .i64 (((xs310.length : Nat) : Int))] := hk386 _ _ hB372 rfl
            have hB388 : Blk w383 g2 24 #[.slice a0 l.length c] := hk386 _ _ hB373 rfl
            have hB389 : Blk w383 g9 35 #[.string q.name, .int .i64 q.ar, .bool q.pred] := hk386 _ _ hB375 rfl
            have hB390 : Blk w383 g17 4 #[.bool p] := hk386 _ _ hB377 rfl
            have hB391 : Blk w383 g27 3 #[.int .i64 lv] := hk386 _ _ hB379 rfl
            have hB392 : Blk w383 g39 4 #[.bool (((((k : Nat) : Int) : Int) == (((l.length : Nat) : Int) : Int)))] := hk386 _ _ hB367 rfl
            have hB393 : Blk w383 g66 3 #[.int .i64 (((k : Nat) : Int))] := hk386 _ _ hB380 rfl
            have hb394 := chg_below hb370 hc385 (fun b hb => by simp only [List.mem_cons, List.not_mem_nil, or_false]; omega)
            refine WE.retAnyS (v := .bool (((((k : Nat) : Int) : Int) == (((l.length : Nat) : Int) : Int)))) hs384 (fun za zh => ?_) ?_
            · have z0 : za.tmps[8]?.getD undef = .pointer (some ⟨g39, 0, none⟩) := by rw [← Array.getD_eq_getD_getElem?]; exact zh.knows 8 _ rfl
              have y0 : w383.cell? ⟨g39, 0, none⟩ = some (.bool (((((k : Nat) : Int) : Int) == (((l.length : Nat) : Int) : Int)))) := ((hB392.cell 0).trans rfl)
              simp [results, Try.results4, z0, y0, go_sem]
            · exact ⟨_, rfl, congrArg Value.bool (by have z := kind_done hk (hke.trans (hpre.symm.trans hS313)) hst; simp [z]), hb394⟩
    · rintro D395 zc396 pre397 w398 hD399 hS400 hI401 hw402
      obtain ⟨rfl, b, hB8, hb0, hx⟩ := hI401
      obtain rfl : b = true := by cases b; exact absurd hS400 (hx rfl); rfl
      refine WC.ret ?_
      refine WE.blockRet ?_
      refine WE.thenRet ?_
      obtain ⟨w403, hs404, hc405, hk406⟩ := shut_all [D395] w398 (by intro D hD; simp only [List.mem_cons, List.not_mem_nil, or_false] at hD; rcases hD with rfl <;> assumption) (by simp <;> omega)
      have hB407 : Blk w403 g39 4 #[.bool true] := hk406 _ _ hB8 rfl
      have hb408 := chg_below hb0 hc405 (fun b hb => by simp only [List.mem_cons, List.not_mem_nil, or_false]; omega)
      refine WE.retAnyS (v := .bool true) hs404 (fun za zh => ?_) ?_
      · have z0 : za.tmps[8]?.getD undef = .pointer (some ⟨g39, 0, none⟩) := by rw [← Array.getD_eq_getD_getElem?]; exact zh.knows 8 _ rfl
        have y0 : w403.cell? ⟨g39, 0, none⟩ = some (.bool true) := ((hB407.cell 0).trans rfl)
        simp [results, Try.results4, z0, y0, go_sem]
      · exact ⟨_, rfl, rfl, hb408⟩

end Go.Proofs.Ytbnjppmmhhjjbaa
