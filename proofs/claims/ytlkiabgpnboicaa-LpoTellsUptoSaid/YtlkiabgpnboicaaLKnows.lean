/- What an order knows, whether a top stands in a term: the walks. -/
import Derived.Test.YtlkiabgpnboicaaTRows
import Derived.Test.YtlkiabgpnboicaaKOps
import Derived.Test.YtlkiabgpnboicaaLpoPlain
namespace Go.Proofs.Ytlkiabgpnboicaa
open Go.RowKit Go

theorem all_take_t (p : T → Bool) (l : List T) (k : Nat) (h : k < l.length) : (l.take (k + 1)).all p = ((l.take k).all p && p (tget l k)) := by
  rw [List.take_succ_eq_append_getElem h, List.all_append, tget_lt h]; simp
theorem any_take_t (p : T → Bool) (l : List T) (k : Nat) (h : k < l.length) : (l.take (k + 1)).any p = ((l.take k).any p || p (tget l k)) := by
  rw [List.take_succ_eq_append_getElem h, List.any_append, tget_lt h]; simp
theorem lk1 {o : Od} {f : Int} {l : List T} (h : f < 0) : (((l.length : Nat) : Int) == (0 : Int)) = o.lknows (.mk f l) := by
  rw [Od.lknows, if_pos h]; cases l <;> simp; omega
theorem lk2 {o : Od} {f : Int} {l : List T} (h : ¬ f < 0) (h' : ((o.prec.length : Nat) : Int) ≤ f) : false = o.lknows (.mk f l) := by
  rw [Od.lknows, if_neg h]; simp; omega
theorem lk3 {o : Od} {f : Int} {l : List T} {k : Nat} (h : ¬ f < 0) (hk : k < l.length) (hx : ¬ o.lknows (tget l k) = true) : false = o.lknows (.mk f l) := by
  rw [Od.lknows, if_neg h, Od.lknowsL_all]
  have : l.all o.lknows = false := by rw [List.all_eq_false]; exact ⟨tget l k, tget_mem hk, hx⟩
  rw [this]; simp
theorem lk4 {o : Od} {f : Int} {l : List T} {k : Nat} (h : ¬ f < 0) (h' : ¬ ((o.prec.length : Nat) : Int) ≤ f) (hall : (l.take k).all o.lknows = true) (hk : ¬ k < l.length) : true = o.lknows (.mk f l) := by
  rw [Od.lknows, if_neg h, Od.lknowsL_all]
  rw [List.take_of_length_le (by omega)] at hall
  rw [hall]; simp; omega
theorem hs1 {f : Int} {l : List T} : true = T.has f (.mk f l) := by rw [T.has]; simp
theorem hs2 {f g : Int} {l : List T} {k : Nat} (hk : k < l.length) (hx : T.has f (tget l k) = true) : true = T.has f (.mk g l) := by
  rw [T.has, T.hasL_any, List.any_eq_true.2 ⟨_, tget_mem hk, hx⟩]; simp
theorem hs3 {f g : Int} {l : List T} {k : Nat} (hg : ¬ g = f) (h : (l.take k).any (T.has f) = false) (hk : ¬ k < l.length) : false = T.has f (.mk g l) := by
  rw [List.take_of_length_le (by omega)] at h
  rw [T.has, T.hasL_any, h]; simp [hg]

set_option maxRecDepth 100000 in
theorem rlknows_any (o : Od) (t : T) : ∀ (w : World) (vo v : Value), IsOd w o vo → IsT w t v →
    Calls Try.prog 23 #[vo, v] w (Ret fun v' w' => v' = .bool (o.lknows t) ∧ Below w.heap.size w w') := by
  induction t using T.ind with
  | h f l ih =>
  intro w vo v ho hv
  have ho0 := ho
  have hv0 := hv
  obtain ⟨a1, a2, c1, c2, rfl, n1, n2, n3, n4, p1, p2, _⟩ := ho
  obtain ⟨hf, a, c, rfl, hc, hm, hl⟩ := hv
  unfold maxLen at hm n2 n4
  have hf1 := hf.1
  have hf2 := hf.2
  refine Calls.walk (l := [.agg #[.bool o.lpo, .slice a1 o.prec.length c1, .slice a2 o.weights.length c2, .int .i64 o.var], .agg #[.int .i64 f, .slice a l.length c]]) Try.func23 rfl (by kernel_rfl) ?_
  refine WC.sub (K' := [(0, .agg #[.bool o.lpo, .slice a1 o.prec.length c1, .slice a2 o.weights.length c2, .int .i64 o.var]), (1, .agg #[.int .i64 f, .slice a l.length c])]) ⟨rfl, rfl, trivial⟩ ?_
  refine WC.seq ?_
  refine WC.region ?_
  refine WL.step (post := NewBlk w 24 #[.bool o.lpo, .slice a1 o.prec.length c1, .slice a2 o.weights.length c2, .int .i64 o.var]) rfl rfl rfl (fun za zC zh zk => box_24 rfl (zh.ev rfl) (zk _ _ (newBlk _ _ _))) ?_
  rintro _ w1 ⟨g2, rfl, hg3, hB4, hb5, hz6⟩
  have hl7 : w.heap.size ≤ g2 := by omega
  refine WL.step (post := NewBlk w1 27 #[.int .i64 f, .slice a l.length c]) rfl rfl rfl (fun za zC zh zk => box_27 rfl (zh.ev rfl) (zk _ _ (newBlk _ _ _))) ?_
  rintro _ w8 ⟨g9, rfl, hg10, hB11, hb12, hz13⟩
  have hl14 : g2 < g9 := by have z1 := hB4.lt; omega
  have hl15 : w.heap.size ≤ g9 := by have z2 := (hb5).size; omega
  refine WL.val (.bool false) rfl rfl rfl (fun za zC zh zk => wp_assign rfl (zh.ev rfl) zk) ?_
  refine WL.nil (WE.sub (K' := [(0, .agg #[.bool o.lpo, .slice a1 o.prec.length c1, .slice a2 o.weights.length c2, .int .i64 o.var]), (1, .agg #[.int .i64 f, .slice a l.length c]), (2, .pointer (some ⟨g2, 0, none⟩)), (3, .pointer (some ⟨g9, 0, none⟩)), (4, .bool false)]) ⟨rfl, rfl, rfl, rfl, rfl, trivial⟩ ?_)
  refine WE.next ?_
  refine WC.seq ?_
  refine WC.seq ?_
  refine WC.region ?_
  refine WL.val (.pointer (some ⟨g9, 0, none⟩)) rfl rfl rfl (fun za zC zh zk => fld_27_0 rfl (zh.ev rfl) zk) ?_
  refine WL.val (.int .i64 f) rfl rfl rfl (fun za zC zh zk => ld_3 rfl (zh.ev rfl) ((hB11.cell 0).trans rfl) zk) ?_
  refine WL.val (.bool ((decide ((f : Int) < (0 : Int))))) rfl rfl rfl (fun za zC zh zk => lss_3 rfl (zh.ev rfl) (zh.ev rfl) zk) ?_
  refine WL.nil (WE.sub (K' := [(0, .agg #[.bool o.lpo, .slice a1 o.prec.length c1, .slice a2 o.weights.length c2, .int .i64 o.var]), (1, .agg #[.int .i64 f, .slice a l.length c]), (2, .pointer (some ⟨g2, 0, none⟩)), (3, .pointer (some ⟨g9, 0, none⟩)), (4, .bool false), (8, .bool ((decide ((f : Int) < (0 : Int)))))]) ⟨rfl, rfl, rfl, rfl, rfl, rfl, trivial⟩ ?_)
  refine WE.next ?_
  refine WC.cond rfl (fun h16 => ?_) (fun h16 => ?_)
  · have h16 : (f : Int) < (0 : Int) := by simpa using h16
    refine WC.seq ?_
    refine WC.region ?_
    refine WL.val (.pointer (some ⟨g9, 1, none⟩)) rfl rfl rfl (fun za zC zh zk => fld_27_1 rfl (zh.ev rfl) zk) ?_
    refine WL.val (.slice a l.length c) rfl rfl rfl (fun za zC zh zk => ld_25 rfl (zh.ev rfl) ((hB11.cell 1).trans rfl) zk) ?_
    refine WL.val (.int .i64 (((l.length : Nat) : Int))) rfl rfl rfl (fun za zC zh zk => len_25 rfl (zh.ev rfl) zk) ?_
    refine WL.val (.bool (((((l.length : Nat) : Int) : Int) == (0 : Int)))) rfl rfl rfl (fun za zC zh zk => eql_3 rfl (zh.ev rfl) (zh.ev rfl) zk) ?_
    refine WL.val (.bool (((((l.length : Nat) : Int) : Int) == (0 : Int)))) rfl rfl rfl (fun za zC zh zk => wp_assign rfl (zh.ev rfl) zk) ?_
    refine WL.nil (WE.sub (K' := [(0, .agg #[.bool o.lpo, .slice a1 o.prec.length c1, .slice a2 o.weights.length c2, .int .i64 o.var]), (1, .agg #[.int .i64 f, .slice a l.length c]), (2, .pointer (some ⟨g2, 0, none⟩)), (3, .pointer (some ⟨g9, 0, none⟩)), (4, .bool (((((l.length : Nat) : Int) : Int) == (0 : Int)))), (8, .bool ((decide ((f : Int) < (0 : Int)))))]) ⟨rfl, rfl, rfl, rfl, rfl, rfl, trivial⟩ ?_)
    refine WE.next ?_
    refine WC.ret ?_
    refine WE.thenRet ?_
    refine WE.ret1 rfl rfl ?_
    have hb17 : Below w.heap.size w w8 := (bstep hb5 hb12)
    exact ⟨_, rfl, congrArg Value.bool (by first | exact lk1 (by omega) | exact lk2 (by omega) (by omega) | exact lk3 (k := k) (by omega) (by omega) (by assumption) | exact lk4 (k := k) (by omega) (by omega) hall (by omega)), hb17⟩
  · have h16 : ¬ ((f : Int) < (0 : Int)) := by simpa using h16
    refine WC.skip ?_
    refine WE.next ?_
    refine WC.seq ?_
    refine WC.seq ?_
    refine WC.region ?_
    refine WL.val (.pointer (some ⟨g9, 0, none⟩)) rfl rfl rfl (fun za zC zh zk => fld_27_0 rfl (zh.ev rfl) zk) ?_
    refine WL.val (.int .i64 f) rfl rfl rfl (fun za zC zh zk => ld_3 rfl (zh.ev rfl) ((hB11.cell 0).trans rfl) zk) ?_
    refine WL.val (.pointer (some ⟨g2, 1, none⟩)) rfl rfl rfl (fun za zC zh zk => fld_24_1 rfl (zh.ev rfl) zk) ?_
    have hB18 := hB4.below hb12
    refine WL.val (.slice a1 o.prec.length c1) rfl rfl rfl (fun za zC zh zk => ld_22 rfl (zh.ev rfl) ((hB18.cell 1).trans rfl) zk) ?_
    refine WL.val (.int .i64 (((o.prec.length : Nat) : Int))) rfl rfl rfl (fun za zC zh zk => len_22 rfl (zh.ev rfl) zk) ?_
    refine WL.val (.bool ((decide ((((o.prec.length : Nat) : Int) : Int) ≤ (f : Int))))) rfl rfl rfl (fun za zC zh zk => geq_3 rfl (zh.ev rfl) (zh.ev rfl) zk) ?_
    refine WL.nil (WE.sub (K' := [(0, .agg #[.bool o.lpo, .slice a1 o.prec.length c1, .slice a2 o.weights.length c2, .int .i64 o.var]), (1, .agg #[.int .i64 f, .slice a l.length c]), (2, .pointer (some ⟨g2, 0, none⟩)), (3, .pointer (some ⟨g9, 0, none⟩)), (4, .bool false), (8, .bool ((decide ((f : Int) < (0 : Int))))), (18, .bool ((decide ((((o.prec.length : Nat) : Int) : Int) ≤ (f : Int)))))]) ⟨rfl, rfl, rfl, rfl, rfl, rfl, rfl, trivial⟩ ?_)
    refine WE.next ?_
    refine WC.cond rfl (fun h19 => ?_) (fun h19 => ?_)
    · have h19 : (((o.prec.length : Nat) : Int) : Int) ≤ (f : Int) := by simpa using h19
      refine WC.seq ?_
      refine WC.region ?_
      refine WL.val (.bool false) rfl rfl rfl (fun za zC zh zk => wp_assign rfl (zh.ev rfl) zk) ?_
      refine WL.nil (WE.sub (K' := [(0, .agg #[.bool o.lpo, .slice a1 o.prec.length c1, .slice a2 o.weights.length c2, .int .i64 o.var]), (1, .agg #[.int .i64 f, .slice a l.length c]), (2, .pointer (some ⟨g2, 0, none⟩)), (3, .pointer (some ⟨g9, 0, none⟩)), (4, .bool false), (8, .bool ((decide ((f : Int) < (0 : Int))))), (18, .bool ((decide ((((o.prec.length : Nat) : Int) : Int) ≤ (f : Int)))))]) ⟨rfl, rfl, rfl, rfl, rfl, rfl, rfl, trivial⟩ ?_)
      refine WE.next ?_
      refine WC.ret ?_
      refine WE.thenRet ?_
      refine WE.ret1 rfl rfl ?_
      have hb20 : Below w.heap.size w w8 := (bstep hb5 hb12)
      exact ⟨_, rfl, congrArg Value.bool (by first | exact lk1 (by omega) | exact lk2 (by omega) (by omega) | exact lk3 (k := k) (by omega) (by omega) (by assumption) | exact lk4 (k := k) (by omega) (by omega) hall (by omega)), hb20⟩
    · have h19 : ¬ ((((o.prec.length : Nat) : Int) : Int) ≤ (f : Int)) := by simpa using h19
      refine WC.skip ?_
      refine WE.next ?_
      refine WC.seq ?_
      refine WC.seq ?_
      refine WC.region ?_
      refine WL.val (.int .i64 0) rfl rfl rfl (fun za zC zh zk => wp_assign rfl (zh.ev rfl) zk) ?_
      refine WL.nil (WE.sub (K' := [(0, .agg #[.bool o.lpo, .slice a1 o.prec.length c1, .slice a2 o.weights.length c2, .int .i64 o.var]), (1, .agg #[.int .i64 f, .slice a l.length c]), (2, .pointer (some ⟨g2, 0, none⟩)), (3, .pointer (some ⟨g9, 0, none⟩)), (4, .bool false), (5, .int .i64 0), (8, .bool ((decide ((f : Int) < (0 : Int))))), (18, .bool ((decide ((((o.prec.length : Nat) : Int) : Int) ≤ (f : Int)))))]) ⟨rfl, rfl, rfl, rfl, rfl, rfl, rfl, rfl, trivial⟩ ?_)
      refine WE.next ?_
      refine WC.block ?_
      refine WC.loop (X := Nat) (fun k => l.length - k) (fun k => [(0, .agg #[.bool o.lpo, .slice a1 o.prec.length c1, .slice a2 o.weights.length c2, .int .i64 o.var]), (1, .agg #[.int .i64 f, .slice a l.length c]), (2, .pointer (some ⟨g2, 0, none⟩)), (3, .pointer (some ⟨g9, 0, none⟩)), (5, .int .i64 (((k : Nat) : Int))), (8, .bool ((decide ((f : Int) < (0 : Int))))), (18, .bool ((decide ((((o.prec.length : Nat) : Int) : Int) ≤ (f : Int)))))]) (fun k w21 => k ≤ l.length ∧ (l.take k).all o.lknows = true ∧ Below w.heap.size w w21 ∧ Blk w21 g2 24 #[.bool o.lpo, .slice a1 o.prec.length c1, .slice a2 o.weights.length c2, .int .i64 o.var] ∧ Blk w21 g9 27 #[.int .i64 f, .slice a l.length c]) 0 ⟨rfl, rfl, rfl, rfl, rfl, rfl, rfl, trivial⟩ ?_ ?_
      · have hb22 : Below w.heap.size w w8 := (bstep hb5 hb12)
        exact ⟨Nat.zero_le _, rfl, hb22, hB18, hB11⟩
      · rintro k w21 ⟨hk, hall, hb23, hB24, hB25⟩
        refine WC.seq ?_
        refine WC.seq ?_
        refine WC.region ?_
        refine WL.val (.int .i64 (((k : Nat) : Int))) rfl rfl rfl (fun za zC zh zk => wp_move rfl (zh.ev rfl) zk) ?_
        refine WL.val (.pointer (some ⟨g9, 1, none⟩)) rfl rfl rfl (fun za zC zh zk => fld_27_1 rfl (zh.ev rfl) zk) ?_
        refine WL.val (.slice a l.length c) rfl rfl rfl (fun za zC zh zk => ld_25 rfl (zh.ev rfl) ((hB25.cell 1).trans rfl) zk) ?_
        refine WL.val (.int .i64 (((l.length : Nat) : Int))) rfl rfl rfl (fun za zC zh zk => len_25 rfl (zh.ev rfl) zk) ?_
        refine WL.val (.bool ((decide ((((k : Nat) : Int) : Int) < (((l.length : Nat) : Int) : Int))))) rfl rfl rfl (fun za zC zh zk => lss_3 rfl (zh.ev rfl) (zh.ev rfl) zk) ?_
        refine WL.nil (WE.sub (K' := [(0, .agg #[.bool o.lpo, .slice a1 o.prec.length c1, .slice a2 o.weights.length c2, .int .i64 o.var]), (1, .agg #[.int .i64 f, .slice a l.length c]), (2, .pointer (some ⟨g2, 0, none⟩)), (3, .pointer (some ⟨g9, 0, none⟩)), (5, .int .i64 (((k : Nat) : Int))), (8, .bool ((decide ((f : Int) < (0 : Int))))), (18, .bool ((decide ((((o.prec.length : Nat) : Int) : Int) ≤ (f : Int))))), (23, .bool ((decide ((((k : Nat) : Int) : Int) < (((l.length : Nat) : Int) : Int)))))]) ⟨rfl, rfl, rfl, rfl, rfl, rfl, rfl, rfl, trivial⟩ ?_)
        refine WE.next ?_
        refine WC.cond rfl (fun h26 => ?_) (fun h26 => ?_)
        · have h26 : (((k : Nat) : Int) : Int) < (((l.length : Nat) : Int) : Int) := by simpa using h26
          refine WC.skip ?_
          refine WE.next ?_
          refine WC.seq ?_
          refine WC.block ?_
          refine WC.seq ?_
          obtain ⟨b27, o28, A29, C30, ha31, hc32⟩ := IsTs.open hl
          refine WC.opt [(true, .val (.agg #[.bool o.lpo, .slice a1 o.prec.length c1, .slice a2 o.weights.length c2, .int .i64 o.var])), (true, .val (.pointer (some ⟨g9, 1, none⟩))), (true, .val (.slice a l.length c)), (true, .val (.int .i64 (((k : Nat) : Int)))), (true, .val (.pointer (some ⟨b27, o28 + k * 2, none⟩))), (true, .val (.agg #[.int .i64 ((tget l k).f), .slice ((A29 k)) ((tget l k).args.length) ((C30 k))])), (true, .val (.bool ((o.lknows (tget l k))))), (true, .val (.bool ((!(o.lknows (tget l k))))))] [(0, .agg #[.bool o.lpo, .slice a1 o.prec.length c1, .slice a2 o.weights.length c2, .int .i64 o.var]), (1, .agg #[.int .i64 f, .slice a l.length c]), (2, .pointer (some ⟨g2, 0, none⟩)), (3, .pointer (some ⟨g9, 0, none⟩)), (5, .int .i64 (((k : Nat) : Int))), (8, .bool ((decide ((f : Int) < (0 : Int))))), (18, .bool ((decide ((((o.prec.length : Nat) : Int) : Int) ≤ (f : Int))))), (23, .bool ((decide ((((k : Nat) : Int) : Int) < (((l.length : Nat) : Int) : Int)))))] ⟨rfl, rfl, rfl, rfl, rfl, rfl, rfl, rfl, trivial⟩ (by kernel_rfl) (by kernel_rfl) (by kernel_rfl) ?_ ?_
          · refine ⟨⟨true, .none rfl, fun h w => optUndef h, fun zβ za zw zc => ?_⟩, ?_⟩
            · exact ld_24 rfl (zc.kn.ev rfl) (bkeeps zc.below _ _ ((hB24.cell 0).trans rfl)) (bkeeps zc.below _ _ ((hB24.cell 1).trans rfl)) (bkeeps zc.below _ _ ((hB24.cell 2).trans rfl)) (bkeeps zc.below _ _ ((hB24.cell 3).trans rfl)) ⟨_, rfl, Below.refl _ _, optDef zβ rfl⟩
            refine ⟨⟨true, .none rfl, fun h w => optUndef h, fun zβ za zw zc => ?_⟩, ?_⟩
            · exact fld_27_1 rfl (zc.kn.ev rfl) ⟨_, rfl, Below.refl _ _, optDef zβ rfl⟩
            refine ⟨⟨true, .none rfl, fun h w => optUndef h, fun zβ za zw zc => ?_⟩, ?_⟩
            · exact ld_25 rfl ((show za.eval (.tmp 27) = za.tmps.getD 27 undef from rfl).trans (optVal (zc.dep 1 27 (by kernel_rfl)) rfl rfl)) (bkeeps zc.below _ _ ((hB25.cell 1).trans rfl)) ⟨_, rfl, Below.refl _ _, optDef zβ rfl⟩
            refine ⟨⟨true, .none rfl, fun h w => optUndef h, fun zβ za zw zc => ?_⟩, ?_⟩
            · exact wp_move rfl (zc.kn.ev rfl) ⟨_, rfl, Below.refl _ _, optDef zβ rfl⟩
            refine ⟨⟨true, .none rfl, fun h w => optUndef h, fun zβ za zw zc => ?_⟩, ?_⟩
            · exact ix_25 (k := k) rfl ((show za.eval (.tmp 28) = za.tmps.getD 28 undef from rfl).trans (optVal (zc.dep 2 28 (by kernel_rfl)) rfl rfl)) (ha31 k (by first | omega | (simp; omega))) ((show za.eval (.tmp 29) = za.tmps.getD 29 undef from rfl).trans (optVal (zc.dep 3 29 (by kernel_rfl)) rfl rfl)) (by first | omega | (simp; omega)) ⟨_, rfl, Below.refl _ _, optDef zβ rfl⟩
            refine ⟨⟨true, .none rfl, fun h w => optUndef h, fun zβ za zw zc => ?_⟩, ?_⟩
            · exact ld_27 rfl ((show za.eval (.tmp 30) = za.tmps.getD 30 undef from rfl).trans (optVal (zc.dep 4 30 (by kernel_rfl)) rfl rfl)) (bkeeps (bstep hb23 zc.below) _ _ (hc32 k (by first | omega | (simp; omega))).1) (bkeeps (bstep hb23 zc.below) _ _ (hc32 k (by first | omega | (simp; omega))).2.1) ⟨_, rfl, Below.refl _ _, optDef zβ rfl⟩
            refine ⟨⟨true, .none rfl, fun h w => optUndef h, fun zβ za zw zc => ?_⟩, ?_⟩
            · exact wp_call (by kernel_rfl) rfl (hv2 ((show za.eval (.tmp 26) = za.tmps.getD 26 undef from rfl).trans (optVal (zc.dep 0 26 (by kernel_rfl)) rfl rfl)) ((show za.eval (.tmp 31) = za.tmps.getD 31 undef from rfl).trans (optVal (zc.dep 5 31 (by kernel_rfl)) rfl rfl))) (ih (tget l k) (tget_mem (by omega)) _ _ _ (ho0.below (bstep hb23 zc.below)) (IsT.below (bstep hb23 zc.below) (hc32 k (by first | omega | (simp; omega))).2.2)) (fun v w' h => ⟨v, rfl, h.2, optDef zβ h.1⟩)
            refine ⟨⟨true, .none rfl, fun h w => optUndef h, fun zβ za zw zc => ?_⟩, ?_⟩
            · exact wp_not rfl ((show za.eval (.tmp 32) = za.tmps.getD 32 undef from rfl).trans (optVal (zc.dep 6 32 (by kernel_rfl)) rfl rfl)) ⟨_, rfl, Below.refl _ _, optDef zβ rfl⟩
            exact trivial
          · intro za w33 zh hb34 zu
            have zh := zh.cons (d := 33) (v := .bool ((!(o.lknows (tget l k))))) (optVal (zu 7 33 (by kernel_rfl)) rfl rfl)
            clear zu
            refine (show WE _ [(0, .agg #[.bool o.lpo, .slice a1 o.prec.length c1, .slice a2 o.weights.length c2, .int .i64 o.var]), (1, .agg #[.int .i64 f, .slice a l.length c]), (2, .pointer (some ⟨g2, 0, none⟩)), (3, .pointer (some ⟨g9, 0, none⟩)), (5, .int .i64 (((k : Nat) : Int))), (8, .bool ((decide ((f : Int) < (0 : Int))))), (18, .bool ((decide ((((o.prec.length : Nat) : Int) : Int) ≤ (f : Int))))), (23, .bool ((decide ((((k : Nat) : Int) : Int) < (((l.length : Nat) : Int) : Int))))), (33, .bool ((!(o.lknows (tget l k)))))] w33 _ .normal from ?_) za (zh.sub ⟨rfl, rfl, rfl, rfl, rfl, rfl, rfl, rfl, rfl, trivial⟩)
            refine WE.next ?_
            refine WC.cond rfl (fun h35 => ?_) (fun h35 => ?_)
            · have h35 : ¬ ((o.lknows (tget l k)) = true) := by simpa using h35
              refine WC.seq ?_
              refine WC.region ?_
              refine WL.val (.bool false) rfl rfl rfl (fun za zC zh zk => wp_assign rfl (zh.ev rfl) zk) ?_
              refine WL.nil (WE.sub (K' := [(0, .agg #[.bool o.lpo, .slice a1 o.prec.length c1, .slice a2 o.weights.length c2, .int .i64 o.var]), (1, .agg #[.int .i64 f, .slice a l.length c]), (2, .pointer (some ⟨g2, 0, none⟩)), (3, .pointer (some ⟨g9, 0, none⟩)), (4, .bool false), (5, .int .i64 (((k : Nat) : Int))), (8, .bool ((decide ((f : Int) < (0 : Int))))), (18, .bool ((decide ((((o.prec.length : Nat) : Int) : Int) ≤ (f : Int))))), (23, .bool ((decide ((((k : Nat) : Int) : Int) < (((l.length : Nat) : Int) : Int))))), (33, .bool ((!(o.lknows (tget l k)))))]) ⟨rfl, rfl, rfl, rfl, rfl, rfl, rfl, rfl, rfl, rfl, trivial⟩ ?_)
              refine WE.next ?_
              refine WC.ret ?_
              refine WE.blockRet ?_
              refine WE.thenRet ?_
              refine WE.thenRet ?_
              refine WE.blockRet ?_
              refine WE.thenRet ?_
              refine WE.ret1 rfl rfl ?_
              have hb36 : Below w.heap.size w w33 := (bstep hb23 hb34)
              exact ⟨_, rfl, congrArg Value.bool (by first | exact lk1 (by omega) | exact lk2 (by omega) (by omega) | exact lk3 (k := k) (by omega) (by omega) (by assumption) | exact lk4 (k := k) (by omega) (by omega) hall (by omega)), hb36⟩
            · have h35 : ¬ (¬ ((o.lknows (tget l k)) = true)) := by simpa using h35
              refine WC.skip ?_
              refine WE.blockNormal ?_
              refine WE.next ?_
              refine WC.region ?_
              refine WL.val (.int .i64 (((k : Nat) : Int))) rfl rfl rfl (fun za zC zh zk => wp_move rfl (zh.ev rfl) zk) ?_
              refine WL.val (.int .i64 ((((k + 1) : Nat) : Int))) rfl rfl rfl (fun za zC zh zk => addb_3 rfl (zh.ev rfl) (zh.ev rfl) (wrap_eq (by omega) (by omega) (by omega)) zk) ?_
              refine WL.val (.int .i64 ((((k + 1) : Nat) : Int))) rfl rfl rfl (fun za zC zh zk => wp_assign rfl (zh.ev rfl) zk) ?_
              refine WL.nil (WE.sub (K' := [(0, .agg #[.bool o.lpo, .slice a1 o.prec.length c1, .slice a2 o.weights.length c2, .int .i64 o.var]), (1, .agg #[.int .i64 f, .slice a l.length c]), (2, .pointer (some ⟨g2, 0, none⟩)), (3, .pointer (some ⟨g9, 0, none⟩)), (5, .int .i64 ((((k + 1) : Nat) : Int))), (8, .bool ((decide ((f : Int) < (0 : Int))))), (18, .bool ((decide ((((o.prec.length : Nat) : Int) : Int) ≤ (f : Int))))), (23, .bool ((decide ((((k : Nat) : Int) : Int) < (((l.length : Nat) : Int) : Int))))), (33, .bool ((!(o.lknows (tget l k)))))]) ⟨rfl, rfl, rfl, rfl, rfl, rfl, rfl, rfl, rfl, trivial⟩ ?_)
              refine WE.round (k + 1) ⟨rfl, rfl, rfl, rfl, rfl, rfl, rfl, trivial⟩ ?_ ?_
              · have hb37 : Below w.heap.size w w33 := (bstep hb23 hb34)
                have hB38 := hB24.below hb34
                have hB39 := hB25.below hb34
                exact ⟨by omega, by rw [all_take_t _ _ _ (by omega), hall]; simp_all, hb37, hB38, hB39⟩
              · omega
        · have h26 : ¬ ((((k : Nat) : Int) : Int) < (((l.length : Nat) : Int) : Int)) := by simpa using h26
          refine WC.exit ?_
          refine WE.thenExit ?_
          refine WE.thenExit ?_
          refine WE.blockIs rfl ?_
          refine WE.next ?_
          refine WC.seq ?_
          refine WC.region ?_
          refine WL.val (.bool true) rfl rfl rfl (fun za zC zh zk => wp_assign rfl (zh.ev rfl) zk) ?_
          refine WL.nil (WE.sub (K' := [(0, .agg #[.bool o.lpo, .slice a1 o.prec.length c1, .slice a2 o.weights.length c2, .int .i64 o.var]), (1, .agg #[.int .i64 f, .slice a l.length c]), (2, .pointer (some ⟨g2, 0, none⟩)), (3, .pointer (some ⟨g9, 0, none⟩)), (4, .bool true), (5, .int .i64 (((k : Nat) : Int))), (8, .bool ((decide ((f : Int) < (0 : Int))))), (18, .bool ((decide ((((o.prec.length : Nat) : Int) : Int) ≤ (f : Int))))), (23, .bool ((decide ((((k : Nat) : Int) : Int) < (((l.length : Nat) : Int) : Int)))))]) ⟨rfl, rfl, rfl, rfl, rfl, rfl, rfl, rfl, rfl, trivial⟩ ?_)
          refine WE.next ?_
          refine WC.ret ?_
          refine WE.ret1 rfl rfl ?_
          exact ⟨_, rfl, congrArg Value.bool (by first | exact lk1 (by omega) | exact lk2 (by omega) (by omega) | exact lk3 (k := k) (by omega) (by omega) (by assumption) | exact lk4 (k := k) (by omega) (by omega) hall (by omega)), hb23⟩

set_option maxRecDepth 100000 in
theorem lknows_any (o : Od) (t : T) : ∀ (w : World) (vo v : Value), IsOd w o vo → IsT w t v →
    Calls Try.prog 25 #[vo, v] w (Ret fun v' w' => v' = .bool (o.lknows t) ∧ Below w.heap.size w w') := by
  induction t using T.ind with
  | h f l ih =>
  intro w vo v ho hv
  have ho0 := ho
  have hv0 := hv
  obtain ⟨a1, a2, c1, c2, rfl, n1, n2, n3, n4, p1, p2, _⟩ := ho
  obtain ⟨hf, a, c, rfl, hc, hm, hl⟩ := hv
  unfold maxLen at hm n2 n4
  have hf1 := hf.1
  have hf2 := hf.2
  refine Calls.walk (l := [.agg #[.bool o.lpo, .slice a1 o.prec.length c1, .slice a2 o.weights.length c2, .int .i64 o.var], .agg #[.int .i64 f, .slice a l.length c]]) Try.func25 rfl (by kernel_rfl) ?_
  refine WC.sub (K' := [(0, .agg #[.bool o.lpo, .slice a1 o.prec.length c1, .slice a2 o.weights.length c2, .int .i64 o.var]), (1, .agg #[.int .i64 f, .slice a l.length c])]) ⟨rfl, rfl, trivial⟩ ?_
  refine WC.seq ?_
  refine WC.region ?_
  refine WL.step (post := NewBlk w 24 #[.bool o.lpo, .slice a1 o.prec.length c1, .slice a2 o.weights.length c2, .int .i64 o.var]) rfl rfl rfl (fun za zC zh zk => box_24 rfl (zh.ev rfl) (zk _ _ (newBlk _ _ _))) ?_
  rintro _ w1 ⟨g2, rfl, hg3, hB4, hb5, hz6⟩
  have hl7 : w.heap.size ≤ g2 := by omega
  refine WL.step (post := NewBlk w1 27 #[.int .i64 f, .slice a l.length c]) rfl rfl rfl (fun za zC zh zk => box_27 rfl (zh.ev rfl) (zk _ _ (newBlk _ _ _))) ?_
  rintro _ w8 ⟨g9, rfl, hg10, hB11, hb12, hz13⟩
  have hl14 : g2 < g9 := by have z1 := hB4.lt; omega
  have hl15 : w.heap.size ≤ g9 := by have z2 := (hb5).size; omega
  refine WL.val (.bool false) rfl rfl rfl (fun za zC zh zk => wp_assign rfl (zh.ev rfl) zk) ?_
  refine WL.nil (WE.sub (K' := [(0, .agg #[.bool o.lpo, .slice a1 o.prec.length c1, .slice a2 o.weights.length c2, .int .i64 o.var]), (1, .agg #[.int .i64 f, .slice a l.length c]), (2, .pointer (some ⟨g2, 0, none⟩)), (3, .pointer (some ⟨g9, 0, none⟩)), (4, .bool false)]) ⟨rfl, rfl, rfl, rfl, rfl, trivial⟩ ?_)
  refine WE.next ?_
  refine WC.seq ?_
  refine WC.seq ?_
  refine WC.region ?_
  refine WL.val (.pointer (some ⟨g9, 0, none⟩)) rfl rfl rfl (fun za zC zh zk => fld_27_0 rfl (zh.ev rfl) zk) ?_
  refine WL.val (.int .i64 f) rfl rfl rfl (fun za zC zh zk => ld_3 rfl (zh.ev rfl) ((hB11.cell 0).trans rfl) zk) ?_
  refine WL.val (.bool ((decide ((f : Int) < (0 : Int))))) rfl rfl rfl (fun za zC zh zk => lss_3 rfl (zh.ev rfl) (zh.ev rfl) zk) ?_
  refine WL.nil (WE.sub (K' := [(0, .agg #[.bool o.lpo, .slice a1 o.prec.length c1, .slice a2 o.weights.length c2, .int .i64 o.var]), (1, .agg #[.int .i64 f, .slice a l.length c]), (2, .pointer (some ⟨g2, 0, none⟩)), (3, .pointer (some ⟨g9, 0, none⟩)), (4, .bool false), (9, .bool ((decide ((f : Int) < (0 : Int)))))]) ⟨rfl, rfl, rfl, rfl, rfl, rfl, trivial⟩ ?_)
  refine WE.next ?_
  refine WC.cond rfl (fun h16 => ?_) (fun h16 => ?_)
  · have h16 : (f : Int) < (0 : Int) := by simpa using h16
    refine WC.seq ?_
    refine WC.region ?_
    refine WL.val (.pointer (some ⟨g9, 1, none⟩)) rfl rfl rfl (fun za zC zh zk => fld_27_1 rfl (zh.ev rfl) zk) ?_
    refine WL.val (.slice a l.length c) rfl rfl rfl (fun za zC zh zk => ld_25 rfl (zh.ev rfl) ((hB11.cell 1).trans rfl) zk) ?_
    refine WL.val (.int .i64 (((l.length : Nat) : Int))) rfl rfl rfl (fun za zC zh zk => len_25 rfl (zh.ev rfl) zk) ?_
    refine WL.val (.bool (((((l.length : Nat) : Int) : Int) == (0 : Int)))) rfl rfl rfl (fun za zC zh zk => eql_3 rfl (zh.ev rfl) (zh.ev rfl) zk) ?_
    refine WL.val (.bool (((((l.length : Nat) : Int) : Int) == (0 : Int)))) rfl rfl rfl (fun za zC zh zk => wp_assign rfl (zh.ev rfl) zk) ?_
    refine WL.nil (WE.sub (K' := [(0, .agg #[.bool o.lpo, .slice a1 o.prec.length c1, .slice a2 o.weights.length c2, .int .i64 o.var]), (1, .agg #[.int .i64 f, .slice a l.length c]), (2, .pointer (some ⟨g2, 0, none⟩)), (3, .pointer (some ⟨g9, 0, none⟩)), (4, .bool (((((l.length : Nat) : Int) : Int) == (0 : Int)))), (9, .bool ((decide ((f : Int) < (0 : Int)))))]) ⟨rfl, rfl, rfl, rfl, rfl, rfl, trivial⟩ ?_)
    refine WE.next ?_
    refine WC.ret ?_
    refine WE.thenRet ?_
    refine WE.ret1 rfl rfl ?_
    have hb17 : Below w.heap.size w w8 := (bstep hb5 hb12)
    exact ⟨_, rfl, congrArg Value.bool (by first | exact lk1 (by omega) | exact lk2 (by omega) (by omega) | exact lk3 (k := k) (by omega) (by omega) (by assumption) | exact lk4 (k := k) (by omega) (by omega) hall (by omega)), hb17⟩
  · have h16 : ¬ ((f : Int) < (0 : Int)) := by simpa using h16
    refine WC.skip ?_
    refine WE.next ?_
    refine WC.seq ?_
    refine WC.seq ?_
    refine WC.region ?_
    refine WL.val (.pointer (some ⟨g9, 0, none⟩)) rfl rfl rfl (fun za zC zh zk => fld_27_0 rfl (zh.ev rfl) zk) ?_
    refine WL.val (.int .i64 f) rfl rfl rfl (fun za zC zh zk => ld_3 rfl (zh.ev rfl) ((hB11.cell 0).trans rfl) zk) ?_
    refine WL.val (.pointer (some ⟨g2, 1, none⟩)) rfl rfl rfl (fun za zC zh zk => fld_24_1 rfl (zh.ev rfl) zk) ?_
    have hB18 := hB4.below hb12
    refine WL.val (.slice a1 o.prec.length c1) rfl rfl rfl (fun za zC zh zk => ld_22 rfl (zh.ev rfl) ((hB18.cell 1).trans rfl) zk) ?_
    refine WL.val (.int .i64 (((o.prec.length : Nat) : Int))) rfl rfl rfl (fun za zC zh zk => len_22 rfl (zh.ev rfl) zk) ?_
    refine WL.val (.bool ((decide ((((o.prec.length : Nat) : Int) : Int) ≤ (f : Int))))) rfl rfl rfl (fun za zC zh zk => geq_3 rfl (zh.ev rfl) (zh.ev rfl) zk) ?_
    refine WL.nil (WE.sub (K' := [(0, .agg #[.bool o.lpo, .slice a1 o.prec.length c1, .slice a2 o.weights.length c2, .int .i64 o.var]), (1, .agg #[.int .i64 f, .slice a l.length c]), (2, .pointer (some ⟨g2, 0, none⟩)), (3, .pointer (some ⟨g9, 0, none⟩)), (4, .bool false), (9, .bool ((decide ((f : Int) < (0 : Int))))), (19, .bool ((decide ((((o.prec.length : Nat) : Int) : Int) ≤ (f : Int)))))]) ⟨rfl, rfl, rfl, rfl, rfl, rfl, rfl, trivial⟩ ?_)
    refine WE.next ?_
    refine WC.cond rfl (fun h19 => ?_) (fun h19 => ?_)
    · have h19 : (((o.prec.length : Nat) : Int) : Int) ≤ (f : Int) := by simpa using h19
      refine WC.seq ?_
      refine WC.region ?_
      refine WL.val (.bool false) rfl rfl rfl (fun za zC zh zk => wp_assign rfl (zh.ev rfl) zk) ?_
      refine WL.nil (WE.sub (K' := [(0, .agg #[.bool o.lpo, .slice a1 o.prec.length c1, .slice a2 o.weights.length c2, .int .i64 o.var]), (1, .agg #[.int .i64 f, .slice a l.length c]), (2, .pointer (some ⟨g2, 0, none⟩)), (3, .pointer (some ⟨g9, 0, none⟩)), (4, .bool false), (9, .bool ((decide ((f : Int) < (0 : Int))))), (19, .bool ((decide ((((o.prec.length : Nat) : Int) : Int) ≤ (f : Int)))))]) ⟨rfl, rfl, rfl, rfl, rfl, rfl, rfl, trivial⟩ ?_)
      refine WE.next ?_
      refine WC.ret ?_
      refine WE.thenRet ?_
      refine WE.ret1 rfl rfl ?_
      have hb20 : Below w.heap.size w w8 := (bstep hb5 hb12)
      exact ⟨_, rfl, congrArg Value.bool (by first | exact lk1 (by omega) | exact lk2 (by omega) (by omega) | exact lk3 (k := k) (by omega) (by omega) (by assumption) | exact lk4 (k := k) (by omega) (by omega) hall (by omega)), hb20⟩
    · have h19 : ¬ ((((o.prec.length : Nat) : Int) : Int) ≤ (f : Int)) := by simpa using h19
      refine WC.skip ?_
      refine WE.next ?_
      refine WC.seq ?_
      refine WC.seq ?_
      refine WC.region ?_
      refine WL.val (.pointer (some ⟨g9, 1, none⟩)) rfl rfl rfl (fun za zC zh zk => fld_27_1 rfl (zh.ev rfl) zk) ?_
      refine WL.val (.slice a l.length c) rfl rfl rfl (fun za zC zh zk => ld_25 rfl (zh.ev rfl) ((hB11.cell 1).trans rfl) zk) ?_
      refine WL.val (.int .i64 (((l.length : Nat) : Int))) rfl rfl rfl (fun za zC zh zk => len_25 rfl (zh.ev rfl) zk) ?_
      refine WL.val (.int .i64 0) rfl rfl rfl (fun za zC zh zk => wp_move rfl (zh.ev rfl) zk) ?_
      refine WL.nil (WE.sub (K' := [(0, .agg #[.bool o.lpo, .slice a1 o.prec.length c1, .slice a2 o.weights.length c2, .int .i64 o.var]), (1, .agg #[.int .i64 f, .slice a l.length c]), (2, .pointer (some ⟨g2, 0, none⟩)), (3, .pointer (some ⟨g9, 0, none⟩)), (4, .bool false), (9, .bool ((decide ((f : Int) < (0 : Int))))), (19, .bool ((decide ((((o.prec.length : Nat) : Int) : Int) ≤ (f : Int))))), (21, .slice a l.length c), (22, .int .i64 (((l.length : Nat) : Int))), (23, .int .i64 0)]) ⟨rfl, rfl, rfl, rfl, rfl, rfl, rfl, rfl, rfl, rfl, trivial⟩ ?_)
      refine WE.next ?_
      refine WC.block ?_
      refine WC.loop (X := Nat) (fun k => l.length - k) (fun k => [(0, .agg #[.bool o.lpo, .slice a1 o.prec.length c1, .slice a2 o.weights.length c2, .int .i64 o.var]), (1, .agg #[.int .i64 f, .slice a l.length c]), (2, .pointer (some ⟨g2, 0, none⟩)), (3, .pointer (some ⟨g9, 0, none⟩)), (9, .bool ((decide ((f : Int) < (0 : Int))))), (19, .bool ((decide ((((o.prec.length : Nat) : Int) : Int) ≤ (f : Int))))), (21, .slice a l.length c), (22, .int .i64 (((l.length : Nat) : Int))), (23, .int .i64 (((k : Nat) : Int)))]) (fun k w21 => k ≤ l.length ∧ (l.take k).all o.lknows = true ∧ Below w.heap.size w w21 ∧ Blk w21 g2 24 #[.bool o.lpo, .slice a1 o.prec.length c1, .slice a2 o.weights.length c2, .int .i64 o.var] ∧ Blk w21 g9 27 #[.int .i64 f, .slice a l.length c]) 0 ⟨rfl, rfl, rfl, rfl, rfl, rfl, rfl, rfl, rfl, trivial⟩ ?_ ?_
      · have hb22 : Below w.heap.size w w8 := (bstep hb5 hb12)
        exact ⟨Nat.zero_le _, rfl, hb22, hB18, hB11⟩
      · rintro k w21 ⟨hk, hall, hb23, hB24, hB25⟩
        refine WC.seq ?_
        refine WC.region ?_
        refine WL.val (.bool ((decide ((((k : Nat) : Int) : Int) < (((l.length : Nat) : Int) : Int))))) rfl rfl rfl (fun za zC zh zk => lss_3 rfl (zh.ev rfl) (zh.ev rfl) zk) ?_
        refine WL.nil (WE.sub (K' := [(0, .agg #[.bool o.lpo, .slice a1 o.prec.length c1, .slice a2 o.weights.length c2, .int .i64 o.var]), (1, .agg #[.int .i64 f, .slice a l.length c]), (2, .pointer (some ⟨g2, 0, none⟩)), (3, .pointer (some ⟨g9, 0, none⟩)), (9, .bool ((decide ((f : Int) < (0 : Int))))), (19, .bool ((decide ((((o.prec.length : Nat) : Int) : Int) ≤ (f : Int))))), (21, .slice a l.length c), (22, .int .i64 (((l.length : Nat) : Int))), (23, .int .i64 (((k : Nat) : Int))), (24, .bool ((decide ((((k : Nat) : Int) : Int) < (((l.length : Nat) : Int) : Int)))))]) ⟨rfl, rfl, rfl, rfl, rfl, rfl, rfl, rfl, rfl, rfl, trivial⟩ ?_)
        refine WE.next ?_
        refine WC.seq ?_
        refine WC.cond rfl (fun h26 => ?_) (fun h26 => ?_)
        · have h26 : (((k : Nat) : Int) : Int) < (((l.length : Nat) : Int) : Int) := by simpa using h26
          refine WC.skip ?_
          refine WE.next ?_
          refine WC.seq ?_
          refine WC.block ?_
          refine WC.seq ?_
          refine WC.region ?_
          obtain ⟨b27, o28, A29, C30, ha31, hc32⟩ := IsTs.open hl
          refine WL.val (.pointer (some ⟨b27, o28 + k * 2, none⟩)) rfl rfl rfl (fun za zC zh zk => ix_25 (k := k) rfl (zh.ev rfl) (ha31 k (by first | omega | (simp; omega))) (zh.ev rfl) (by first | omega | (simp; omega)) zk) ?_
          refine WL.val (.agg #[.int .i64 ((tget l k).f), .slice ((A29 k)) ((tget l k).args.length) ((C30 k))]) rfl rfl rfl (fun za zC zh zk => ld_27 rfl (zh.ev rfl) (bkeeps hb23 _ _ (hc32 k (by first | omega | (simp; omega))).1) (bkeeps hb23 _ _ (hc32 k (by first | omega | (simp; omega))).2.1) zk) ?_
          refine WL.step (post := NewBlk w21 27 #[.int .i64 0, .slice none 0 0]) rfl rfl rfl (fun za zC zh zk => alloc_27 rfl (zk _ _ (newBlk _ _ _))) ?_
          rintro _ w33 ⟨g34, rfl, hg35, hB36, hb37, hz38⟩
          have hl39 : g2 < g34 := by have z1 := hB24.lt; omega
          have hl40 : g9 < g34 := by have z1 := hB25.lt; omega
          have hl41 : w.heap.size ≤ g34 := by have z2 := (hb23).size; omega
          refine WL.step (post := fun _ w' => Upd g34 w33 w' ∧ Blk w' g34 27 #[.int .i64 ((tget l k).f), .slice ((A29 k)) ((tget l k).args.length) ((C30 k))]) rfl rfl rfl (fun za zC zh zk => st_27 rfl (zh.ev rfl) (zh.ev rfl) rfl rfl hB36 (by first | decide | simp) (fun v => zk v _ ⟨(Upd.at_ _ _ _ _).trans (Upd.at_ _ _ _ _), (hB36.set_ 0 _).set_ 1 _⟩)) ?_
          rintro v45 w42 ⟨hu43, hB44⟩
          have hb46 : Below w.heap.size w w33 := (bstep hb23 hb37)
          have hb47 := upd_below hb46 hu43 (by omega)
          have hB48 := hB24.below hb37
          have hB49 := upd_blk hB48 hu43 (by omega)
          have hB50 := hB25.below hb37
          have hB51 := upd_blk hB50 hu43 (by omega)
          refine WL.nil (WE.sub (K' := [(0, .agg #[.bool o.lpo, .slice a1 o.prec.length c1, .slice a2 o.weights.length c2, .int .i64 o.var]), (1, .agg #[.int .i64 f, .slice a l.length c]), (2, .pointer (some ⟨g2, 0, none⟩)), (3, .pointer (some ⟨g9, 0, none⟩)), (6, .pointer (some ⟨g34, 0, none⟩)), (9, .bool ((decide ((f : Int) < (0 : Int))))), (19, .bool ((decide ((((o.prec.length : Nat) : Int) : Int) ≤ (f : Int))))), (21, .slice a l.length c), (22, .int .i64 (((l.length : Nat) : Int))), (23, .int .i64 (((k : Nat) : Int))), (24, .bool ((decide ((((k : Nat) : Int) : Int) < (((l.length : Nat) : Int) : Int)))))]) ⟨rfl, rfl, rfl, rfl, rfl, rfl, rfl, rfl, rfl, rfl, rfl, trivial⟩ ?_)
          refine WE.next ?_
          refine WC.seq ?_
          refine WC.region ?_
          refine WL.val (.agg #[.bool o.lpo, .slice a1 o.prec.length c1, .slice a2 o.weights.length c2, .int .i64 o.var]) rfl rfl rfl (fun za zC zh zk => ld_24 rfl (zh.ev rfl) ((hB49.cell 0).trans rfl) ((hB49.cell 1).trans rfl) ((hB49.cell 2).trans rfl) ((hB49.cell 3).trans rfl) zk) ?_
          refine WL.val (.agg #[.int .i64 ((tget l k).f), .slice ((A29 k)) ((tget l k).args.length) ((C30 k))]) rfl rfl rfl (fun za zC zh zk => ld_27 rfl (zh.ev rfl) ((hB44.cell 0).trans rfl) ((hB44.cell 1).trans rfl) zk) ?_
          refine WL.call rfl rfl rfl (fun za zh zC => wp_call (by kernel_rfl) rfl (hv2 (zh.ev rfl) (zh.ev rfl))) (ih (tget l k) (tget_mem (by omega)) _ _ _ (ho0.below hb47) (IsT.below hb47 (hc32 k (by first | omega | (simp; omega))).2.2)) ?_
          rintro _ w52 ⟨rfl, hbc⟩
          refine WL.val (.bool ((!(o.lknows (tget l k))))) rfl rfl rfl (fun za zC zh zk => wp_not rfl (zh.ev rfl) zk) ?_
          refine WL.nil (WE.sub (K' := [(0, .agg #[.bool o.lpo, .slice a1 o.prec.length c1, .slice a2 o.weights.length c2, .int .i64 o.var]), (1, .agg #[.int .i64 f, .slice a l.length c]), (2, .pointer (some ⟨g2, 0, none⟩)), (3, .pointer (some ⟨g9, 0, none⟩)), (6, .pointer (some ⟨g34, 0, none⟩)), (9, .bool ((decide ((f : Int) < (0 : Int))))), (19, .bool ((decide ((((o.prec.length : Nat) : Int) : Int) ≤ (f : Int))))), (21, .slice a l.length c), (22, .int .i64 (((l.length : Nat) : Int))), (23, .int .i64 (((k : Nat) : Int))), (24, .bool ((decide ((((k : Nat) : Int) : Int) < (((l.length : Nat) : Int) : Int))))), (30, .bool ((!(o.lknows (tget l k)))))]) ⟨rfl, rfl, rfl, rfl, rfl, rfl, rfl, rfl, rfl, rfl, rfl, rfl, trivial⟩ ?_)
          refine WE.next ?_
          refine WC.cond rfl (fun h53 => ?_) (fun h53 => ?_)
          · have h53 : ¬ ((o.lknows (tget l k)) = true) := by simpa using h53
            refine WC.seq ?_
            refine WC.region ?_
            refine WL.val (.bool false) rfl rfl rfl (fun za zC zh zk => wp_assign rfl (zh.ev rfl) zk) ?_
            refine WL.nil (WE.sub (K' := [(0, .agg #[.bool o.lpo, .slice a1 o.prec.length c1, .slice a2 o.weights.length c2, .int .i64 o.var]), (1, .agg #[.int .i64 f, .slice a l.length c]), (2, .pointer (some ⟨g2, 0, none⟩)), (3, .pointer (some ⟨g9, 0, none⟩)), (4, .bool false), (6, .pointer (some ⟨g34, 0, none⟩)), (9, .bool ((decide ((f : Int) < (0 : Int))))), (19, .bool ((decide ((((o.prec.length : Nat) : Int) : Int) ≤ (f : Int))))), (21, .slice a l.length c), (22, .int .i64 (((l.length : Nat) : Int))), (23, .int .i64 (((k : Nat) : Int))), (24, .bool ((decide ((((k : Nat) : Int) : Int) < (((l.length : Nat) : Int) : Int))))), (30, .bool ((!(o.lknows (tget l k)))))]) ⟨rfl, rfl, rfl, rfl, rfl, rfl, rfl, rfl, rfl, rfl, rfl, rfl, rfl, trivial⟩ ?_)
            refine WE.next ?_
            refine WC.ret ?_
            refine WE.blockRet ?_
            refine WE.thenRet ?_
            refine WE.thenRet ?_
            refine WE.blockRet ?_
            refine WE.thenRet ?_
            refine WE.ret1 rfl rfl ?_
            have hb54 : Below w.heap.size w w52 := (bstep hb47 hbc)
            exact ⟨_, rfl, congrArg Value.bool (by first | exact lk1 (by omega) | exact lk2 (by omega) (by omega) | exact lk3 (k := k) (by omega) (by omega) (by assumption) | exact lk4 (k := k) (by omega) (by omega) hall (by omega)), hb54⟩
          · have h53 : ¬ (¬ ((o.lknows (tget l k)) = true)) := by simpa using h53
            refine WC.skip ?_
            refine WE.blockNormal ?_
            refine WE.next ?_
            refine WC.region ?_
            refine WL.val (.int .i64 ((((k + 1) : Nat) : Int))) rfl rfl rfl (fun za zC zh zk => addb_3 rfl (zh.ev rfl) (zh.ev rfl) (wrap_eq (by omega) (by omega) (by omega)) zk) ?_
            refine WL.val (.int .i64 ((((k + 1) : Nat) : Int))) rfl rfl rfl (fun za zC zh zk => wp_move rfl (zh.ev rfl) zk) ?_
            refine WL.nil (WE.sub (K' := [(0, .agg #[.bool o.lpo, .slice a1 o.prec.length c1, .slice a2 o.weights.length c2, .int .i64 o.var]), (1, .agg #[.int .i64 f, .slice a l.length c]), (2, .pointer (some ⟨g2, 0, none⟩)), (3, .pointer (some ⟨g9, 0, none⟩)), (6, .pointer (some ⟨g34, 0, none⟩)), (9, .bool ((decide ((f : Int) < (0 : Int))))), (19, .bool ((decide ((((o.prec.length : Nat) : Int) : Int) ≤ (f : Int))))), (21, .slice a l.length c), (22, .int .i64 (((l.length : Nat) : Int))), (23, .int .i64 ((((k + 1) : Nat) : Int))), (24, .bool ((decide ((((k : Nat) : Int) : Int) < (((l.length : Nat) : Int) : Int))))), (30, .bool ((!(o.lknows (tget l k)))))]) ⟨rfl, rfl, rfl, rfl, rfl, rfl, rfl, rfl, rfl, rfl, rfl, rfl, trivial⟩ ?_)
            refine WE.round (k + 1) ⟨rfl, rfl, rfl, rfl, rfl, rfl, rfl, rfl, rfl, trivial⟩ ?_ ?_
            · have hb55 : Below w.heap.size w w52 := (bstep hb47 hbc)
              have hB56 := hB49.below hbc
              have hB57 := hB51.below hbc
              exact ⟨by omega, by rw [all_take_t _ _ _ (by omega), hall]; simp_all, hb55, hB56, hB57⟩
            · omega
        · have h26 : ¬ ((((k : Nat) : Int) : Int) < (((l.length : Nat) : Int) : Int)) := by simpa using h26
          refine WC.exit ?_
          refine WE.thenExit ?_
          refine WE.thenExit ?_
          refine WE.blockIs rfl ?_
          refine WE.next ?_
          refine WC.seq ?_
          refine WC.region ?_
          refine WL.val (.bool true) rfl rfl rfl (fun za zC zh zk => wp_assign rfl (zh.ev rfl) zk) ?_
          refine WL.nil (WE.sub (K' := [(0, .agg #[.bool o.lpo, .slice a1 o.prec.length c1, .slice a2 o.weights.length c2, .int .i64 o.var]), (1, .agg #[.int .i64 f, .slice a l.length c]), (2, .pointer (some ⟨g2, 0, none⟩)), (3, .pointer (some ⟨g9, 0, none⟩)), (4, .bool true), (9, .bool ((decide ((f : Int) < (0 : Int))))), (19, .bool ((decide ((((o.prec.length : Nat) : Int) : Int) ≤ (f : Int))))), (21, .slice a l.length c), (22, .int .i64 (((l.length : Nat) : Int))), (23, .int .i64 (((k : Nat) : Int))), (24, .bool ((decide ((((k : Nat) : Int) : Int) < (((l.length : Nat) : Int) : Int)))))]) ⟨rfl, rfl, rfl, rfl, rfl, rfl, rfl, rfl, rfl, rfl, rfl, trivial⟩ ?_)
          refine WE.next ?_
          refine WC.ret ?_
          refine WE.ret1 rfl rfl ?_
          exact ⟨_, rfl, congrArg Value.bool (by first | exact lk1 (by omega) | exact lk2 (by omega) (by omega) | exact lk3 (k := k) (by omega) (by omega) (by assumption) | exact lk4 (k := k) (by omega) (by omega) hall (by omega)), hb23⟩

set_option maxRecDepth 100000 in
theorem has_any (g : Int) (hg : I64 g) (t : T) : ∀ (w : World) (v : Value), IsT w t v →
    Calls Try.prog 54 #[v, .int .i64 (-1 - g)] w (Ret fun v' w' => v' = .bool (T.has g t) ∧ Below w.heap.size w w') := by
  induction t using T.ind with
  | h f l ih =>
  intro w v hv
  obtain ⟨hf, a, c, rfl, hc, hm, hl⟩ := hv
  unfold maxLen at hm
  have hg1 := hg.1
  have hg2 := hg.2
  refine Calls.walk (l := [.agg #[.int .i64 f, .slice a l.length c], .int .i64 ((-1 - g))]) Try.func54 rfl (by kernel_rfl) ?_
  refine WC.sub (K' := [(0, .agg #[.int .i64 f, .slice a l.length c]), (1, .int .i64 ((-1 - g)))]) ⟨rfl, rfl, trivial⟩ ?_
  refine WC.seq ?_
  refine WC.region ?_
  refine WL.step (post := NewBlk w 27 #[.int .i64 f, .slice a l.length c]) rfl rfl rfl (fun za zC zh zk => box_27 rfl (zh.ev rfl) (zk _ _ (newBlk _ _ _))) ?_
  rintro _ w1 ⟨g2, rfl, hg3, hB4, hb5, hz6⟩
  have hl7 : w.heap.size ≤ g2 := by omega
  refine WL.val (.bool false) rfl rfl rfl (fun za zC zh zk => wp_assign rfl (zh.ev rfl) zk) ?_
  refine WL.nil (WE.sub (K' := [(0, .agg #[.int .i64 f, .slice a l.length c]), (1, .int .i64 ((-1 - g))), (2, .pointer (some ⟨g2, 0, none⟩)), (4, .bool false)]) ⟨rfl, rfl, rfl, rfl, trivial⟩ ?_)
  refine WE.next ?_
  refine WC.seq ?_
  refine WC.seq ?_
  refine WC.region ?_
  refine WL.val (.pointer (some ⟨g2, 0, none⟩)) rfl rfl rfl (fun za zC zh zk => fld_27_0 rfl (zh.ev rfl) zk) ?_
  refine WL.val (.int .i64 f) rfl rfl rfl (fun za zC zh zk => ld_3 rfl (zh.ev rfl) ((hB4.cell 0).trans rfl) zk) ?_
  refine WL.val (.int .i64 ((-1 - g))) rfl rfl rfl (fun za zC zh zk => wp_move rfl (zh.ev rfl) zk) ?_
  refine WL.val (.int .i64 g) rfl rfl rfl (fun za zC zh zk => subb_3 rfl (zh.ev rfl) (zh.ev rfl) (wrap_eq (by omega) (by omega) (by omega)) zk) ?_
  refine WL.val (.bool (((f : Int) == (g : Int)))) rfl rfl rfl (fun za zC zh zk => eql_3 rfl (zh.ev rfl) (zh.ev rfl) zk) ?_
  refine WL.nil (WE.sub (K' := [(0, .agg #[.int .i64 f, .slice a l.length c]), (1, .int .i64 ((-1 - g))), (2, .pointer (some ⟨g2, 0, none⟩)), (4, .bool false), (10, .bool (((f : Int) == (g : Int))))]) ⟨rfl, rfl, rfl, rfl, rfl, trivial⟩ ?_)
  refine WE.next ?_
  refine WC.cond rfl (fun h8 => ?_) (fun h8 => ?_)
  · have h8 : (f : Int) = (g : Int) := by simpa using h8
    refine WC.seq ?_
    refine WC.region ?_
    refine WL.val (.bool true) rfl rfl rfl (fun za zC zh zk => wp_assign rfl (zh.ev rfl) zk) ?_
    refine WL.nil (WE.sub (K' := [(0, .agg #[.int .i64 f, .slice a l.length c]), (1, .int .i64 ((-1 - g))), (2, .pointer (some ⟨g2, 0, none⟩)), (4, .bool true), (10, .bool (((f : Int) == (g : Int))))]) ⟨rfl, rfl, rfl, rfl, rfl, trivial⟩ ?_)
    refine WE.next ?_
    refine WC.ret ?_
    refine WE.thenRet ?_
    refine WE.ret1 rfl rfl ?_
    exact ⟨_, rfl, congrArg Value.bool (by first | exact hs2 (k := k) (by omega) (by assumption) | exact hs3 (k := k) (by assumption) hall (by omega) | (have e : f = g := (by assumption); subst e; exact hs1)), hb5⟩
  · have h8 : ¬ ((f : Int) = (g : Int)) := by simpa using h8
    refine WC.skip ?_
    refine WE.next ?_
    refine WC.seq ?_
    refine WC.seq ?_
    refine WC.region ?_
    refine WL.val (.int .i64 0) rfl rfl rfl (fun za zC zh zk => wp_assign rfl (zh.ev rfl) zk) ?_
    refine WL.nil (WE.sub (K' := [(0, .agg #[.int .i64 f, .slice a l.length c]), (1, .int .i64 ((-1 - g))), (2, .pointer (some ⟨g2, 0, none⟩)), (4, .bool false), (5, .int .i64 0), (10, .bool (((f : Int) == (g : Int))))]) ⟨rfl, rfl, rfl, rfl, rfl, rfl, trivial⟩ ?_)
    refine WE.next ?_
    refine WC.block ?_
    refine WC.loop (X := Nat) (fun k => l.length - k) (fun k => [(0, .agg #[.int .i64 f, .slice a l.length c]), (1, .int .i64 ((-1 - g))), (2, .pointer (some ⟨g2, 0, none⟩)), (5, .int .i64 (((k : Nat) : Int))), (10, .bool (((f : Int) == (g : Int))))]) (fun k w9 => k ≤ l.length ∧ (l.take k).any (T.has g) = false ∧ Below w.heap.size w w9 ∧ Blk w9 g2 27 #[.int .i64 f, .slice a l.length c]) 0 ⟨rfl, rfl, rfl, rfl, rfl, trivial⟩ ?_ ?_
    · exact ⟨Nat.zero_le _, rfl, hb5, hB4⟩
    · rintro k w9 ⟨hk, hall, hb10, hB11⟩
      refine WC.seq ?_
      refine WC.seq ?_
      refine WC.region ?_
      refine WL.val (.int .i64 (((k : Nat) : Int))) rfl rfl rfl (fun za zC zh zk => wp_move rfl (zh.ev rfl) zk) ?_
      refine WL.val (.pointer (some ⟨g2, 1, none⟩)) rfl rfl rfl (fun za zC zh zk => fld_27_1 rfl (zh.ev rfl) zk) ?_
      refine WL.val (.slice a l.length c) rfl rfl rfl (fun za zC zh zk => ld_25 rfl (zh.ev rfl) ((hB11.cell 1).trans rfl) zk) ?_
      refine WL.val (.int .i64 (((l.length : Nat) : Int))) rfl rfl rfl (fun za zC zh zk => len_25 rfl (zh.ev rfl) zk) ?_
      refine WL.val (.bool ((decide ((((k : Nat) : Int) : Int) < (((l.length : Nat) : Int) : Int))))) rfl rfl rfl (fun za zC zh zk => lss_3 rfl (zh.ev rfl) (zh.ev rfl) zk) ?_
      refine WL.nil (WE.sub (K' := [(0, .agg #[.int .i64 f, .slice a l.length c]), (1, .int .i64 ((-1 - g))), (2, .pointer (some ⟨g2, 0, none⟩)), (5, .int .i64 (((k : Nat) : Int))), (10, .bool (((f : Int) == (g : Int)))), (15, .bool ((decide ((((k : Nat) : Int) : Int) < (((l.length : Nat) : Int) : Int)))))]) ⟨rfl, rfl, rfl, rfl, rfl, rfl, trivial⟩ ?_)
      refine WE.next ?_
      refine WC.cond rfl (fun h12 => ?_) (fun h12 => ?_)
      · have h12 : (((k : Nat) : Int) : Int) < (((l.length : Nat) : Int) : Int) := by simpa using h12
        refine WC.skip ?_
        refine WE.next ?_
        refine WC.seq ?_
        refine WC.block ?_
        refine WC.seq ?_
        refine WC.region ?_
        refine WL.val (.pointer (some ⟨g2, 1, none⟩)) rfl rfl rfl (fun za zC zh zk => fld_27_1 rfl (zh.ev rfl) zk) ?_
        refine WL.val (.slice a l.length c) rfl rfl rfl (fun za zC zh zk => ld_25 rfl (zh.ev rfl) ((hB11.cell 1).trans rfl) zk) ?_
        refine WL.val (.int .i64 (((k : Nat) : Int))) rfl rfl rfl (fun za zC zh zk => wp_move rfl (zh.ev rfl) zk) ?_
        obtain ⟨b13, o14, A15, C16, ha17, hc18⟩ := IsTs.open hl
        refine WL.val (.pointer (some ⟨b13, o14 + k * 2, none⟩)) rfl rfl rfl (fun za zC zh zk => ix_25 (k := k) rfl (zh.ev rfl) (ha17 k (by first | omega | (simp; omega))) (zh.ev rfl) (by first | omega | (simp; omega)) zk) ?_
        refine WL.val (.agg #[.int .i64 ((tget l k).f), .slice ((A15 k)) ((tget l k).args.length) ((C16 k))]) rfl rfl rfl (fun za zC zh zk => ld_27 rfl (zh.ev rfl) (bkeeps hb10 _ _ (hc18 k (by first | omega | (simp; omega))).1) (bkeeps hb10 _ _ (hc18 k (by first | omega | (simp; omega))).2.1) zk) ?_
        refine WL.val (.int .i64 ((-1 - g))) rfl rfl rfl (fun za zC zh zk => wp_move rfl (zh.ev rfl) zk) ?_
        refine WL.call rfl rfl rfl (fun za zh zC => wp_call (by kernel_rfl) rfl (hv2 (zh.ev rfl) (zh.ev rfl))) (ih (tget l k) (tget_mem (by omega)) _ _ (IsT.below hb10 (hc18 k (by first | omega | (simp; omega))).2.2)) ?_
        rintro _ w19 ⟨rfl, hbc⟩
        refine WL.nil (WE.sub (K' := [(0, .agg #[.int .i64 f, .slice a l.length c]), (1, .int .i64 ((-1 - g))), (2, .pointer (some ⟨g2, 0, none⟩)), (5, .int .i64 (((k : Nat) : Int))), (10, .bool (((f : Int) == (g : Int)))), (15, .bool ((decide ((((k : Nat) : Int) : Int) < (((l.length : Nat) : Int) : Int))))), (24, .bool ((T.has g (tget l k))))]) ⟨rfl, rfl, rfl, rfl, rfl, rfl, rfl, trivial⟩ ?_)
        refine WE.next ?_
        refine WC.cond rfl (fun h20 => ?_) (fun h20 => ?_)
        · skip
          refine WC.seq ?_
          refine WC.region ?_
          refine WL.val (.bool true) rfl rfl rfl (fun za zC zh zk => wp_assign rfl (zh.ev rfl) zk) ?_
          refine WL.nil (WE.sub (K' := [(0, .agg #[.int .i64 f, .slice a l.length c]), (1, .int .i64 ((-1 - g))), (2, .pointer (some ⟨g2, 0, none⟩)), (4, .bool true), (5, .int .i64 (((k : Nat) : Int))), (10, .bool (((f : Int) == (g : Int)))), (15, .bool ((decide ((((k : Nat) : Int) : Int) < (((l.length : Nat) : Int) : Int))))), (24, .bool ((T.has g (tget l k))))]) ⟨rfl, rfl, rfl, rfl, rfl, rfl, rfl, rfl, trivial⟩ ?_)
          refine WE.next ?_
          refine WC.ret ?_
          refine WE.blockRet ?_
          refine WE.thenRet ?_
          refine WE.thenRet ?_
          refine WE.blockRet ?_
          refine WE.thenRet ?_
          refine WE.ret1 rfl rfl ?_
          have hb21 : Below w.heap.size w w19 := (bstep hb10 hbc)
          exact ⟨_, rfl, congrArg Value.bool (by first | exact hs2 (k := k) (by omega) (by assumption) | exact hs3 (k := k) (by assumption) hall (by omega) | (have e : f = g := (by assumption); subst e; exact hs1)), hb21⟩
        · skip
          refine WC.skip ?_
          refine WE.blockNormal ?_
          refine WE.next ?_
          refine WC.region ?_
          refine WL.val (.int .i64 (((k : Nat) : Int))) rfl rfl rfl (fun za zC zh zk => wp_move rfl (zh.ev rfl) zk) ?_
          refine WL.val (.int .i64 ((((k + 1) : Nat) : Int))) rfl rfl rfl (fun za zC zh zk => addb_3 rfl (zh.ev rfl) (zh.ev rfl) (wrap_eq (by omega) (by omega) (by omega)) zk) ?_
          refine WL.val (.int .i64 ((((k + 1) : Nat) : Int))) rfl rfl rfl (fun za zC zh zk => wp_assign rfl (zh.ev rfl) zk) ?_
          refine WL.nil (WE.sub (K' := [(0, .agg #[.int .i64 f, .slice a l.length c]), (1, .int .i64 ((-1 - g))), (2, .pointer (some ⟨g2, 0, none⟩)), (5, .int .i64 ((((k + 1) : Nat) : Int))), (10, .bool (((f : Int) == (g : Int)))), (15, .bool ((decide ((((k : Nat) : Int) : Int) < (((l.length : Nat) : Int) : Int))))), (24, .bool ((T.has g (tget l k))))]) ⟨rfl, rfl, rfl, rfl, rfl, rfl, rfl, trivial⟩ ?_)
          refine WE.round (k + 1) ⟨rfl, rfl, rfl, rfl, rfl, trivial⟩ ?_ ?_
          · have hb22 : Below w.heap.size w w19 := (bstep hb10 hbc)
            have hB23 := hB11.below hbc
            exact ⟨by omega, by rw [any_take_t _ _ _ (by omega), hall]; simp_all, hb22, hB23⟩
          · omega
      · have h12 : ¬ ((((k : Nat) : Int) : Int) < (((l.length : Nat) : Int) : Int)) := by simpa using h12
        refine WC.exit ?_
        refine WE.thenExit ?_
        refine WE.thenExit ?_
        refine WE.blockIs rfl ?_
        refine WE.next ?_
        refine WC.seq ?_
        refine WC.region ?_
        refine WL.val (.bool false) rfl rfl rfl (fun za zC zh zk => wp_assign rfl (zh.ev rfl) zk) ?_
        refine WL.nil (WE.sub (K' := [(0, .agg #[.int .i64 f, .slice a l.length c]), (1, .int .i64 ((-1 - g))), (2, .pointer (some ⟨g2, 0, none⟩)), (4, .bool false), (5, .int .i64 (((k : Nat) : Int))), (10, .bool (((f : Int) == (g : Int)))), (15, .bool ((decide ((((k : Nat) : Int) : Int) < (((l.length : Nat) : Int) : Int)))))]) ⟨rfl, rfl, rfl, rfl, rfl, rfl, rfl, trivial⟩ ?_)
        refine WE.next ?_
        refine WC.ret ?_
        refine WE.ret1 rfl rfl ?_
        exact ⟨_, rfl, congrArg Value.bool (by first | exact hs2 (k := k) (by omega) (by assumption) | exact hs3 (k := k) (by assumption) hall (by omega) | (have e : f = g := (by assumption); subst e; exact hs1)), hb10⟩

end Go.Proofs.Ytlkiabgpnboicaa
