/- Terms that are the same: the program's way. -/
import Derived.Test.YtlkiabgpnboicaaMga
import Derived.Test.YtlkiabgpnboicaaMgb
import Derived.Test.YtlkiabgpnboicaaProg
import Derived.Shelf.SlGeneric
import Derived.Ground.SlgmProg
import Derived.Shelf.SortM.Plain
import Derived.Shelf.SortM.SortNone
import Derived.Shelf.Slices.CompactI
import Derived.Shelf.Slices.Empties
import Derived.Shelf.Slices.Turned
import Derived.Ground.NamesProg
import Derived.Ground.Names2Prog
import Derived.Sort.OwnSortedInts

/- What an order knows, whether a top stands in a term: the walks. -/
namespace Go.Proofs.Ytlkiabgpnboicaa
open Go.RowKit Go

theorem all_take_t (p : T → Bool) (l : List T) (k : Nat) (h : k < l.length) : (l.take (k + 1)).all p = ((l.take k).all p && p (tget l k)) := by
  rw [List.take_succ_eq_append_getElem h, List.all_append, tget_lt h]; simp
theorem any_take_t (p : T → Bool) (l : List T) (k : Nat) (h : k < l.length) : (l.take (k + 1)).any p = ((l.take k).any p || p (tget l k)) := by
  rw [List.take_succ_eq_append_getElem h, List.any_append, tget_lt h]; simp
theorem lk1 {o : Od} {f : Int} {l : List T} (h : f < 0) : (((l.length : Nat) : Int) == (0 : Int)) = o.lknows (.mk f l) := by
  rw [Od.lknows, if_pos h]; cases l <;> simp; omega
theorem lk2 {o : Od} {f : Int} {l : List T} (h : ¬ f < 0) (h' : ((o.prec.length : Nat) : Int) ≤ f) : false = o.lknows (.mk f l) := by
  rw [Od.lknows, if_neg h]; simp; omega
theorem lk3 {o : Od} {f : Int} {l : List T} {k : Nat} (h : ¬ f < 0) (hk : k < l.length) (hx : ¬ o.lknows (tget l k) = true) : false = o.lknows (.mk f l) := by
  rw [Od.lknows, if_neg h, Od.lknowsL_all]
  have : l.all o.lknows = false := by rw [List.all_eq_false]; exact ⟨tget l k, tget_mem hk, hx⟩
  rw [this]; simp
theorem lk4 {o : Od} {f : Int} {l : List T} {k : Nat} (h : ¬ f < 0) (h' : ¬ ((o.prec.length : Nat) : Int) ≤ f) (hall : (l.take k).all o.lknows = true) (hk : ¬ k < l.length) : true = o.lknows (.mk f l) := by
  rw [Od.lknows, if_neg h, Od.lknowsL_all]
  rw [List.take_of_length_le (by omega)] at hall
  rw [hall]; simp; omega
theorem hs1 {f : Int} {l : List T} : true = T.has f (.mk f l) := by rw [T.has]; simp
theorem hs2 {f g : Int} {l : List T} {k : Nat} (hk : k < l.length) (hx : T.has f (tget l k) = true) : true = T.has f (.mk g l) := by
  rw [T.has, T.hasL_any, List.any_eq_true.2 ⟨_, tget_mem hk, hx⟩]; simp
theorem hs3 {f g : Int} {l : List T} {k : Nat} (hg : ¬ g = f) (h : (l.take k).any (T.has f) = false) (hk : ¬ k < l.length) : false = T.has f (.mk g l) := by
  rw [List.take_of_length_le (by omega)] at h
  rw [T.has, T.hasL_any, h]; simp [hg]

set_option maxRecDepth 100000 in
theorem rlknows_any (o : Od) (t : T) : ∀ (w : World) (vo v : Value), IsOd w o vo → IsT w t v →
    Calls Try.prog 23 #[vo, v] w (Ret fun v' w' => v' = .bool (o.lknows t) ∧ Below w.heap.size w w') := by
  induction t using T.ind with
  | h f l ih =>
  intro w vo v ho hv
  have ho0 := ho
  have hv0 := hv
  obtain ⟨a1, a2, c1, c2, rfl, n1, n2, n3, n4, p1, p2, _⟩ := ho
  obtain ⟨hf, a, c, rfl, hc, hm, hl⟩ := hv
  unfold maxLen at hm n2 n4
  have hf1 := hf.1
  have hf2 := hf.2
  refine Calls.walk (l := [.agg #[.bool o.lpo, .slice a1 o.prec.length c1, .slice a2 o.weights.length c2, .int .i64 o.var], .agg #[.int .i64 f, .slice a l.length c]]) Try.func23 rfl (by kernel_rfl) ?_
  refine WC.sub (K' := [(0, .agg #[.bool o.lpo, .slice a1 o.prec.length c1, .slice a2 o.weights.length c2, .int .i64 o.var]), (1, .agg #[.int .i64 f, .slice a l.length c])]) ⟨rfl, rfl, trivial⟩ ?_
  refine WC.seq ?_
  refine WC.region ?_
  refine WL.step (post := NewBlk w 24 #[.bool o.lpo, .slice a1 o.prec.length c1, .slice a2 o.weights.length c2, .int .i64 o.var]) rfl rfl rfl (fun za zC zh zk => box_24 rfl (zh.ev rfl) (zk _ _ (newBlk _ _ _))) ?_
  rintro _ w1 ⟨g2, rfl, hg3, hB4, hb5, hz6⟩
  have hl7 : w.heap.size ≤ g2 := by omega
  refine WL.step (post := NewBlk w1 27 #[.int .i64 f, .slice a l.length c]) rfl rfl rfl (fun za zC zh zk => box_27 rfl (zh.ev rfl) (zk _ _ (newBlk _ _ _))) ?_
  rintro _ w8 ⟨g9, rfl, hg10, hB11, hb12, hz13⟩
  have hl14 : g2 < g9 := by have z1 := hB4.lt; omega
  have hl15 : w.heap.size ≤ g9 := by have z2 := (hb5).size; omega
  refine WL.val (.bool false) rfl rfl rfl (fun za zC zh zk => wp_assign rfl (zh.ev rfl) zk) ?_
  refine WL.nil (WE.sub (K' := [(0, .agg #[.bool o.lpo, .slice a1 o.prec.length c1, .slice a2 o.weights.length c2, .int .i64 o.var]), (1, .agg #[.int .i64 f, .slice a l.length c]), (2, .pointer (some ⟨g2, 0, none⟩)), (3, .pointer (some ⟨g9, 0, none⟩)), (4, .bool false)]) ⟨rfl, rfl, rfl, rfl, rfl, trivial⟩ ?_)
  refine WE.next ?_
  refine WC.seq ?_
  refine WC.seq ?_
  refine WC.region ?_
  refine WL.val (.pointer (some ⟨g9, 0, none⟩)) rfl rfl rfl (fun za zC zh zk => fld_27_0 rfl (zh.ev rfl) zk) ?_
  refine WL.val (.int .i64 f) rfl rfl rfl (fun za zC zh zk => ld_3 rfl (zh.ev rfl) ((hB11.cell 0).trans rfl) zk) ?_
  refine WL.val (.bool ((decide ((f : Int) < (0 : Int))))) rfl rfl rfl (fun za zC zh zk => lss_3 rfl (zh.ev rfl) (zh.ev rfl) zk) ?_
  refine WL.nil (WE.sub (K' := [(0, .agg #[.bool o.lpo, .slice a1 o.prec.length c1, .slice a2 o.weights.length c2, .int .i64 o.var]), (1, .agg #[.int .i64 f, .slice a l.length c]), (2, .pointer (some ⟨g2, 0, none⟩)), (3, .pointer (some ⟨g9, 0, none⟩)), (4, .bool false), (8, .bool ((decide ((f : Int) < (0 : Int)))))]) ⟨rfl, rfl, rfl, rfl, rfl, rfl, trivial⟩ ?_)
  refine WE.next ?_
  refine WC.cond rfl (fun h16 => ?_) (fun h16 => ?_)
  · have h16 : (f : Int) < (0 : Int) := by simpa using h16
    refine WC.seq ?_
    refine WC.region ?_
    refine WL.val (.pointer (some ⟨g9, 1, none⟩)) rfl rfl rfl (fun za zC zh zk => fld_27_1 rfl (zh.ev rfl) zk) ?_
    refine WL.val (.slice a l.length c) rfl rfl rfl (fun za zC zh zk => ld_25 rfl (zh.ev rfl) ((hB11.cell 1).trans rfl) zk) ?_
    refine WL.val (.int .i64 (((l.length : Nat) : Int))) rfl rfl rfl (fun za zC zh zk => len_25 rfl (zh.ev rfl) zk) ?_
    refine WL.val (.bool (((((l.length : Nat) : Int) : Int) == (0 : Int)))) rfl rfl rfl (fun za zC zh zk => eql_3 rfl (zh.ev rfl) (zh.ev rfl) zk) ?_
    refine WL.val (.bool (((((l.length : Nat) : Int) : Int) == (0 : Int)))) rfl rfl rfl (fun za zC zh zk => wp_assign rfl (zh.ev rfl) zk) ?_
    refine WL.nil (WE.sub (K' := [(0, .agg #[.bool o.lpo, .slice a1 o.prec.length c1, .slice a2 o.weights.length c2, .int .i64 o.var]), (1, .agg #[.int .i64 f, .slice a l.length c]), (2, .pointer (some ⟨g2, 0, none⟩)), (3, .pointer (some ⟨g9, 0, none⟩)), (4, .bool (((((l.length : Nat) : Int) : Int) == (0 : Int)))), (8, .bool ((decide ((f : Int) < (0 : Int)))))]) ⟨rfl, rfl, rfl, rfl, rfl, rfl, trivial⟩ ?_)
    refine WE.next ?_
    refine WC.ret ?_
    refine WE.thenRet ?_
    refine WE.ret1 rfl rfl ?_
    have hb17 : Below w.heap.size w w8 := (bstep hb5 hb12)
    exact ⟨_, rfl, congrArg Value.bool (by first | exact lk1 (by omega) | exact lk2 (by omega) (by omega) | exact lk3 (k := k) (by omega) (by omega) (by assumption) | exact lk4 (k := k) (by omega) (by omega) hall (by omega)), hb17⟩
  · have h16 : ¬ ((f : Int) < (0 : Int)) := by simpa using h16
    refine WC.skip ?_
    refine WE.next ?_
    refine WC.seq ?_
    refine WC.seq ?_
    refine WC.region ?_
    refine WL.val (.pointer (some ⟨g9, 0, none⟩)) rfl rfl rfl (fun za zC zh zk => fld_27_0 rfl (zh.ev rfl) zk) ?_
    refine WL.val (.int .i64 f) rfl rfl rfl (fun za zC zh zk => ld_3 rfl (zh.ev rfl) ((hB11.cell 0).trans rfl) zk) ?_
    refine WL.val (.pointer (some ⟨g2, 1, none⟩)) rfl rfl rfl (fun za zC zh zk => fld_24_1 rfl (zh.ev rfl) zk) ?_
    have hB18 := hB4.below hb12
    refine WL.val (.slice a1 o.prec.length c1) rfl rfl rfl (fun za zC zh zk => ld_22 rfl (zh.ev rfl) ((hB18.cell 1).trans rfl) zk) ?_
    refine WL.val (.int .i64 (((o.prec.length : Nat) : Int))) rfl rfl rfl (fun za zC zh zk => len_22 rfl (zh.ev rfl) zk) ?_
    refine WL.val (.bool ((decide ((((o.prec.length : Nat) : Int) : Int) ≤ (f : Int))))) rfl rfl rfl (fun za zC zh zk => geq_3 rfl (zh.ev rfl) (zh.ev rfl) zk) ?_
    refine WL.nil (WE.sub (K' := [(0, .agg #[.bool o.lpo, .slice a1 o.prec.length c1, .slice a2 o.weights.length c2, .int .i64 o.var]), (1, .agg #[.int .i64 f, .slice a l.length c]), (2, .pointer (some ⟨g2, 0, none⟩)), (3, .pointer (some ⟨g9, 0, none⟩)), (4, .bool false), (8, .bool ((decide ((f : Int) < (0 : Int))))), (18, .bool ((decide ((((o.prec.length : Nat) : Int) : Int) ≤ (f : Int)))))]) ⟨rfl, rfl, rfl, rfl, rfl, rfl, rfl, trivial⟩ ?_)
    refine WE.next ?_
    refine WC.cond rfl (fun h19 => ?_) (fun h19 => ?_)
    · have h19 : (((o.prec.length : Nat) : Int) : Int) ≤ (f : Int) := by simpa using h19
      refine WC.seq ?_
      refine WC.region ?_
      refine WL.val (.bool false) rfl rfl rfl (fun za zC zh zk => wp_assign rfl (zh.ev rfl) zk) ?_
      refine WL.nil (WE.sub (K' := [(0, .agg #[.bool o.lpo, .slice a1 o.prec.length c1, .slice a2 o.weights.length c2, .int .i64 o.var]), (1, .agg #[.int .i64 f, .slice a l.length c]), (2, .pointer (some ⟨g2, 0, none⟩)), (3, .pointer (some ⟨g9, 0, none⟩)), (4, .bool false), (8, .bool ((decide ((f : Int) < (0 : Int))))), (18, .bool ((decide ((((o.prec.length : Nat) : Int) : Int) ≤ (f : Int)))))]) ⟨rfl, rfl, rfl, rfl, rfl, rfl, rfl, trivial⟩ ?_)
      refine WE.next ?_
      refine WC.ret ?_
      refine WE.thenRet ?_
      refine WE.ret1 rfl rfl ?_
      have hb20 : Below w.heap.size w w8 := (bstep hb5 hb12)
      exact ⟨_, rfl, congrArg Value.bool (by first | exact lk1 (by omega) | exact lk2 (by omega) (by omega) | exact lk3 (k := k) (by omega) (by omega) (by assumption) | exact lk4 (k := k) (by omega) (by omega) hall (by omega)), hb20⟩
    · have h19 : ¬ ((((o.prec.length : Nat) : Int) : Int) ≤ (f : Int)) := by simpa using h19
      refine WC.skip ?_
      refine WE.next ?_
      refine WC.seq ?_
      refine WC.seq ?_
      refine WC.region ?_
      refine WL.val (.int .i64 0) rfl rfl rfl (fun za zC zh zk => wp_assign rfl (zh.ev rfl) zk) ?_
      refine WL.nil (WE.sub (K' := [(0, .agg #[.bool o.lpo, .slice a1 o.prec.length c1, .slice a2 o.weights.length c2, .int .i64 o.var]), (1, .agg #[.int .i64 f, .slice a l.length c]), (2, .pointer (some ⟨g2, 0, none⟩)), (3, .pointer (some ⟨g9, 0, none⟩)), (4, .bool false), (5, .int .i64 0), (8, .bool ((decide ((f : Int) < (0 : Int))))), (18, .bool ((decide ((((o.prec.length : Nat) : Int) : Int) ≤ (f : Int)))))]) ⟨rfl, rfl, rfl, rfl, rfl, rfl, rfl, rfl, trivial⟩ ?_)
      refine WE.next ?_
      refine WC.block ?_
      refine WC.loop (X := Nat) (fun k => l.length - k) (fun k => [(0, .agg #[.bool o.lpo, .slice a1 o.prec.length c1, .slice a2 o.weights.length c2, .int .i64 o.var]), (1, .agg #[.int .i64 f, .slice a l.length c]), (2, .pointer (some ⟨g2, 0, none⟩)), (3, .pointer (some ⟨g9, 0, none⟩)), (5, .int .i64 (((k : Nat) : Int))), (8, .bool ((decide ((f : Int) < (0 : Int))))), (18, .bool ((decide ((((o.prec.length : Nat) : Int) : Int) ≤ (f : Int)))))]) (fun k w21 => k ≤ l.length ∧ (l.take k).all o.lknows = true ∧ Below w.heap.size w w21 ∧ Blk w21 g2 24 #[.bool o.lpo, .slice a1 o.prec.length c1, .slice a2 o.weights.length c2, .int .i64 o.var] ∧ Blk w21 g9 27 #[.int .i64 f, .slice a l.length c]) 0 ⟨rfl, rfl, rfl, rfl, rfl, rfl, rfl, trivial⟩ ?_ ?_
      · have hb22 : Below w.heap.size w w8 := (bstep hb5 hb12)
        exact ⟨Nat.zero_le _, rfl, hb22, hB18, hB11⟩
      · rintro k w21 ⟨hk, hall, hb23, hB24, hB25⟩
        refine WC.seq ?_
        refine WC.seq ?_
        refine WC.region ?_
        refine WL.val (.int .i64 (((k : Nat) : Int))) rfl rfl rfl (fun za zC zh zk => wp_move rfl (zh.ev rfl) zk) ?_
        refine WL.val (.pointer (some ⟨g9, 1, none⟩)) rfl rfl rfl (fun za zC zh zk => fld_27_1 rfl (zh.ev rfl) zk) ?_
        refine WL.val (.slice a l.length c) rfl rfl rfl (fun za zC zh zk => ld_25 rfl (zh.ev rfl) ((hB25.cell 1).trans rfl) zk) ?_
        refine WL.val (.int .i64 (((l.length : Nat) : Int))) rfl rfl rfl (fun za zC zh zk => len_25 rfl (zh.ev rfl) zk) ?_
        refine WL.val (.bool ((decide ((((k : Nat) : Int) : Int) < (((l.length : Nat) : Int) : Int))))) rfl rfl rfl (fun za zC zh zk => lss_3 rfl (zh.ev rfl) (zh.ev rfl) zk) ?_
        refine WL.nil (WE.sub (K' := [(0, .agg #[.bool o.lpo, .slice a1 o.prec.length c1, .slice a2 o.weights.length c2, .int .i64 o.var]), (1, .agg #[.int .i64 f, .slice a l.length c]), (2, .pointer (some ⟨g2, 0, none⟩)), (3, .pointer (some ⟨g9, 0, none⟩)), (5, .int .i64 (((k : Nat) : Int))), (8, .bool ((decide ((f : Int) < (0 : Int))))), (18, .bool ((decide ((((o.prec.length : Nat) : Int) : Int) ≤ (f : Int))))), (23, .bool ((decide ((((k : Nat) : Int) : Int) < (((l.length : Nat) : Int) : Int)))))]) ⟨rfl, rfl, rfl, rfl, rfl, rfl, rfl, rfl, trivial⟩ ?_)
        refine WE.next ?_
        refine WC.cond rfl (fun h26 => ?_) (fun h26 => ?_)
        · have h26 : (((k : Nat) : Int) : Int) < (((l.length : Nat) : Int) : Int) := by simpa using h26
          refine WC.skip ?_
          refine WE.next ?_
          refine WC.seq ?_
          refine WC.block ?_
          refine WC.seq ?_
          obtain ⟨b27, o28, A29, C30, ha31, hc32⟩ := IsTs.open hl
          refine WC.opt [(true, .val (.agg #[.bool o.lpo, .slice a1 o.prec.length c1, .slice a2 o.weights.length c2, .int .i64 o.var])), (true, .val (.pointer (some ⟨g9, 1, none⟩))), (true, .val (.slice a l.length c)), (true, .val (.int .i64 (((k : Nat) : Int)))), (true, .val (.pointer (some ⟨b27, o28 + k * 2, none⟩))), (true, .val (.agg #[.int .i64 ((tget l k).f), .slice ((A29 k)) ((tget l k).args.length) ((C30 k))])), (true, .val (.bool ((o.lknows (tget l k))))), (true, .val (.bool ((!(o.lknows (tget l k))))))] [(0, .agg #[.bool o.lpo, .slice a1 o.prec.length c1, .slice a2 o.weights.length c2, .int .i64 o.var]), (1, .agg #[.int .i64 f, .slice a l.length c]), (2, .pointer (some ⟨g2, 0, none⟩)), (3, .pointer (some ⟨g9, 0, none⟩)), (5, .int .i64 (((k : Nat) : Int))), (8, .bool ((decide ((f : Int) < (0 : Int))))), (18, .bool ((decide ((((o.prec.length : Nat) : Int) : Int) ≤ (f : Int))))), (23, .bool ((decide ((((k : Nat) : Int) : Int) < (((l.length : Nat) : Int) : Int)))))] ⟨rfl, rfl, rfl, rfl, rfl, rfl, rfl, rfl, trivial⟩ (by kernel_rfl) (by kernel_rfl) (by kernel_rfl) ?_ ?_
          · refine ⟨⟨true, .none rfl, fun h w => optUndef h, fun zβ za zw zc => ?_⟩, ?_⟩
            · exact ld_24 rfl (zc.kn.ev rfl) (bkeeps zc.below _ _ ((hB24.cell 0).trans rfl)) (bkeeps zc.below _ _ ((hB24.cell 1).trans rfl)) (bkeeps zc.below _ _ ((hB24.cell 2).trans rfl)) (bkeeps zc.below _ _ ((hB24.cell 3).trans rfl)) ⟨_, rfl, Below.refl _ _, optDef zβ rfl⟩
            refine ⟨⟨true, .none rfl, fun h w => optUndef h, fun zβ za zw zc => ?_⟩, ?_⟩
            · exact fld_27_1 rfl (zc.kn.ev rfl) ⟨_, rfl, Below.refl _ _, optDef zβ rfl⟩
            refine ⟨⟨true, .none rfl, fun h w => optUndef h, fun zβ za zw zc => ?_⟩, ?_⟩
            · exact ld_25 rfl ((show za.eval (.tmp 27) = za.tmps.getD 27 undef from rfl).trans (optVal (zc.dep 1 27 (by kernel_rfl)) rfl rfl)) (bkeeps zc.below _ _ ((hB25.cell 1).trans rfl)) ⟨_, rfl, Below.refl _ _, optDef zβ rfl⟩
            refine ⟨⟨true, .none rfl, fun h w => optUndef h, fun zβ za zw zc => ?_⟩, ?_⟩
            · exact wp_move rfl (zc.kn.ev rfl) ⟨_, rfl, Below.refl _ _, optDef zβ rfl⟩
            refine ⟨⟨true, .none rfl, fun h w => optUndef h, fun zβ za zw zc => ?_⟩, ?_⟩
            · exact ix_25 (k := k) rfl ((show za.eval (.tmp 28) = za.tmps.getD 28 undef from rfl).trans (optVal (zc.dep 2 28 (by kernel_rfl)) rfl rfl)) (ha31 k (by first | omega | (simp; omega))) ((show za.eval (.tmp 29) = za.tmps.getD 29 undef from rfl).trans (optVal (zc.dep 3 29 (by kernel_rfl)) rfl rfl)) (by first | omega | (simp; omega)) ⟨_, rfl, Below.refl _ _, optDef zβ rfl⟩
            refine ⟨⟨true, .none rfl, fun h w => optUndef h, fun zβ za zw zc => ?_⟩, ?_⟩
            · exact ld_27 rfl ((show za.eval (.tmp 30) = za.tmps.getD 30 undef from rfl).trans (optVal (zc.dep 4 30 (by kernel_rfl)) rfl rfl)) (bkeeps (bstep hb23 zc.below) _ _ (hc32 k (by first | omega | (simp; omega))).1) (bkeeps (bstep hb23 zc.below) _ _ (hc32 k (by first | omega | (simp; omega))).2.1) ⟨_, rfl, Below.refl _ _, optDef zβ rfl⟩
            refine ⟨⟨true, .none rfl, fun h w => optUndef h, fun zβ za zw zc => ?_⟩, ?_⟩
            · exact wp_call (by kernel_rfl) rfl (hv2 ((show za.eval (.tmp 26) = za.tmps.getD 26 undef from rfl).trans (optVal (zc.dep 0 26 (by kernel_rfl)) rfl rfl)) ((show za.eval (.tmp 31) = za.tmps.getD 31 undef from rfl).trans (optVal (zc.dep 5 31 (by kernel_rfl)) rfl rfl))) (ih (tget l k) (tget_mem (by omega)) _ _ _ (ho0.below (bstep hb23 zc.below)) (IsT.below (bstep hb23 zc.below) (hc32 k (by first | omega | (simp; omega))).2.2)) (fun v w' h => ⟨v, rfl, h.2, optDef zβ h.1⟩)
            refine ⟨⟨true, .none rfl, fun h w => optUndef h, fun zβ za zw zc => ?_⟩, ?_⟩
            · exact wp_not rfl ((show za.eval (.tmp 32) = za.tmps.getD 32 undef from rfl).trans (optVal (zc.dep 6 32 (by kernel_rfl)) rfl rfl)) ⟨_, rfl, Below.refl _ _, optDef zβ rfl⟩
            exact trivial
          · intro za w33 zh hb34 zu
            have zh := zh.cons (d := 33) (v := .bool ((!(o.lknows (tget l k))))) (optVal (zu 7 33 (by kernel_rfl)) rfl rfl)
            clear zu
            refine (show WE _ [(0, .agg #[.bool o.lpo, .slice a1 o.prec.length c1, .slice a2 o.weights.length c2, .int .i64 o.var]), (1, .agg #[.int .i64 f, .slice a l.length c]), (2, .pointer (some ⟨g2, 0, none⟩)), (3, .pointer (some ⟨g9, 0, none⟩)), (5, .int .i64 (((k : Nat) : Int))), (8, .bool ((decide ((f : Int) < (0 : Int))))), (18, .bool ((decide ((((o.prec.length : Nat) : Int) : Int) ≤ (f : Int))))), (23, .bool ((decide ((((k : Nat) : Int) : Int) < (((l.length : Nat) : Int) : Int))))), (33, .bool ((!(o.lknows (tget l k)))))] w33 _ .normal from ?_) za (zh.sub ⟨rfl, rfl, rfl, rfl, rfl, rfl, rfl, rfl, rfl, trivial⟩)
            refine WE.next ?_
            refine WC.cond rfl (fun h35 => ?_) (fun h35 => ?_)
            · have h35 : ¬ ((o.lknows (tget l k)) = true) := by simpa using h35
              refine WC.seq ?_
              refine WC.region ?_
              refine WL.val (.bool false) rfl rfl rfl (fun za zC zh zk => wp_assign rfl (zh.ev rfl) zk) ?_
              refine WL.nil (WE.sub (K' := [(0, .agg #[.bool o.lpo, .slice a1 o.prec.length c1, .slice a2 o.weights.length c2, .int .i64 o.var]), (1, .agg #[.int .i64 f, .slice a l.length c]), (2, .pointer (some ⟨g2, 0, none⟩)), (3, .pointer (some ⟨g9, 0, none⟩)), (4, .bool false), (5, .int .i64 (((k : Nat) : Int))), (8, .bool ((decide ((f : Int) < (0 : Int))))), (18, .bool ((decide ((((o.prec.length : Nat) : Int) : Int) ≤ (f : Int))))), (23, .bool ((decide ((((k : Nat) : Int) : Int) < (((l.length : Nat) : Int) : Int))))), (33, .bool ((!(o.lknows (tget l k)))))]) ⟨rfl, rfl, rfl, rfl, rfl, rfl, rfl, rfl, rfl, rfl, trivial⟩ ?_)
              refine WE.next ?_
              refine WC.ret ?_
              refine WE.blockRet ?_
              refine WE.thenRet ?_
              refine WE.thenRet ?_
              refine WE.blockRet ?_
              refine WE.thenRet ?_
              refine WE.ret1 rfl rfl ?_
              have hb36 : Below w.heap.size w w33 := (bstep hb23 hb34)
              exact ⟨_, rfl, congrArg Value.bool (by first | exact lk1 (by omega) | exact lk2 (by omega) (by omega) | exact lk3 (k := k) (by omega) (by omega) (by assumption) | exact lk4 (k := k) (by omega) (by omega) hall (by omega)), hb36⟩
            · have h35 : ¬ (¬ ((o.lknows (tget l k)) = true)) := by simpa using h35
              refine WC.skip ?_
              refine WE.blockNormal ?_
              refine WE.next ?_
              refine WC.region ?_
              refine WL.val (.int .i64 (((k : Nat) : Int))) rfl rfl rfl (fun za zC zh zk => wp_move rfl (zh.ev rfl) zk) ?_
              refine WL.val (.int .i64 ((((k + 1) : Nat) : Int))) rfl rfl rfl (fun za zC zh zk => addb_3 rfl (zh.ev rfl) (zh.ev rfl) (wrap_eq (by omega) (by omega) (by omega)) zk) ?_
              refine WL.val (.int .i64 ((((k + 1) : Nat) : Int))) rfl rfl rfl (fun za zC zh zk => wp_assign rfl (zh.ev rfl) zk) ?_
              refine WL.nil (WE.sub (K' := [(0, .agg #[.bool o.lpo, .slice a1 o.prec.length c1, .slice a2 o.weights.length c2, .int .i64 o.var]), (1, .agg #[.int .i64 f, .slice a l.length c]), (2, .pointer (some ⟨g2, 0, none⟩)), (3, .pointer (some ⟨g9, 0, none⟩)), (5, .int .i64 ((((k + 1) : Nat) : Int))), (8, .bool ((decide ((f : Int) < (0 : Int))))), (18, .bool ((decide ((((o.prec.length : Nat) : Int) : Int) ≤ (f : Int))))), (23, .bool ((decide ((((k : Nat) : Int) : Int) < (((l.length : Nat) : Int) : Int))))), (33, .bool ((!(o.lknows (tget l k)))))]) ⟨rfl, rfl, rfl, rfl, rfl, rfl, rfl, rfl, rfl, trivial⟩ ?_)
              refine WE.round (k + 1) ⟨rfl, rfl, rfl, rfl, rfl, rfl, rfl, trivial⟩ ?_ ?_
              · have hb37 : Below w.heap.size w w33 := (bstep hb23 hb34)
                have hB38 := hB24.below hb34
                have hB39 := hB25.below hb34
                exact ⟨by omega, by rw [all_take_t _ _ _ (by omega), hall]; simp_all, hb37, hB38, hB39⟩
              · omega
        · have h26 : ¬ ((((k : Nat) : Int) : Int) < (((l.length : Nat) : Int) : Int)) := by simpa using h26
          refine WC.exit ?_
          refine WE.thenExit ?_
          refine WE.thenExit ?_
          refine WE.blockIs rfl ?_
          refine WE.next ?_
          refine WC.seq ?_
          refine WC.region ?_
          refine WL.val (.bool true) rfl rfl rfl (fun za zC zh zk => wp_assign rfl (zh.ev rfl) zk) ?_
          refine WL.nil (WE.sub (K' := [(0, .agg #[.bool o.lpo, .slice a1 o.prec.length c1, .slice a2 o.weights.length c2, .int .i64 o.var]), (1, .agg #[.int .i64 f, .slice a l.length c]), (2, .pointer (some ⟨g2, 0, none⟩)), (3, .pointer (some ⟨g9, 0, none⟩)), (4, .bool true), (5, .int .i64 (((k : Nat) : Int))), (8, .bool ((decide ((f : Int) < (0 : Int))))), (18, .bool ((decide ((((o.prec.length : Nat) : Int) : Int) ≤ (f : Int))))), (23, .bool ((decide ((((k : Nat) : Int) : Int) < (((l.length : Nat) : Int) : Int)))))]) ⟨rfl, rfl, rfl, rfl, rfl, rfl, rfl, rfl, rfl, trivial⟩ ?_)
          refine WE.next ?_
          refine WC.ret ?_
          refine WE.ret1 rfl rfl ?_
          exact ⟨_, rfl, congrArg Value.bool (by first | exact lk1 (by omega) | exact lk2 (by omega) (by omega) | exact lk3 (k := k) (by omega) (by omega) (by assumption) | exact lk4 (k := k) (by omega) (by omega) hall (by omega)), hb23⟩

set_option maxRecDepth 100000 in
theorem lknows_any (o : Od) (t : T) : ∀ (w : World) (vo v : Value), IsOd w o vo → IsT w t v →
    Calls Try.prog 25 #[vo, v] w (Ret fun v' w' => v' = .bool (o.lknows t) ∧ Below w.heap.size w w') := by
  induction t using T.ind with
  | h f l ih =>
  intro w vo v ho hv
  have ho0 := ho
  have hv0 := hv
  obtain ⟨a1, a2, c1, c2, rfl, n1, n2, n3, n4, p1, p2, _⟩ := ho
  obtain ⟨hf, a, c, rfl, hc, hm, hl⟩ := hv
  unfold maxLen at hm n2 n4
  have hf1 := hf.1
  have hf2 := hf.2
  refine Calls.walk (l := [.agg #[.bool o.lpo, .slice a1 o.prec.length c1, .slice a2 o.weights.length c2, .int .i64 o.var], .agg #[.int .i64 f, .slice a l.length c]]) Try.func25 rfl (by kernel_rfl) ?_
  refine WC.sub (K' := [(0, .agg #[.bool o.lpo, .slice a1 o.prec.length c1, .slice a2 o.weights.length c2, .int .i64 o.var]), (1, .agg #[.int .i64 f, .slice a l.length c])]) ⟨rfl, rfl, trivial⟩ ?_
  refine WC.seq ?_
  refine WC.region ?_
  refine WL.step (post := NewBlk w 24 #[.bool o.lpo, .slice a1 o.prec.length c1, .slice a2 o.weights.length c2, .int .i64 o.var]) rfl rfl rfl (fun za zC zh zk => box_24 rfl (zh.ev rfl) (zk _ _ (newBlk _ _ _))) ?_
  rintro _ w1 ⟨g2, rfl, hg3, hB4, hb5, hz6⟩
  have hl7 : w.heap.size ≤ g2 := by omega
  refine WL.step (post := NewBlk w1 27 #[.int .i64 f, .slice a l.length c]) rfl rfl rfl (fun za zC zh zk => box_27 rfl (zh.ev rfl) (zk _ _ (newBlk _ _ _))) ?_
  rintro _ w8 ⟨g9, rfl, hg10, hB11, hb12, hz13⟩
  have hl14 : g2 < g9 := by have z1 := hB4.lt; omega
  have hl15 : w.heap.size ≤ g9 := by have z2 := (hb5).size; omega
  refine WL.val (.bool false) rfl rfl rfl (fun za zC zh zk => wp_assign rfl (zh.ev rfl) zk) ?_
  refine WL.nil (WE.sub (K' := [(0, .agg #[.bool o.lpo, .slice a1 o.prec.length c1, .slice a2 o.weights.length c2, .int .i64 o.var]), (1, .agg #[.int .i64 f, .slice a l.length c]), (2, .pointer (some ⟨g2, 0, none⟩)), (3, .pointer (some ⟨g9, 0, none⟩)), (4, .bool false)]) ⟨rfl, rfl, rfl, rfl, rfl, trivial⟩ ?_)
  refine WE.next ?_
  refine WC.seq ?_
  refine WC.seq ?_
  refine WC.region ?_
  refine WL.val (.pointer (some ⟨g9, 0, none⟩)) rfl rfl rfl (fun za zC zh zk => fld_27_0 rfl (zh.ev rfl) zk) ?_
  refine WL.val (.int .i64 f) rfl rfl rfl (fun za zC zh zk => ld_3 rfl (zh.ev rfl) ((hB11.cell 0).trans rfl) zk) ?_
  refine WL.val (.bool ((decide ((f : Int) < (0 : Int))))) rfl rfl rfl (fun za zC zh zk => lss_3 rfl (zh.ev rfl) (zh.ev rfl) zk) ?_
  refine WL.nil (WE.sub (K' := [(0, .agg #[.bool o.lpo, .slice a1 o.prec.length c1, .slice a2 o.weights.length c2, .int .i64 o.var]), (1, .agg #[.int .i64 f, .slice a l.length c]), (2, .pointer (some ⟨g2, 0, none⟩)), (3, .pointer (some ⟨g9, 0, none⟩)), (4, .bool false), (9, .bool ((decide ((f : Int) < (0 : Int)))))]) ⟨rfl, rfl, rfl, rfl, rfl, rfl, trivial⟩ ?_)
  refine WE.next ?_
  refine WC.cond rfl (fun h16 => ?_) (fun h16 => ?_)
  · have h16 : (f : Int) < (0 : Int) := by simpa using h16
    refine WC.seq ?_
    refine WC.region ?_
    refine WL.val (.pointer (some ⟨g9, 1, none⟩)) rfl rfl rfl (fun za zC zh zk => fld_27_1 rfl (zh.ev rfl) zk) ?_
    refine WL.val (.slice a l.length c) rfl rfl rfl (fun za zC zh zk => ld_25 rfl (zh.ev rfl) ((hB11.cell 1).trans rfl) zk) ?_
    refine WL.val (.int .i64 (((l.length : Nat) : Int))) rfl rfl rfl (fun za zC zh zk => len_25 rfl (zh.ev rfl) zk) ?_
    refine WL.val (.bool (((((l.length : Nat) : Int) : Int) == (0 : Int)))) rfl rfl rfl (fun za zC zh zk => eql_3 rfl (zh.ev rfl) (zh.ev rfl) zk) ?_
    refine WL.val (.bool (((((l.length : Nat) : Int) : Int) == (0 : Int)))) rfl rfl rfl (fun za zC zh zk => wp_assign rfl (zh.ev rfl) zk) ?_
    refine WL.nil (WE.sub (K' := [(0, .agg #[.bool o.lpo, .slice a1 o.prec.length c1, .slice a2 o.weights.length c2, .int .i64 o.var]), (1, .agg #[.int .i64 f, .slice a l.length c]), (2, .pointer (some ⟨g2, 0, none⟩)), (3, .pointer (some ⟨g9, 0, none⟩)), (4, .bool (((((l.length : Nat) : Int) : Int) == (0 : Int)))), (9, .bool ((decide ((f : Int) < (0 : Int)))))]) ⟨rfl, rfl, rfl, rfl, rfl, rfl, trivial⟩ ?_)
    refine WE.next ?_
    refine WC.ret ?_
    refine WE.thenRet ?_
    refine WE.ret1 rfl rfl ?_
    have hb17 : Below w.heap.size w w8 := (bstep hb5 hb12)
    exact ⟨_, rfl, congrArg Value.bool (by first | exact lk1 (by omega) | exact lk2 (by omega) (by omega) | exact lk3 (k := k) (by omega) (by omega) (by assumption) | exact lk4 (k := k) (by omega) (by omega) hall (by omega)), hb17⟩
  · have h16 : ¬ ((f : Int) < (0 : Int)) := by simpa using h16
    refine WC.skip ?_
    refine WE.next ?_
    refine WC.seq ?_
    refine WC.seq ?_
    refine WC.region ?_
    refine WL.val (.pointer (some ⟨g9, 0, none⟩)) rfl rfl rfl (fun za zC zh zk => fld_27_0 rfl (zh.ev rfl) zk) ?_
    refine WL.val (.int .i64 f) rfl rfl rfl (fun za zC zh zk => ld_3 rfl (zh.ev rfl) ((hB11.cell 0).trans rfl) zk) ?_
    refine WL.val (.pointer (some ⟨g2, 1, none⟩)) rfl rfl rfl (fun za zC zh zk => fld_24_1 rfl (zh.ev rfl) zk) ?_
    have hB18 := hB4.below hb12
    refine WL.val (.slice a1 o.prec.length c1) rfl rfl rfl (fun za zC zh zk => ld_22 rfl (zh.ev rfl) ((hB18.cell 1).trans rfl) zk) ?_
    refine WL.val (.int .i64 (((o.prec.length : Nat) : Int))) rfl rfl rfl (fun za zC zh zk => len_22 rfl (zh.ev rfl) zk) ?_
    refine WL.val (.bool ((decide ((((o.prec.length : Nat) : Int) : Int) ≤ (f : Int))))) rfl rfl rfl (fun za zC zh zk => geq_3 rfl (zh.ev rfl) (zh.ev rfl) zk) ?_
    refine WL.nil (WE.sub (K' := [(0, .agg #[.bool o.lpo, .slice a1 o.prec.length c1, .slice a2 o.weights.length c2, .int .i64 o.var]), (1, .agg #[.int .i64 f, .slice a l.length c]), (2, .pointer (some ⟨g2, 0, none⟩)), (3, .pointer (some ⟨g9, 0, none⟩)), (4, .bool false), (9, .bool ((decide ((f : Int) < (0 : Int))))), (19, .bool ((decide ((((o.prec.length : Nat) : Int) : Int) ≤ (f : Int)))))]) ⟨rfl, rfl, rfl, rfl, rfl, rfl, rfl, trivial⟩ ?_)
    refine WE.next ?_
    refine WC.cond rfl (fun h19 => ?_) (fun h19 => ?_)
    · have h19 : (((o.prec.length : Nat) : Int) : Int) ≤ (f : Int) := by simpa using h19
      refine WC.seq ?_
      refine WC.region ?_
      refine WL.val (.bool false) rfl rfl rfl (fun za zC zh zk => wp_assign rfl (zh.ev rfl) zk) ?_
      refine WL.nil (WE.sub (K' := [(0, .agg #[.bool o.lpo, .slice a1 o.prec.length c1, .slice a2 o.weights.length c2, .int .i64 o.var]), (1, .agg #[.int .i64 f, .slice a l.length c]), (2, .pointer (some ⟨g2, 0, none⟩)), (3, .pointer (some ⟨g9, 0, none⟩)), (4, .bool false), (9, .bool ((decide ((f : Int) < (0 : Int))))), (19, .bool ((decide ((((o.prec.length : Nat) : Int) : Int) ≤ (f : Int)))))]) ⟨rfl, rfl, rfl, rfl, rfl, rfl, rfl, trivial⟩ ?_)
      refine WE.next ?_
      refine WC.ret ?_
      refine WE.thenRet ?_
      refine WE.ret1 rfl rfl ?_
      have hb20 : Below w.heap.size w w8 := (bstep hb5 hb12)
      exact ⟨_, rfl, congrArg Value.bool (by first | exact lk1 (by omega) | exact lk2 (by omega) (by omega) | exact lk3 (k := k) (by omega) (by omega) (by assumption) | exact lk4 (k := k) (by omega) (by omega) hall (by omega)), hb20⟩
    · have h19 : ¬ ((((o.prec.length : Nat) : Int) : Int) ≤ (f : Int)) := by simpa using h19
      refine WC.skip ?_
      refine WE.next ?_
      refine WC.seq ?_
      refine WC.seq ?_
      refine WC.region ?_
      refine WL.val (.pointer (some ⟨g9, 1, none⟩)) rfl rfl rfl (fun za zC zh zk => fld_27_1 rfl (zh.ev rfl) zk) ?_
      refine WL.val (.slice a l.length c) rfl rfl rfl (fun za zC zh zk => ld_25 rfl (zh.ev rfl) ((hB11.cell 1).trans rfl) zk) ?_
      refine WL.val (.int .i64 (((l.length : Nat) : Int))) rfl rfl rfl (fun za zC zh zk => len_25 rfl (zh.ev rfl) zk) ?_
      refine WL.val (.int .i64 0) rfl rfl rfl (fun za zC zh zk => wp_move rfl (zh.ev rfl) zk) ?_
      refine WL.nil (WE.sub (K' := [(0, .agg #[.bool o.lpo, .slice a1 o.prec.length c1, .slice a2 o.weights.length c2, .int .i64 o.var]), (1, .agg #[.int .i64 f, .slice a l.length c]), (2, .pointer (some ⟨g2, 0, none⟩)), (3, .pointer (some ⟨g9, 0, none⟩)), (4, .bool false), (9, .bool ((decide ((f : Int) < (0 : Int))))), (19, .bool ((decide ((((o.prec.length : Nat) : Int) : Int) ≤ (f : Int))))), (21, .slice a l.length c), (22, .int .i64 (((l.length : Nat) : Int))), (23, .int .i64 0)]) ⟨rfl, rfl, rfl, rfl, rfl, rfl, rfl, rfl, rfl, rfl, trivial⟩ ?_)
      refine WE.next ?_
      refine WC.block ?_
      refine WC.loop (X := Nat) (fun k => l.length - k) (fun k => [(0, .agg #[.bool o.lpo, .slice a1 o.prec.length c1, .slice a2 o.weights.length c2, .int .i64 o.var]), (1, .agg #[.int .i64 f, .slice a l.length c]), (2, .pointer (some ⟨g2, 0, none⟩)), (3, .pointer (some ⟨g9, 0, none⟩)), (9, .bool ((decide ((f : Int) < (0 : Int))))), (19, .bool ((decide ((((o.prec.length : Nat) : Int) : Int) ≤ (f : Int))))), (21, .slice a l.length c), (22, .int .i64 (((l.length : Nat) : Int))), (23, .int .i64 (((k : Nat) : Int)))]) (fun k w21 => k ≤ l.length ∧ (l.take k).all o.lknows = true ∧ Below w.heap.size w w21 ∧ Blk w21 g2 24 #[.bool o.lpo, .slice a1 o.prec.length c1, .slice a2 o.weights.length c2, .int .i64 o.var] ∧ Blk w21 g9 27 #[.int .i64 f, .slice a l.length c]) 0 ⟨rfl, rfl, rfl, rfl, rfl, rfl, rfl, rfl, rfl, trivial⟩ ?_ ?_
      · have hb22 : Below w.heap.size w w8 := (bstep hb5 hb12)
        exact ⟨Nat.zero_le _, rfl, hb22, hB18, hB11⟩
      · rintro k w21 ⟨hk, hall, hb23, hB24, hB25⟩
        refine WC.seq ?_
        refine WC.region ?_
        refine WL.val (.bool ((decide ((((k : Nat) : Int) : Int) < (((l.length : Nat) : Int) : Int))))) rfl rfl rfl (fun za zC zh zk => lss_3 rfl (zh.ev rfl) (zh.ev rfl) zk) ?_
        refine WL.nil (WE.sub (K' := [(0, .agg #[.bool o.lpo, .slice a1 o.prec.length c1, .slice a2 o.weights.length c2, .int .i64 o.var]), (1, .agg #[.int .i64 f, .slice a l.length c]), (2, .pointer (some ⟨g2, 0, none⟩)), (3, .pointer (some ⟨g9, 0, none⟩)), (9, .bool ((decide ((f : Int) < (0 : Int))))), (19, .bool ((decide ((((o.prec.length : Nat) : Int) : Int) ≤ (f : Int))))), (21, .slice a l.length c), (22, .int .i64 (((l.length : Nat) : Int))), (23, .int .i64 (((k : Nat) : Int))), (24, .bool ((decide ((((k : Nat) : Int) : Int) < (((l.length : Nat) : Int) : Int)))))]) ⟨rfl, rfl, rfl, rfl, rfl, rfl, rfl, rfl, rfl, rfl, trivial⟩ ?_)
        refine WE.next ?_
        refine WC.seq ?_
        refine WC.cond rfl (fun h26 => ?_) (fun h26 => ?_)
        · have h26 : (((k : Nat) : Int) : Int) < (((l.length : Nat) : Int) : Int) := by simpa using h26
          refine WC.skip ?_
          refine WE.next ?_
          refine WC.seq ?_
          refine WC.block ?_
          refine WC.seq ?_
          refine WC.region ?_
          obtain ⟨b27, o28, A29, C30, ha31, hc32⟩ := IsTs.open hl
          refine WL.val (.pointer (some ⟨b27, o28 + k * 2, none⟩)) rfl rfl rfl (fun za zC zh zk => ix_25 (k := k) rfl (zh.ev rfl) (ha31 k (by first | omega | (simp; omega))) (zh.ev rfl) (by first | omega | (simp; omega)) zk) ?_
          refine WL.val (.agg #[.int .i64 ((tget l k).f), .slice ((A29 k)) ((tget l k).args.length) ((C30 k))]) rfl rfl rfl (fun za zC zh zk => ld_27 rfl (zh.ev rfl) (bkeeps hb23 _ _ (hc32 k (by first | omega | (simp; omega))).1) (bkeeps hb23 _ _ (hc32 k (by first | omega | (simp; omega))).2.1) zk) ?_
          refine WL.step (post := NewBlk w21 27 #[.int .i64 0, .slice none 0 0]) rfl rfl rfl (fun za zC zh zk => alloc_27 rfl (zk _ _ (newBlk _ _ _))) ?_
          rintro _ w33 ⟨g34, rfl, hg35, hB36, hb37, hz38⟩
          have hl39 : g2 < g34 := by have z1 := hB24.lt; omega
          have hl40 : g9 < g34 := by have z1 := hB25.lt; omega
          have hl41 : w.heap.size ≤ g34 := by have z2 := (hb23).size; omega
          refine WL.step (post := fun _ w' => Upd g34 w33 w' ∧ Blk w' g34 27 #[.int .i64 ((tget l k).f), .slice ((A29 k)) ((tget l k).args.length) ((C30 k))]) rfl rfl rfl (fun za zC zh zk => st_27 rfl (zh.ev rfl) (zh.ev rfl) rfl rfl hB36 (by first | decide | simp) (fun v => zk v _ ⟨(Upd.at_ _ _ _ _).trans (Upd.at_ _ _ _ _), (hB36.set_ 0 _).set_ 1 _⟩)) ?_
          rintro v45 w42 ⟨hu43, hB44⟩
          have hb46 : Below w.heap.size w w33 := (bstep hb23 hb37)
          have hb47 := upd_below hb46 hu43 (by omega)
          have hB48 := hB24.below hb37
          have hB49 := upd_blk hB48 hu43 (by omega)
          have hB50 := hB25.below hb37
          have hB51 := upd_blk hB50 hu43 (by omega)
          refine WL.nil (WE.sub (K' := [(0, .agg #[.bool o.lpo, .slice a1 o.prec.length c1, .slice a2 o.weights.length c2, .int .i64 o.var]), (1, .agg #[.int .i64 f, .slice a l.length c]), (2, .pointer (some ⟨g2, 0, none⟩)), (3, .pointer (some ⟨g9, 0, none⟩)), (6, .pointer (some ⟨g34, 0, none⟩)), (9, .bool ((decide ((f : Int) < (0 : Int))))), (19, .bool ((decide ((((o.prec.length : Nat) : Int) : Int) ≤ (f : Int))))), (21, .slice a l.length c), (22, .int .i64 (((l.length : Nat) : Int))), (23, .int .i64 (((k : Nat) : Int))), (24, .bool ((decide ((((k : Nat) : Int) : Int) < (((l.length : Nat) : Int) : Int)))))]) ⟨rfl, rfl, rfl, rfl, rfl, rfl, rfl, rfl, rfl, rfl, rfl, trivial⟩ ?_)
          refine WE.next ?_
          refine WC.seq ?_
          refine WC.region ?_
          refine WL.val (.agg #[.bool o.lpo, .slice a1 o.prec.length c1, .slice a2 o.weights.length c2, .int .i64 o.var]) rfl rfl rfl (fun za zC zh zk => ld_24 rfl (zh.ev rfl) ((hB49.cell 0).trans rfl) ((hB49.cell 1).trans rfl) ((hB49.cell 2).trans rfl) ((hB49.cell 3).trans rfl) zk) ?_
          refine WL.val (.agg #[.int .i64 ((tget l k).f), .slice ((A29 k)) ((tget l k).args.length) ((C30 k))]) rfl rfl rfl (fun za zC zh zk => ld_27 rfl (zh.ev rfl) ((hB44.cell 0).trans rfl) ((hB44.cell 1).trans rfl) zk) ?_
          refine WL.call rfl rfl rfl (fun za zh zC => wp_call (by kernel_rfl) rfl (hv2 (zh.ev rfl) (zh.ev rfl))) (ih (tget l k) (tget_mem (by omega)) _ _ _ (ho0.below hb47) (IsT.below hb47 (hc32 k (by first | omega | (simp; omega))).2.2)) ?_
          rintro _ w52 ⟨rfl, hbc⟩
          refine WL.val (.bool ((!(o.lknows (tget l k))))) rfl rfl rfl (fun za zC zh zk => wp_not rfl (zh.ev rfl) zk) ?_
          refine WL.nil (WE.sub (K' := [(0, .agg #[.bool o.lpo, .slice a1 o.prec.length c1, .slice a2 o.weights.length c2, .int .i64 o.var]), (1, .agg #[.int .i64 f, .slice a l.length c]), (2, .pointer (some ⟨g2, 0, none⟩)), (3, .pointer (some ⟨g9, 0, none⟩)), (6, .pointer (some ⟨g34, 0, none⟩)), (9, .bool ((decide ((f : Int) < (0 : Int))))), (19, .bool ((decide ((((o.prec.length : Nat) : Int) : Int) ≤ (f : Int))))), (21, .slice a l.length c), (22, .int .i64 (((l.length : Nat) : Int))), (23, .int .i64 (((k : Nat) : Int))), (24, .bool ((decide ((((k : Nat) : Int) : Int) < (((l.length : Nat) : Int) : Int))))), (30, .bool ((!(o.lknows (tget l k)))))]) ⟨rfl, rfl, rfl, rfl, rfl, rfl, rfl, rfl, rfl, rfl, rfl, rfl, trivial⟩ ?_)
          refine WE.next ?_
          refine WC.cond rfl (fun h53 => ?_) (fun h53 => ?_)
          · have h53 : ¬ ((o.lknows (tget l k)) = true) := by simpa using h53
            refine WC.seq ?_
            refine WC.region ?_
            refine WL.val (.bool false) rfl rfl rfl (fun za zC zh zk => wp_assign rfl (zh.ev rfl) zk) ?_
            refine WL.nil (WE.sub (K' := [(0, .agg #[.bool o.lpo, .slice a1 o.prec.length c1, .slice a2 o.weights.length c2, .int .i64 o.var]), (1, .agg #[.int .i64 f, .slice a l.length c]), (2, .pointer (some ⟨g2, 0, none⟩)), (3, .pointer (some ⟨g9, 0, none⟩)), (4, .bool false), (6, .pointer (some ⟨g34, 0, none⟩)), (9, .bool ((decide ((f : Int) < (0 : Int))))), (19, .bool ((decide ((((o.prec.length : Nat) : Int) : Int) ≤ (f : Int))))), (21, .slice a l.length c), (22, .int .i64 (((l.length : Nat) : Int))), (23, .int .i64 (((k : Nat) : Int))), (24, .bool ((decide ((((k : Nat) : Int) : Int) < (((l.length : Nat) : Int) : Int))))), (30, .bool ((!(o.lknows (tget l k)))))]) ⟨rfl, rfl, rfl, rfl, rfl, rfl, rfl, rfl, rfl, rfl, rfl, rfl, rfl, trivial⟩ ?_)
            refine WE.next ?_
            refine WC.ret ?_
            refine WE.blockRet ?_
            refine WE.thenRet ?_
            refine WE.thenRet ?_
            refine WE.blockRet ?_
            refine WE.thenRet ?_
            refine WE.ret1 rfl rfl ?_
            have hb54 : Below w.heap.size w w52 := (bstep hb47 hbc)
            exact ⟨_, rfl, congrArg Value.bool (by first | exact lk1 (by omega) | exact lk2 (by omega) (by omega) | exact lk3 (k := k) (by omega) (by omega) (by assumption) | exact lk4 (k := k) (by omega) (by omega) hall (by omega)), hb54⟩
          · have h53 : ¬ (¬ ((o.lknows (tget l k)) = true)) := by simpa using h53
            refine WC.skip ?_
            refine WE.blockNormal ?_
            refine WE.next ?_
            refine WC.region ?_
            refine WL.val (.int .i64 ((((k + 1) : Nat) : Int))) rfl rfl rfl (fun za zC zh zk => addb_3 rfl (zh.ev rfl) (zh.ev rfl) (wrap_eq (by omega) (by omega) (by omega)) zk) ?_
            refine WL.val (.int .i64 ((((k + 1) : Nat) : Int))) rfl rfl rfl (fun za zC zh zk => wp_move rfl (zh.ev rfl) zk) ?_
            refine WL.nil (WE.sub (K' := [(0, .agg #[.bool o.lpo, .slice a1 o.prec.length c1, .slice a2 o.weights.length c2, .int .i64 o.var]), (1, .agg #[.int .i64 f, .slice a l.length c]), (2, .pointer (some ⟨g2, 0, none⟩)), (3, .pointer (some ⟨g9, 0, none⟩)), (6, .pointer (some ⟨g34, 0, none⟩)), (9, .bool ((decide ((f : Int) < (0 : Int))))), (19, .bool ((decide ((((o.prec.length : Nat) : Int) : Int) ≤ (f : Int))))), (21, .slice a l.length c), (22, .int .i64 (((l.length : Nat) : Int))), (23, .int .i64 ((((k + 1) : Nat) : Int))), (24, .bool ((decide ((((k : Nat) : Int) : Int) < (((l.length : Nat) : Int) : Int))))), (30, .bool ((!(o.lknows (tget l k)))))]) ⟨rfl, rfl, rfl, rfl, rfl, rfl, rfl, rfl, rfl, rfl, rfl, rfl, trivial⟩ ?_)
            refine WE.round (k + 1) ⟨rfl, rfl, rfl, rfl, rfl, rfl, rfl, rfl, rfl, trivial⟩ ?_ ?_
            · have hb55 : Below w.heap.size w w52 := (bstep hb47 hbc)
              have hB56 := hB49.below hbc
              have hB57 := hB51.below hbc
              exact ⟨by omega, by rw [all_take_t _ _ _ (by omega), hall]; simp_all, hb55, hB56, hB57⟩
            · omega
        · have h26 : ¬ ((((k : Nat) : Int) : Int) < (((l.length : Nat) : Int) : Int)) := by simpa using h26
          refine WC.exit ?_
          refine WE.thenExit ?_
          refine WE.thenExit ?_
          refine WE.blockIs rfl ?_
          refine WE.next ?_
          refine WC.seq ?_
          refine WC.region ?_
          refine WL.val (.bool true) rfl rfl rfl (fun za zC zh zk => wp_assign rfl (zh.ev rfl) zk) ?_
          refine WL.nil (WE.sub (K' := [(0, .agg #[.bool o.lpo, .slice a1 o.prec.length c1, .slice a2 o.weights.length c2, .int .i64 o.var]), (1, .agg #[.int .i64 f, .slice a l.length c]), (2, .pointer (some ⟨g2, 0, none⟩)), (3, .pointer (some ⟨g9, 0, none⟩)), (4, .bool true), (9, .bool ((decide ((f : Int) < (0 : Int))))), (19, .bool ((decide ((((o.prec.length : Nat) : Int) : Int) ≤ (f : Int))))), (21, .slice a l.length c), (22, .int .i64 (((l.length : Nat) : Int))), (23, .int .i64 (((k : Nat) : Int))), (24, .bool ((decide ((((k : Nat) : Int) : Int) < (((l.length : Nat) : Int) : Int)))))]) ⟨rfl, rfl, rfl, rfl, rfl, rfl, rfl, rfl, rfl, rfl, rfl, trivial⟩ ?_)
          refine WE.next ?_
          refine WC.ret ?_
          refine WE.ret1 rfl rfl ?_
          exact ⟨_, rfl, congrArg Value.bool (by first | exact lk1 (by omega) | exact lk2 (by omega) (by omega) | exact lk3 (k := k) (by omega) (by omega) (by assumption) | exact lk4 (k := k) (by omega) (by omega) hall (by omega)), hb23⟩

set_option maxRecDepth 100000 in
theorem has_any (g : Int) (hg : I64 g) (t : T) : ∀ (w : World) (v : Value), IsT w t v →
    Calls Try.prog 54 #[v, .int .i64 (-1 - g)] w (Ret fun v' w' => v' = .bool (T.has g t) ∧ Below w.heap.size w w') := by
  induction t using T.ind with
  | h f l ih =>
  intro w v hv
  obtain ⟨hf, a, c, rfl, hc, hm, hl⟩ := hv
  unfold maxLen at hm
  have hg1 := hg.1
  have hg2 := hg.2
  refine Calls.walk (l := [.agg #[.int .i64 f, .slice a l.length c], .int .i64 ((-1 - g))]) Try.func54 rfl (by kernel_rfl) ?_
  refine WC.sub (K' := [(0, .agg #[.int .i64 f, .slice a l.length c]), (1, .int .i64 ((-1 - g)))]) ⟨rfl, rfl, trivial⟩ ?_
  refine WC.seq ?_
  refine WC.region ?_
  refine WL.step (post := NewBlk w 27 #[.int .i64 f, .slice a l.length c]) rfl rfl rfl (fun za zC zh zk => box_27 rfl (zh.ev rfl) (zk _ _ (newBlk _ _ _))) ?_
  rintro _ w1 ⟨g2, rfl, hg3, hB4, hb5, hz6⟩
  have hl7 : w.heap.size ≤ g2 := by omega
  refine WL.val (.bool false) rfl rfl rfl (fun za zC zh zk => wp_assign rfl (zh.ev rfl) zk) ?_
  refine WL.nil (WE.sub (K' := [(0, .agg #[.int .i64 f, .slice a l.length c]), (1, .int .i64 ((-1 - g))), (2, .pointer (some ⟨g2, 0, none⟩)), (4, .bool false)]) ⟨rfl, rfl, rfl, rfl, trivial⟩ ?_)
  refine WE.next ?_
  refine WC.seq ?_
  refine WC.seq ?_
  refine WC.region ?_
  refine WL.val (.pointer (some ⟨g2, 0, none⟩)) rfl rfl rfl (fun za zC zh zk => fld_27_0 rfl (zh.ev rfl) zk) ?_
  refine WL.val (.int .i64 f) rfl rfl rfl (fun za zC zh zk => ld_3 rfl (zh.ev rfl) ((hB4.cell 0).trans rfl) zk) ?_
  refine WL.val (.int .i64 ((-1 - g))) rfl rfl rfl (fun za zC zh zk => wp_move rfl (zh.ev rfl) zk) ?_
  refine WL.val (.int .i64 g) rfl rfl rfl (fun za zC zh zk => subb_3 rfl (zh.ev rfl) (zh.ev rfl) (wrap_eq (by omega) (by omega) (by omega)) zk) ?_
  refine WL.val (.bool (((f : Int) == (g : Int)))) rfl rfl rfl (fun za zC zh zk => eql_3 rfl (zh.ev rfl) (zh.ev rfl) zk) ?_
  refine WL.nil (WE.sub (K' := [(0, .agg #[.int .i64 f, .slice a l.length c]), (1, .int .i64 ((-1 - g))), (2, .pointer (some ⟨g2, 0, none⟩)), (4, .bool false), (10, .bool (((f : Int) == (g : Int))))]) ⟨rfl, rfl, rfl, rfl, rfl, trivial⟩ ?_)
  refine WE.next ?_
  refine WC.cond rfl (fun h8 => ?_) (fun h8 => ?_)
  · have h8 : (f : Int) = (g : Int) := by simpa using h8
    refine WC.seq ?_
    refine WC.region ?_
    refine WL.val (.bool true) rfl rfl rfl (fun za zC zh zk => wp_assign rfl (zh.ev rfl) zk) ?_
    refine WL.nil (WE.sub (K' := [(0, .agg #[.int .i64 f, .slice a l.length c]), (1, .int .i64 ((-1 - g))), (2, .pointer (some ⟨g2, 0, none⟩)), (4, .bool true), (10, .bool (((f : Int) == (g : Int))))]) ⟨rfl, rfl, rfl, rfl, rfl, trivial⟩ ?_)
    refine WE.next ?_
    refine WC.ret ?_
    refine WE.thenRet ?_
    refine WE.ret1 rfl rfl ?_
    exact ⟨_, rfl, congrArg Value.bool (by first | exact hs2 (k := k) (by omega) (by assumption) | exact hs3 (k := k) (by assumption) hall (by omega) | (have e : f = g := (by assumption); subst e; exact hs1)), hb5⟩
  · have h8 : ¬ ((f : Int) = (g : Int)) := by simpa using h8
    refine WC.skip ?_
    refine WE.next ?_
    refine WC.seq ?_
    refine WC.seq ?_
    refine WC.region ?_
    refine WL.val (.int .i64 0) rfl rfl rfl (fun za zC zh zk => wp_assign rfl (zh.ev rfl) zk) ?_
    refine WL.nil (WE.sub (K' := [(0, .agg #[.int .i64 f, .slice a l.length c]), (1, .int .i64 ((-1 - g))), (2, .pointer (some ⟨g2, 0, none⟩)), (4, .bool false), (5, .int .i64 0), (10, .bool (((f : Int) == (g : Int))))]) ⟨rfl, rfl, rfl, rfl, rfl, rfl, trivial⟩ ?_)
    refine WE.next ?_
    refine WC.block ?_
    refine WC.loop (X := Nat) (fun k => l.length - k) (fun k => [(0, .agg #[.int .i64 f, .slice a l.length c]), (1, .int .i64 ((-1 - g))), (2, .pointer (some ⟨g2, 0, none⟩)), (5, .int .i64 (((k : Nat) : Int))), (10, .bool (((f : Int) == (g : Int))))]) (fun k w9 => k ≤ l.length ∧ (l.take k).any (T.has g) = false ∧ Below w.heap.size w w9 ∧ Blk w9 g2 27 #[.int .i64 f, .slice a l.length c]) 0 ⟨rfl, rfl, rfl, rfl, rfl, trivial⟩ ?_ ?_
    · exact ⟨Nat.zero_le _, rfl, hb5, hB4⟩
    · rintro k w9 ⟨hk, hall, hb10, hB11⟩
      refine WC.seq ?_
      refine WC.seq ?_
      refine WC.region ?_
      refine WL.val (.int .i64 (((k : Nat) : Int))) rfl rfl rfl (fun za zC zh zk => wp_move rfl (zh.ev rfl) zk) ?_
      refine WL.val (.pointer (some ⟨g2, 1, none⟩)) rfl rfl rfl (fun za zC zh zk => fld_27_1 rfl (zh.ev rfl) zk) ?_
      refine WL.val (.slice a l.length c) rfl rfl rfl (fun za zC zh zk => ld_25 rfl (zh.ev rfl) ((hB11.cell 1).trans rfl) zk) ?_
      refine WL.val (.int .i64 (((l.length : Nat) : Int))) rfl rfl rfl (fun za zC zh zk => len_25 rfl (zh.ev rfl) zk) ?_
      refine WL.val (.bool ((decide ((((k : Nat) : Int) : Int) < (((l.length : Nat) : Int) : Int))))) rfl rfl rfl (fun za zC zh zk => lss_3 rfl (zh.ev rfl) (zh.ev rfl) zk) ?_
      refine WL.nil (WE.sub (K' := [(0, .agg #[.int .i64 f, .slice a l.length c]), (1, .int .i64 ((-1 - g))), (2, .pointer (some ⟨g2, 0, none⟩)), (5, .int .i64 (((k : Nat) : Int))), (10, .bool (((f : Int) == (g : Int)))), (15, .bool ((decide ((((k : Nat) : Int) : Int) < (((l.length : Nat) : Int) : Int)))))]) ⟨rfl, rfl, rfl, rfl, rfl, rfl, trivial⟩ ?_)
      refine WE.next ?_
      refine WC.cond rfl (fun h12 => ?_) (fun h12 => ?_)
      · have h12 : (((k : Nat) : Int) : Int) < (((l.length : Nat) : Int) : Int) := by simpa using h12
        refine WC.skip ?_
        refine WE.next ?_
        refine WC.seq ?_
        refine WC.block ?_
        refine WC.seq ?_
        refine WC.region ?_
        refine WL.val (.pointer (some ⟨g2, 1, none⟩)) rfl rfl rfl (fun za zC zh zk => fld_27_1 rfl (zh.ev rfl) zk) ?_
        refine WL.val (.slice a l.length c) rfl rfl rfl (fun za zC zh zk => ld_25 rfl (zh.ev rfl) ((hB11.cell 1).trans rfl) zk) ?_
        refine WL.val (.int .i64 (((k : Nat) : Int))) rfl rfl rfl (fun za zC zh zk => wp_move rfl (zh.ev rfl) zk) ?_
        obtain ⟨b13, o14, A15, C16, ha17, hc18⟩ := IsTs.open hl
        refine WL.val (.pointer (some ⟨b13, o14 + k * 2, none⟩)) rfl rfl rfl (fun za zC zh zk => ix_25 (k := k) rfl (zh.ev rfl) (ha17 k (by first | omega | (simp; omega))) (zh.ev rfl) (by first | omega | (simp; omega)) zk) ?_
        refine WL.val (.agg #[.int .i64 ((tget l k).f), .slice ((A15 k)) ((tget l k).args.length) ((C16 k))]) rfl rfl rfl (fun za zC zh zk => ld_27 rfl (zh.ev rfl) (bkeeps hb10 _ _ (hc18 k (by first | omega | (simp; omega))).1) (bkeeps hb10 _ _ (hc18 k (by first | omega | (simp; omega))).2.1) zk) ?_
        refine WL.val (.int .i64 ((-1 - g))) rfl rfl rfl (fun za zC zh zk => wp_move rfl (zh.ev rfl) zk) ?_
        refine WL.call rfl rfl rfl (fun za zh zC => wp_call (by kernel_rfl) rfl (hv2 (zh.ev rfl) (zh.ev rfl))) (ih (tget l k) (tget_mem (by omega)) _ _ (IsT.below hb10 (hc18 k (by first | omega | (simp; omega))).2.2)) ?_
        rintro _ w19 ⟨rfl, hbc⟩
        refine WL.nil (WE.sub (K' := [(0, .agg #[.int .i64 f, .slice a l.length c]), (1, .int .i64 ((-1 - g))), (2, .pointer (some ⟨g2, 0, none⟩)), (5, .int .i64 (((k : Nat) : Int))), (10, .bool (((f : Int) == (g : Int)))), (15, .bool ((decide ((((k : Nat) : Int) : Int) < (((l.length : Nat) : Int) : Int))))), (24, .bool ((T.has g (tget l k))))]) ⟨rfl, rfl, rfl, rfl, rfl, rfl, rfl, trivial⟩ ?_)
        refine WE.next ?_
        refine WC.cond rfl (fun h20 => ?_) (fun h20 => ?_)
        · skip
          refine WC.seq ?_
          refine WC.region ?_
          refine WL.val (.bool true) rfl rfl rfl (fun za zC zh zk => wp_assign rfl (zh.ev rfl) zk) ?_
          refine WL.nil (WE.sub (K' := [(0, .agg #[.int .i64 f, .slice a l.length c]), (1, .int .i64 ((-1 - g))), (2, .pointer (some ⟨g2, 0, none⟩)), (4, .bool true), (5, .int .i64 (((k : Nat) : Int))), (10, .bool (((f : Int) == (g : Int)))), (15, .bool ((decide ((((k : Nat) : Int) : Int) < (((l.length : Nat) : Int) : Int))))), (24, .bool ((T.has g (tget l k))))]) ⟨rfl, rfl, rfl, rfl, rfl, rfl, rfl, rfl, trivial⟩ ?_)
          refine WE.next ?_
          refine WC.ret ?_
          refine WE.blockRet ?_
          refine WE.thenRet ?_
          refine WE.thenRet ?_
          refine WE.blockRet ?_
          refine WE.thenRet ?_
          refine WE.ret1 rfl rfl ?_
          have hb21 : Below w.heap.size w w19 := (bstep hb10 hbc)
          exact ⟨_, rfl, congrArg Value.bool (by first | exact hs2 (k := k) (by omega) (by assumption) | exact hs3 (k := k) (by assumption) hall (by omega) | (have e : f = g := (by assumption); subst e; exact hs1)), hb21⟩
        · skip
          refine WC.skip ?_
          refine WE.blockNormal ?_
          refine WE.next ?_
          refine WC.region ?_
          refine WL.val (.int .i64 (((k : Nat) : Int))) rfl rfl rfl (fun za zC zh zk => wp_move rfl (zh.ev rfl) zk) ?_
          refine WL.val (.int .i64 ((((k + 1) : Nat) : Int))) rfl rfl rfl (fun za zC zh zk => addb_3 rfl (zh.ev rfl) (zh.ev rfl) (wrap_eq (by omega) (by omega) (by omega)) zk) ?_
          refine WL.val (.int .i64 ((((k + 1) : Nat) : Int))) rfl rfl rfl (fun za zC zh zk => wp_assign rfl (zh.ev rfl) zk) ?_
          refine WL.nil (WE.sub (K' := [(0, .agg #[.int .i64 f, .slice a l.length c]), (1, .int .i64 ((-1 - g))), (2, .pointer (some ⟨g2, 0, none⟩)), (5, .int .i64 ((((k + 1) : Nat) : Int))), (10, .bool (((f : Int) == (g : Int)))), (15, .bool ((decide ((((k : Nat) : Int) : Int) < (((l.length : Nat) : Int) : Int))))), (24, .bool ((T.has g (tget l k))))]) ⟨rfl, rfl, rfl, rfl, rfl, rfl, rfl, trivial⟩ ?_)
          refine WE.round (k + 1) ⟨rfl, rfl, rfl, rfl, rfl, trivial⟩ ?_ ?_
          · have hb22 : Below w.heap.size w w19 := (bstep hb10 hbc)
            have hB23 := hB11.below hbc
            exact ⟨by omega, by rw [any_take_t _ _ _ (by omega), hall]; simp_all, hb22, hB23⟩
          · omega
      · have h12 : ¬ ((((k : Nat) : Int) : Int) < (((l.length : Nat) : Int) : Int)) := by simpa using h12
        refine WC.exit ?_
        refine WE.thenExit ?_
        refine WE.thenExit ?_
        refine WE.blockIs rfl ?_
        refine WE.next ?_
        refine WC.seq ?_
        refine WC.region ?_
        refine WL.val (.bool false) rfl rfl rfl (fun za zC zh zk => wp_assign rfl (zh.ev rfl) zk) ?_
        refine WL.nil (WE.sub (K' := [(0, .agg #[.int .i64 f, .slice a l.length c]), (1, .int .i64 ((-1 - g))), (2, .pointer (some ⟨g2, 0, none⟩)), (4, .bool false), (5, .int .i64 (((k : Nat) : Int))), (10, .bool (((f : Int) == (g : Int)))), (15, .bool ((decide ((((k : Nat) : Int) : Int) < (((l.length : Nat) : Int) : Int)))))]) ⟨rfl, rfl, rfl, rfl, rfl, rfl, rfl, trivial⟩ ?_)
        refine WE.next ?_
        refine WC.ret ?_
        refine WE.ret1 rfl rfl ?_
        exact ⟨_, rfl, congrArg Value.bool (by first | exact hs2 (k := k) (by omega) (by assumption) | exact hs3 (k := k) (by assumption) hall (by omega) | (have e : f = g := (by assumption); subst e; exact hs1)), hb10⟩

end Go.Proofs.Ytlkiabgpnboicaa

/- The variables of a term, gathered by a function that is handed down: the walks. -/
namespace Go.Proofs.Ytlkiabgpnboicaa
open Go.RowKit Go

def intV (n : Int) : Value := .int .i64 n
def newsF (f : Int) : List Int := if f < 0 then [-1 - f] else []
mutual
def varsT : T → List Int
  | .mk f l => newsF f ++ varsTL l
def varsTL : List T → List Int
  | [] => []
  | a :: r => varsT a ++ varsTL r
end
theorem varsTL_take {l : List T} {k : Nat} (h : k < l.length) : varsTL (l.take (k + 1)) = varsTL (l.take k) ++ varsT (tget l k) := by
  induction l generalizing k with
  | nil => simp at h
  | cons a r ih =>
    cases k with
    | zero => simp [varsTL, tget]
    | succ k =>
      have := ih (k := k) (by simpa using h)
      simp only [List.take_succ_cons, varsTL, List.append_assoc]
      rw [this]; rfl
mutual
theorem varsT_le : ∀ t : T, (varsT t).length ≤ t.size
  | .mk f l => by
    have := varsTL_le l
    rw [varsT, T.size, List.length_append]
    have : (newsF f).length ≤ 1 := by unfold newsF; split <;> simp
    omega
theorem varsTL_le : ∀ l : List T, (varsTL l).length ≤ T.sizeL l
  | [] => by simp [varsTL]
  | a :: r => by
    have := varsT_le a; have := varsTL_le r
    rw [varsTL, T.sizeL, List.length_append]; omega
end
mutual
theorem varsT_has (v : Int) (hv : v < 0) : ∀ t : T, (-1 - v) ∈ varsT t ↔ T.has v t = true
  | .mk f l => by
    rw [varsT, T.has, List.mem_append, varsTL_has v hv l, Bool.or_eq_true, decide_eq_true_eq]
    unfold newsF
    split
    · simp; constructor
      · rintro (h | h); exact .inl (by omega); exact .inr h
      · rintro (h | h); exact .inl (by omega); exact .inr h
    · simp; intro h; omega
theorem varsTL_has (v : Int) (hv : v < 0) : ∀ l : List T, (-1 - v) ∈ varsTL l ↔ T.hasL v l = true
  | [] => by simp [varsTL, T.hasL]
  | a :: r => by rw [varsTL, T.hasL, List.mem_append, varsT_has v hv a, varsTL_has v hv r, Bool.or_eq_true]
end
theorem ownI_len {w : World} {S : Nat → Prop} {ra : Option Addr} {rc n : Nat} {L : List Int} (h : Own w S 3 1 ra rc n (L.map intV)) : n = L.length := by
  have := h.1.1; simpa using this.symm
theorem size_tget {l : List T} {k : Nat} (h : k < l.length) : T.sizeL (l.take k) + (tget l k).size ≤ T.sizeL l := by
  have h1 := T.sizeL_take_succ l k h
  have h2 := T.sizeL_take_le l (k + 1)
  rw [tget_lt h]; omega
theorem each_len2 {L : List Int} {f : Int} {l : List T} {k : Nat} : (L ++ newsF f ++ varsTL (l.take k)).length ≤ L.length + 1 + T.sizeL l := by
  have h1 := varsTL_le (l.take k)
  have h2 := T.sizeL_take_le l k
  have h3 : (newsF f).length ≤ 1 := by unfold newsF; split <;> simp
  simp only [List.length_append]; omega
theorem each_len {L : List Int} {f : Int} {l : List T} {k N : Nat} (hz : L.length + (1 + T.sizeL l) ≤ N) (h : k < l.length) : (L ++ newsF f ++ varsTL (l.take k)).length + (tget l k).size ≤ N := by
  have h1 := varsTL_le (l.take k)
  have h2 := size_tget h
  have h3 : (newsF f).length ≤ 1 := by unfold newsF; split <;> simp
  simp only [List.length_append]; omega
/-- What gathering leaves. -/
def Gath (w : World) (base g : Nat) (L : List Int) (w' : World) : Prop :=
  ∃ ra rc n, Blk w' g 22 #[.slice ra n rc] ∧ Own w' (fun k => base ≤ k ∧ k ≠ g) 3 1 ra rc n (L.map intV) ∧ Chg (fun k => base ≤ k ∨ k = g) w w'
set_option maxRecDepth 100000 in
theorem vars1_any (f : Int) (hf : I64 f) (w0 w : World) (b o g base : Nat) (L : List Int) (ra : Option Addr) (rc n : Nat) (hb0 : Below w0.heap.size w0 w) (h0 : w0.cell? ⟨b, o, none⟩ = some (.int .i64 f)) (hB : Blk w g 22 #[.slice ra n rc]) (hO : Own w (fun k => base ≤ k ∧ k ≠ g) 3 1 ra rc n (L.map intV))
    (hbase : base ≤ w.heap.size) (hg : w0.heap.size ≤ g) (hbs : w0.heap.size ≤ base) (hz : L.length ≤ 4294967296) :
    Calls Try.prog 62 #[.pointer (some ⟨b, o, none⟩), .pointer (some ⟨g, 0, none⟩)] w (Ret fun v' w' => v' = .bool true ∧ Gath w base g (L ++ newsF f) w') := by
  obtain rfl := ownI_len hO
  have hf1 := hf.1
  have hf2 := hf.2
  have hgl := hB.lt
  have hbl : b < w0.heap.size := World.block_lt_of_cell? _ _ h0
  refine Calls.walk (l := [.pointer (some ⟨b, o, none⟩), .pointer (some ⟨g, 0, none⟩)]) Try.func62 rfl (by kernel_rfl) ?_
  refine WC.sub (K' := [(0, .pointer (some ⟨b, o, none⟩)), (1, .pointer (some ⟨g, 0, none⟩))]) ⟨rfl, rfl, trivial⟩ ?_
  refine WC.seq ?_
  refine WC.region ?_
  refine WL.val (.bool false) rfl rfl rfl (fun za zC zh zk => wp_assign rfl (zh.ev rfl) zk) ?_
  refine WL.nil (WE.sub (K' := [(0, .pointer (some ⟨b, o, none⟩)), (1, .pointer (some ⟨g, 0, none⟩)), (3, .bool false)]) ⟨rfl, rfl, rfl, trivial⟩ ?_)
  refine WE.next ?_
  refine WC.seq ?_
  refine WC.seq ?_
  refine WC.region ?_
  refine WL.val (.pointer (some ⟨b, o, none⟩)) rfl rfl rfl (fun za zC zh zk => wp_move rfl (zh.ev rfl) zk) ?_
  refine WL.val (.pointer (some ⟨b, o, none⟩)) rfl rfl rfl (fun za zC zh zk => nilCheck_ rfl (zh.ev rfl) zk) ?_
  refine WL.val (.pointer (some ⟨b, o, none⟩)) rfl rfl rfl (fun za zC zh zk => fld_27_0 rfl (zh.ev rfl) zk) ?_
  have hc1 := bkeeps hb0 _ _ h0
  refine WL.val (.int .i64 f) rfl rfl rfl (fun za zC zh zk => ld_3 rfl (zh.ev rfl) hc1 zk) ?_
  refine WL.val (.bool ((decide ((f : Int) < (0 : Int))))) rfl rfl rfl (fun za zC zh zk => lss_3 rfl (zh.ev rfl) (zh.ev rfl) zk) ?_
  refine WL.nil (WE.sub (K' := [(0, .pointer (some ⟨b, o, none⟩)), (1, .pointer (some ⟨g, 0, none⟩)), (3, .bool false), (8, .bool ((decide ((f : Int) < (0 : Int)))))]) ⟨rfl, rfl, rfl, rfl, trivial⟩ ?_)
  refine WE.next ?_
  refine WC.cond rfl (fun h2 => ?_) (fun h2 => ?_)
  · have h2 : (f : Int) < (0 : Int) := by simpa using h2
    refine WC.grow (S := (fun b => base ≤ b ∧ b ≠ g)) (e := 3) (size := 1) (ln := L.length) (xs := (L.map intV)) (g := g) (ty := 22) (cs := #[.slice ra L.length rc]) [(true, .slice ra L.length rc), (true, .pointer (some ⟨b, o, none⟩)), (true, .pointer (some ⟨b, o, none⟩)), (true, .pointer (some ⟨b, o, none⟩)), (true, .int .i64 f), (true, .int .i64 (((-1) - f))), (true, undef), (true, undef), (true, undef)] [(0, .pointer (some ⟨b, o, none⟩)), (1, .pointer (some ⟨g, 0, none⟩)), (3, .bool false), (8, .bool ((decide ((f : Int) < (0 : Int)))))] 0 1 [.int .i64 (((-1) - f))] 6 7 8 (by decide) (by kernel_rfl) (by (try dsimp only at *); omega) hO hB ⟨rfl, rfl, rfl, rfl, trivial⟩ (by kernel_rfl) (by kernel_rfl) (by kernel_rfl) ?_ ?_
    · refine ⟨.inl ⟨true, by decide, by kernel_rfl, .none rfl, (fun gg b h => by cases h), (fun h => by cases h), fun zβ za zw zc => ?_⟩, ?_⟩
      · exact ld_22 rfl (zc.kn.ev rfl) (chg_cell zc.chg (by (try dsimp only at *); omega) ((hB.cell 0).trans rfl)) ⟨_, rfl, rfl, optDef rfl rfl⟩
      refine ⟨.inl ⟨true, by decide, by kernel_rfl, .none rfl, (fun gg b h => by cases h), (fun h => by cases h), fun zβ za zw zc => ?_⟩, ?_⟩
      · exact wp_move rfl (zc.kn.ev rfl) ⟨_, rfl, rfl, optDef rfl rfl⟩
      refine ⟨.inl ⟨true, by decide, by kernel_rfl, .none rfl, (fun gg b h => by cases h), (fun h => by cases h), fun zβ za zw zc => ?_⟩, ?_⟩
      · exact nilCheck_ rfl ((show za.eval (.tmp 10) = za.tmps.getD 10 undef from rfl).trans (valVal (zc.dep 1 10 (by kernel_rfl) (by decide)) rfl rfl)) ⟨_, rfl, rfl, optDef rfl rfl⟩
      refine ⟨.inl ⟨true, by decide, by kernel_rfl, .none rfl, (fun gg b h => by cases h), (fun h => by cases h), fun zβ za zw zc => ?_⟩, ?_⟩
      · exact fld_27_0 rfl ((show za.eval (.tmp 11) = za.tmps.getD 11 undef from rfl).trans (valVal (zc.dep 2 11 (by kernel_rfl) (by decide)) rfl rfl)) ⟨_, rfl, rfl, optDef rfl rfl⟩
      refine ⟨.inl ⟨true, by decide, by kernel_rfl, .none rfl, (fun gg b h => by cases h), (fun h => by cases h), fun zβ za zw zc => ?_⟩, ?_⟩
      · exact ld_3 rfl ((show za.eval (.tmp 12) = za.tmps.getD 12 undef from rfl).trans (valVal (zc.dep 3 12 (by kernel_rfl) (by decide)) rfl rfl)) (chg_cell zc.chg (by (try dsimp only at *); omega) hc1) ⟨_, rfl, rfl, optDef rfl rfl⟩
      refine ⟨.inl ⟨true, by decide, by kernel_rfl, .none rfl, (fun gg b h => by cases h), (fun h => by cases h), fun zβ za zw zc => ?_⟩, ?_⟩
      · exact subb_3 rfl (zc.kn.ev rfl) ((show za.eval (.tmp 13) = za.tmps.getD 13 undef from rfl).trans (valVal (zc.dep 4 13 (by kernel_rfl) (by decide)) rfl rfl)) (wrap_eq (by omega) (by omega) (by omega)) ⟨_, rfl, rfl, optDef rfl rfl⟩
      refine ⟨.inr (.inl ⟨rfl, rfl, by kernel_rfl, by kernel_rfl, fun za zw zc => ?_⟩), ?_⟩
      · exact row_22_1 rfl ((show za.eval (.tmp 14) = za.tmps.getD 14 undef from rfl).trans (valVal (zc.dep 5 14 (by kernel_rfl) (by decide)) rfl rfl)) ⟨rfl, rfl⟩
      refine ⟨.inr (.inr (.inl ⟨rfl, rfl, by kernel_rfl, 15, by kernel_rfl, fun za zw g1 zc zo z1 zB => ?_⟩)), ?_⟩
      · exact app_22 (S := (fun b => base ≤ b ∧ b ≠ g)) rfl ((show za.eval (.tmp 9) = za.tmps.getD 9 undef from rfl).trans (valVal (zc.dep 0 9 (by kernel_rfl) (by decide)) rfl rfl)) ((show za.eval (.tmp 15) = za.tmps.getD 15 undef from rfl).trans z1) zo (SrcIs.ofBlk zB) (by simp) (by simp [Value.oneCell']) (by omega) (by omega) (by have z2 := hbase; have z3 := zc.chg.size; have y0 := hB.lt; (try dsimp only at *); omega) (fun ra rc w' h1 h2 => ⟨ra, rc, rfl, h1, h2⟩)
      refine ⟨.inr (.inr (.inr ⟨rfl, rfl, 16, by kernel_rfl, by kernel_rfl, fun za zw ra rc zc z1 => ?_⟩)), ?_⟩
      · exact st_22 rfl (zc.kn.ev rfl) ((show za.eval (.tmp 16) = za.tmps.getD 16 undef from rfl).trans z1) zc.blk (by first | decide | simp) (fun v => ⟨v, rfl, Upd.at_ _ _ _ _, zc.blk.set_ 0 _⟩)
      exact trivial
    · intro za w3 ra4 rc5 zh hc6 hr7 hB8 zu
      have hb9 := chg_below hb0 hc6 (fun b hb => (by (try dsimp only at *); omega))
      clear zu
      refine (show WE _ [(0, .pointer (some ⟨b, o, none⟩)), (1, .pointer (some ⟨g, 0, none⟩)), (3, .bool false), (8, .bool ((decide ((f : Int) < (0 : Int)))))] w3 _ .normal from ?_) za (zh.sub ⟨rfl, rfl, rfl, rfl, trivial⟩)
      refine WE.next ?_
      refine WC.seq ?_
      refine WC.region ?_
      refine WL.val (.bool true) rfl rfl rfl (fun za zC zh zk => wp_assign rfl (zh.ev rfl) zk) ?_
      refine WL.nil (WE.sub (K' := [(0, .pointer (some ⟨b, o, none⟩)), (1, .pointer (some ⟨g, 0, none⟩)), (3, .bool true), (8, .bool ((decide ((f : Int) < (0 : Int)))))]) ⟨rfl, rfl, rfl, rfl, trivial⟩ ?_)
      refine WE.next ?_
      refine WC.ret ?_
      refine WE.ret1 rfl rfl ?_
      have hs10 : Chg ((fun k => base ≤ k ∨ k = g)) w w3 := (Chg.trans2 (Chg.refl ((fun k => base ≤ k ∨ k = g)) _) hc6 (fun i h1 h2 => by (try dsimp only at *); omega))
      exact ⟨_, rfl, rfl, _, _, _, hB8, (by rw [show newsF f = [-1 - f] from if_pos (by omega), List.map_append]; exact hr7), hs10⟩
  · have h2 : ¬ ((f : Int) < (0 : Int)) := by simpa using h2
    refine WC.skip ?_
    refine WE.next ?_
    refine WC.seq ?_
    refine WC.region ?_
    refine WL.val (.bool true) rfl rfl rfl (fun za zC zh zk => wp_assign rfl (zh.ev rfl) zk) ?_
    refine WL.nil (WE.sub (K' := [(0, .pointer (some ⟨b, o, none⟩)), (1, .pointer (some ⟨g, 0, none⟩)), (3, .bool true), (8, .bool ((decide ((f : Int) < (0 : Int)))))]) ⟨rfl, rfl, rfl, rfl, trivial⟩ ?_)
    refine WE.next ?_
    refine WC.ret ?_
    refine WE.ret1 rfl rfl ?_
    have hs11 : Chg ((fun k => base ≤ k ∨ k = g)) w w := (Chg.refl ((fun k => base ≤ k ∨ k = g)) _)
    exact ⟨_, rfl, rfl, ra, rc, _, hB, (by rw [show newsF f = [] from if_neg (by omega), List.append_nil]; exact hO), hs11⟩

theorem each_step {F : FuncId} {vs : Array Value} {w : World} {base g : Nat} {X : List Int} {l : List T} {k : Nat} (h : k < l.length) (H : Calls Try.prog F vs w (Ret fun v' w' => v' = .bool true ∧ Gath w base g (X ++ varsTL (l.take k) ++ varsT (tget l k)) w')) :
    Calls Try.prog F vs w (Ret fun v' w' => v' = .bool true ∧ Gath w base g (X ++ varsTL (l.take (k + 1))) w') := by
  rw [varsTL_take h, ← List.append_assoc]; exact H
set_option maxRecDepth 100000 in
theorem each_any (t : T) : ∀ (w0 w : World) (b o g base : Nat) (A : Option Addr) (C : Nat) (L : List Int) (ra : Option Addr) (rc n : Nat) (_ : Below w0.heap.size w0 w) (_ : w0.cell? ⟨b, o, none⟩ = some (.int .i64 t.f)) (_ : w0.cell? ⟨b, o + 1, none⟩ = some (.slice A t.args.length C)) (_ : IsT w0 t (.agg #[.int .i64 t.f, .slice A t.args.length C]))
    (_ : Blk w g 22 #[.slice ra n rc]) (_ : Own w (fun k => base ≤ k ∧ k ≠ g) 3 1 ra rc n (L.map intV)) (_ : base ≤ w.heap.size) (_ : w0.heap.size ≤ g) (_ : w0.heap.size ≤ base) (_ : L.length + t.size ≤ 4294967296),
    Calls Try.prog 61 #[.pointer (some ⟨b, o, none⟩), .func (.func 62) #[] #[.pointer (some ⟨g, 0, none⟩)]] w (Ret fun v' w' => v' = .bool true ∧ Gath w base g (L ++ varsT t) w') := by
  induction t using T.ind with
  | h f l ih =>
  intro w0 w b o g base A C L ra rc n hb0 h0 h1 hT hB hO hbase hg hbs hz
  obtain rfl := ownI_len hO
  simp only [T.f_mk, T.args_mk] at h0 h1 hT
  rw [T.size] at hz
  have hf := hT.form.1
  obtain ⟨_, hc, hm, hl⟩ := isT_row hT
  simp only [T.args_mk] at hc hl
  unfold maxLen at hm
  have hgl := hB.lt
  have hnl : (newsF f).length ≤ 1 := by unfold newsF; split <;> simp
  refine Calls.walk (l := [.pointer (some ⟨b, o, none⟩), .func (.func 62) #[] #[.pointer (some ⟨g, 0, none⟩)]]) Try.func61 rfl (by kernel_rfl) ?_
  refine WC.sub (K' := [(0, .pointer (some ⟨b, o, none⟩)), (1, .func (.func 62) #[] #[.pointer (some ⟨g, 0, none⟩)])]) ⟨rfl, rfl, trivial⟩ ?_
  refine WC.seq ?_
  refine WC.region ?_
  refine WL.val (.bool false) rfl rfl rfl (fun za zC zh zk => wp_assign rfl (zh.ev rfl) zk) ?_
  refine WL.nil (WE.sub (K' := [(0, .pointer (some ⟨b, o, none⟩)), (1, .func (.func 62) #[] #[.pointer (some ⟨g, 0, none⟩)]), (4, .bool false)]) ⟨rfl, rfl, rfl, trivial⟩ ?_)
  refine WE.next ?_
  refine WC.seq ?_
  refine WC.seq ?_
  refine WC.region ?_
  refine WL.val (.func (.func 62) #[] #[.pointer (some ⟨g, 0, none⟩)]) rfl rfl rfl (fun za zC zh zk => wp_move rfl (zh.ev rfl) zk) ?_
  refine WL.val (.pointer (some ⟨b, o, none⟩)) rfl rfl rfl (fun za zC zh zk => wp_move rfl (zh.ev rfl) zk) ?_
  refine WL.call rfl rfl rfl (fun za zh zC => wp_callv (by kernel_rfl) rfl (zh.ev rfl) (hv1 (zh.ev rfl))) (vars1_any f hf w0 _ b o g base L _ _ _ hb0 h0 hB hO hbase hg hbs (by omega)) ?_
  rintro _ w8 ⟨rfl, ⟨ra21, rc22, n23, hB24, hO25, hC6⟩⟩
  have hb9 := chg_below hb0 hC6 (fun b hb => (by (try dsimp only at *); omega))
  obtain rfl := ownI_len hO25
  have hbs27 : base ≤ w8.heap.size := Nat.le_trans hbase hC6.size
  refine WL.val (.bool false) rfl rfl rfl (fun za zC zh zk => wp_not rfl (zh.ev rfl) zk) ?_
  refine WL.nil (WE.sub (K' := [(0, .pointer (some ⟨b, o, none⟩)), (1, .func (.func 62) #[] #[.pointer (some ⟨g, 0, none⟩)]), (4, .bool false), (9, .bool false)]) ⟨rfl, rfl, rfl, rfl, trivial⟩ ?_)
  refine WE.next ?_
  refine WC.condF rfl rfl ?_
  refine WC.skip ?_
  refine WE.next ?_
  refine WC.seq ?_
  refine WC.seq ?_
  refine WC.region ?_
  refine WL.val (.pointer (some ⟨b, o, none⟩)) rfl rfl rfl (fun za zC zh zk => wp_move rfl (zh.ev rfl) zk) ?_
  refine WL.val (.pointer (some ⟨b, o, none⟩)) rfl rfl rfl (fun za zC zh zk => nilCheck_ rfl (zh.ev rfl) zk) ?_
  refine WL.val (.pointer (some ⟨b, o + 1, none⟩)) rfl rfl rfl (fun za zC zh zk => fld_27_1 rfl (zh.ev rfl) zk) ?_
  have hc10 := bkeeps hb9 _ _ h1
  refine WL.val (.slice A l.length C) rfl rfl rfl (fun za zC zh zk => ld_25 rfl (zh.ev rfl) hc10 zk) ?_
  refine WL.val (.int .i64 (((l.length : Nat) : Int))) rfl rfl rfl (fun za zC zh zk => len_25 rfl (zh.ev rfl) zk) ?_
  refine WL.val (.int .i64 0) rfl rfl rfl (fun za zC zh zk => wp_move rfl (zh.ev rfl) zk) ?_
  refine WL.nil (WE.sub (K' := [(0, .pointer (some ⟨b, o, none⟩)), (1, .func (.func 62) #[] #[.pointer (some ⟨g, 0, none⟩)]), (4, .bool false), (9, .bool false), (14, .int .i64 (((l.length : Nat) : Int))), (15, .int .i64 0)]) ⟨rfl, rfl, rfl, rfl, rfl, rfl, trivial⟩ ?_)
  refine WE.next ?_
  refine WC.block ?_
  refine WC.loop (X := Option Addr × Nat × Nat) (fun x => l.length - x.2.2) (fun x => [(0, .pointer (some ⟨b, o, none⟩)), (1, .func (.func 62) #[] #[.pointer (some ⟨g, 0, none⟩)]), (9, .bool false), (14, .int .i64 (((l.length : Nat) : Int))), (15, .int .i64 (((x.2.2 : Nat) : Int)))]) (fun x w11 => x.2.2 ≤ l.length ∧ base ≤ (w11).heap.size ∧ Below w0.heap.size w0 w11 ∧ Blk w11 g 22 #[.slice x.1 ((L ++ newsF f ++ varsTL (l.take x.2.2)).length) x.2.1] ∧ base ≤ (w11).heap.size ∧ Own w11 (fun b => base ≤ b ∧ b ≠ g) 3 1 x.1 x.2.1 ((L ++ newsF f ++ varsTL (l.take x.2.2)).length) (((L ++ newsF f ++ varsTL (l.take x.2.2)).map intV)) ∧ Chg ((fun k => base ≤ k ∨ k = g)) w w11) ((ra21, rc22, 0)) ⟨rfl, rfl, rfl, rfl, rfl, trivial⟩ ?_ ?_
  · have hs12 : Chg ((fun k => base ≤ k ∨ k = g)) w w8 := (Chg.trans2 (Chg.refl ((fun k => base ≤ k ∨ k = g)) _) hC6 (fun i h1 h2 => by (try dsimp only at *); omega))
    exact ⟨Nat.zero_le _, hbs27, hb9, (by simpa [varsTL] using hB24), (by have z2 := hbs27; omega), (by simpa [varsTL] using hO25), hs12⟩
  · rintro x w11 ⟨hk, hbw, hb13, hB14, hf16, hr15, hc17⟩
    have hlv := each_len2 (L := L) (f := f) (l := l) (k := x.2.2)
    refine WC.seq ?_
    refine WC.region ?_
    refine WL.val (.bool ((decide ((((x.2.2 : Nat) : Int) : Int) < (((l.length : Nat) : Int) : Int))))) rfl rfl rfl (fun za zC zh zk => lss_3 rfl (zh.ev rfl) (zh.ev rfl) zk) ?_
    refine WL.nil (WE.sub (K' := [(0, .pointer (some ⟨b, o, none⟩)), (1, .func (.func 62) #[] #[.pointer (some ⟨g, 0, none⟩)]), (9, .bool false), (14, .int .i64 (((l.length : Nat) : Int))), (15, .int .i64 (((x.2.2 : Nat) : Int))), (16, .bool ((decide ((((x.2.2 : Nat) : Int) : Int) < (((l.length : Nat) : Int) : Int)))))]) ⟨rfl, rfl, rfl, rfl, rfl, rfl, trivial⟩ ?_)
    refine WE.next ?_
    refine WC.seq ?_
    refine WC.cond rfl (fun h18 => ?_) (fun h18 => ?_)
    · have h18 : (((x.2.2 : Nat) : Int) : Int) < (((l.length : Nat) : Int) : Int) := by simpa using h18
      refine WC.skip ?_
      refine WE.next ?_
      refine WC.seq ?_
      refine WC.block ?_
      refine WC.seq ?_
      refine WC.region ?_
      refine WL.val (.int .i64 (((x.2.2 : Nat) : Int))) rfl rfl rfl (fun za zC zh zk => wp_move rfl (zh.ev rfl) zk) ?_
      refine WL.val (.int .i64 (((x.2.2 : Nat) : Int))) rfl rfl rfl (fun za zC zh zk => wp_assign rfl (zh.ev rfl) zk) ?_
      refine WL.nil (WE.sub (K' := [(0, .pointer (some ⟨b, o, none⟩)), (1, .func (.func 62) #[] #[.pointer (some ⟨g, 0, none⟩)]), (5, .int .i64 (((x.2.2 : Nat) : Int))), (9, .bool false), (14, .int .i64 (((l.length : Nat) : Int))), (15, .int .i64 (((x.2.2 : Nat) : Int))), (16, .bool ((decide ((((x.2.2 : Nat) : Int) : Int) < (((l.length : Nat) : Int) : Int)))))]) ⟨rfl, rfl, rfl, rfl, rfl, rfl, rfl, trivial⟩ ?_)
      refine WE.next ?_
      refine WC.seq ?_
      refine WC.region ?_
      refine WL.val (.pointer (some ⟨b, o, none⟩)) rfl rfl rfl (fun za zC zh zk => wp_move rfl (zh.ev rfl) zk) ?_
      refine WL.val (.pointer (some ⟨b, o, none⟩)) rfl rfl rfl (fun za zC zh zk => nilCheck_ rfl (zh.ev rfl) zk) ?_
      refine WL.val (.pointer (some ⟨b, o + 1, none⟩)) rfl rfl rfl (fun za zC zh zk => fld_27_1 rfl (zh.ev rfl) zk) ?_
      have hc19 := bkeeps hb13 _ _ h1
      refine WL.val (.slice A l.length C) rfl rfl rfl (fun za zC zh zk => ld_25 rfl (zh.ev rfl) hc19 zk) ?_
      refine WL.val (.int .i64 (((x.2.2 : Nat) : Int))) rfl rfl rfl (fun za zC zh zk => wp_move rfl (zh.ev rfl) zk) ?_
      obtain ⟨b20, o21, A22, C23, ha24, hc25⟩ := IsTs.open hl
      refine WL.val (.pointer (some ⟨b20, o21 + x.2.2 * 2, none⟩)) rfl rfl rfl (fun za zC zh zk => ix_25 (k := x.2.2) rfl (zh.ev rfl) (ha24 x.2.2 (by first | omega | (simp; omega))) (zh.ev rfl) (by first | omega | (simp; omega)) zk) ?_
      refine WL.val (.func (.func 62) #[] #[.pointer (some ⟨g, 0, none⟩)]) rfl rfl rfl (fun za zC zh zk => wp_move rfl (zh.ev rfl) zk) ?_
      refine WL.call rfl rfl rfl (fun za zh zC => wp_call (by kernel_rfl) rfl (hv2 (zh.ev rfl) (zh.ev rfl))) (each_step (by omega) (ih (tget l x.2.2) (tget_mem (by omega)) w0 _ _ _ g base _ _ _ _ _ _ hb13 (hc25 x.2.2 (by omega)).1 (hc25 x.2.2 (by omega)).2.1 (hc25 x.2.2 (by omega)).2.2 hB14 hr15 hbw hg hbs (each_len hz (by omega)))) ?_
      rintro _ w33 ⟨rfl, ⟨ra226, rc227, n228, hB229, hO230, hC31⟩⟩
      have hb34 := chg_below hb13 hC31 (fun b hb => (by (try dsimp only at *); omega))
      obtain rfl := ownI_len hO230
      have hbs232 : base ≤ w33.heap.size := Nat.le_trans hbw hC31.size
      refine WL.val (.bool false) rfl rfl rfl (fun za zC zh zk => wp_not rfl (zh.ev rfl) zk) ?_
      refine WL.nil (WE.sub (K' := [(0, .pointer (some ⟨b, o, none⟩)), (1, .func (.func 62) #[] #[.pointer (some ⟨g, 0, none⟩)]), (5, .int .i64 (((x.2.2 : Nat) : Int))), (9, .bool false), (14, .int .i64 (((l.length : Nat) : Int))), (15, .int .i64 (((x.2.2 : Nat) : Int))), (16, .bool ((decide ((((x.2.2 : Nat) : Int) : Int) < (((l.length : Nat) : Int) : Int))))), (26, .bool false)]) ⟨rfl, rfl, rfl, rfl, rfl, rfl, rfl, rfl, trivial⟩ ?_)
      refine WE.next ?_
      refine WC.condF rfl rfl ?_
      refine WC.skip ?_
      refine WE.blockNormal ?_
      refine WE.next ?_
      refine WC.region ?_
      refine WL.val (.int .i64 ((((x.2.2 + 1) : Nat) : Int))) rfl rfl rfl (fun za zC zh zk => addb_3 rfl (zh.ev rfl) (zh.ev rfl) (wrap_eq (by omega) (by omega) (by omega)) zk) ?_
      refine WL.val (.int .i64 ((((x.2.2 + 1) : Nat) : Int))) rfl rfl rfl (fun za zC zh zk => wp_move rfl (zh.ev rfl) zk) ?_
      refine WL.nil (WE.sub (K' := [(0, .pointer (some ⟨b, o, none⟩)), (1, .func (.func 62) #[] #[.pointer (some ⟨g, 0, none⟩)]), (5, .int .i64 (((x.2.2 : Nat) : Int))), (9, .bool false), (14, .int .i64 (((l.length : Nat) : Int))), (15, .int .i64 ((((x.2.2 + 1) : Nat) : Int))), (16, .bool ((decide ((((x.2.2 : Nat) : Int) : Int) < (((l.length : Nat) : Int) : Int))))), (26, .bool false)]) ⟨rfl, rfl, rfl, rfl, rfl, rfl, rfl, rfl, trivial⟩ ?_)
      refine WE.round ((ra226, rc227, x.2.2 + 1)) ⟨rfl, rfl, rfl, rfl, rfl, trivial⟩ ?_ ?_
      · have hs35 : Chg ((fun k => base ≤ k ∨ k = g)) w w33 := (Chg.trans2 (Chg.trans2 (Chg.refl ((fun k => base ≤ k ∨ k = g)) _) hc17 (fun i h1 h2 => by (try dsimp only at *); omega)) hC31 (fun i h1 h2 => by (try dsimp only at *); omega))
        exact ⟨by dsimp only; omega, hbs232, hb34, (by dsimp only; exact hB229), (by have z2 := hbs232; omega), (by dsimp only; exact hO230), hs35⟩
      · dsimp only; omega
    · have h18 : ¬ ((((x.2.2 : Nat) : Int) : Int) < (((l.length : Nat) : Int) : Int)) := by simpa using h18
      refine WC.exit ?_
      refine WE.thenExit ?_
      refine WE.thenExit ?_
      refine WE.blockIs rfl ?_
      refine WE.next ?_
      refine WC.seq ?_
      refine WC.region ?_
      refine WL.val (.bool true) rfl rfl rfl (fun za zC zh zk => wp_assign rfl (zh.ev rfl) zk) ?_
      refine WL.nil (WE.sub (K' := [(0, .pointer (some ⟨b, o, none⟩)), (1, .func (.func 62) #[] #[.pointer (some ⟨g, 0, none⟩)]), (4, .bool true), (9, .bool false), (14, .int .i64 (((l.length : Nat) : Int))), (15, .int .i64 (((x.2.2 : Nat) : Int))), (16, .bool ((decide ((((x.2.2 : Nat) : Int) : Int) < (((l.length : Nat) : Int) : Int)))))]) ⟨rfl, rfl, rfl, rfl, rfl, rfl, rfl, trivial⟩ ?_)
      refine WE.next ?_
      refine WC.ret ?_
      refine WE.ret1 rfl rfl ?_
      have hs36 : Chg ((fun k => base ≤ k ∨ k = g)) w w11 := (Chg.trans2 (Chg.refl ((fun k => base ≤ k ∨ k = g)) _) hc17 (fun i h1 h2 => by (try dsimp only at *); omega))
      have e : varsT (.mk f l) = newsF f ++ varsTL (l.take x.2.2) := by rw [varsT, List.take_of_length_le (by omega)]
      rw [e, ← List.append_assoc]
      exact ⟨_, rfl, rfl, _, _, _, hB14, hr15, hs36⟩

end Go.Proofs.Ytlkiabgpnboicaa

/- The library's Sort, Compact and Contains of integers, as their contracts have it, at this program. -/
namespace Go.Proofs.Ytlkiabgpnboicaa
open Go.RowKit Go.Sort Go.Shelf Go

def Try.lSort_ren : Go.Shelf.Ren := ⟨fun | 5 => 63 | 8 => 66 | 7 => 65 | 19 => 76 | 20 => 77 | 10 => 67 | 11 => 68 | 12 => 69 | 13 => 70 | 14 => 71 | 15 => 72 | 16 => 73 | 17 => 74 | 18 => 75 | 30 => 78 | 31 => 79 | 32 => 80 | 33 => 81 | 34 => 82 | 35 => 83 | 40 => 84 | n => n, fun | 23 => 22 | 25 => 3 | 3 => 3 | 32 => 103 | 22 => 22 | 0 => 0 | 44 => 113 | 46 => 115 | 4 => 4 | 36 => 106 | 35 => 105 | 41 => 110 | 5 => 5 | 9 => 9 | 53 => 116 | 57 => 120 | 63 => 123 | 64 => 124 | n => n, fun | n => n⟩
theorem Try.lSort : Go.Proofs.SlLaysM.n5 Try.prog Try.lSort_ren := {
  mixed := by kernel_rfl,
  f5 := ⟨Try.f63.name, by decide, Try.func63.trans (congrArg some (by kernel_rfl))⟩,
  f7 := ⟨Try.f65.name, by decide, Try.func65.trans (congrArg some (by kernel_rfl))⟩,
  f8 := Try.func66.trans (congrArg some (by kernel_rfl)),
  f10 := ⟨Try.f67.name, by decide, Try.func67.trans (congrArg some (by kernel_rfl))⟩,
  f11 := ⟨Try.f68.name, by decide, Try.func68.trans (congrArg some (by kernel_rfl))⟩,
  f12 := ⟨Try.f69.name, by decide, Try.func69.trans (congrArg some (by kernel_rfl))⟩,
  f13 := ⟨Try.f70.name, by decide, Try.func70.trans (congrArg some (by kernel_rfl))⟩,
  f14 := ⟨Try.f71.name, by decide, Try.func71.trans (congrArg some (by kernel_rfl))⟩,
  f15 := ⟨Try.f72.name, by decide, Try.func72.trans (congrArg some (by kernel_rfl))⟩,
  f16 := ⟨Try.f73.name, by decide, Try.func73.trans (congrArg some (by kernel_rfl))⟩,
  f17 := ⟨Try.f74.name, by decide, Try.func74.trans (congrArg some (by kernel_rfl))⟩,
  f18 := ⟨Try.f75.name, by decide, Try.func75.trans (congrArg some (by kernel_rfl))⟩,
  f19 := Try.func76.trans (congrArg some (by kernel_rfl)),
  f20 := Try.func77.trans (congrArg some (by kernel_rfl)),
  f30 := ⟨Try.f78.name, by decide, Try.func78.trans (congrArg some (by kernel_rfl))⟩,
  f31 := Try.func79.trans (congrArg some (by kernel_rfl)),
  f32 := Try.func80.trans (congrArg some (by kernel_rfl)),
  f33 := ⟨Try.f81.name, by decide, Try.func81.trans (congrArg some (by kernel_rfl))⟩,
  f34 := ⟨Try.f82.name, by decide, Try.func82.trans (congrArg some (by kernel_rfl))⟩,
  f35 := ⟨Try.f83.name, by decide, Try.func83.trans (congrArg some (by kernel_rfl))⟩,
  f40 := ⟨Try.f84.name, by decide, Try.func84.trans (congrArg some (by kernel_rfl))⟩,
  t0 := Try.underlying0,
  a0 := Try.isAgg0,
  z0 := Try.sizeOf0,
  v0 := Try.zeroValue0,
  t3 := Try.underlying3,
  a3 := Try.isAgg3,
  z3 := Try.sizeOf3,
  v3 := Try.zeroValue3,
  t4 := Try.underlying4,
  a4 := Try.isAgg4,
  z4 := Try.sizeOf4,
  v4 := Try.zeroValue4,
  t5 := Try.underlying5,
  a5 := Try.isAgg5,
  z5 := Try.sizeOf5,
  v5 := Try.zeroValue5,
  t9 := Try.underlying9,
  a9 := Try.isAgg9,
  z9 := Try.sizeOf9,
  v9 := Try.zeroValue9,
  t22 := Try.underlying22,
  a22 := Try.isAgg22,
  z22 := Try.sizeOf22,
  v22 := Try.zeroValue22,
  t23 := Try.underlying22,
  a23 := Try.isAgg22,
  z23 := Try.sizeOf22,
  v23 := Try.zeroValue22,
  t25 := Try.underlying3,
  a25 := Try.isAgg3,
  z25 := Try.sizeOf3,
  v25 := Try.zeroValue3,
  t32 := Try.underlying103,
  a32 := Try.isAgg103,
  z32 := Try.sizeOf103,
  v32 := Try.zeroValue103,
  t35 := Try.underlying105,
  a35 := Try.isAgg105,
  z35 := Try.sizeOf105,
  v35 := Try.zeroValue105,
  t36 := Try.underlying106,
  a36 := Try.isAgg106,
  z36 := Try.sizeOf106,
  v36 := Try.zeroValue106,
  t41 := Try.underlying110,
  a41 := Try.isAgg110,
  z41 := Try.sizeOf110,
  v41 := Try.zeroValue110,
  t44 := Try.underlying113,
  a44 := Try.isAgg113,
  z44 := Try.sizeOf113,
  v44 := Try.zeroValue113,
  t46 := Try.underlying115,
  a46 := Try.isAgg115,
  z46 := Try.sizeOf115,
  v46 := Try.zeroValue115,
  t53 := Try.underlying116,
  a53 := Try.isAgg116,
  z53 := Try.sizeOf116,
  v53 := Try.zeroValue116,
  t57 := Try.underlying120,
  a57 := Try.isAgg120,
  z57 := Try.sizeOf120,
  v57 := Try.zeroValue120,
  t63 := Try.underlying123,
  a63 := Try.isAgg123,
  z63 := Try.sizeOf123,
  v63 := Try.zeroValue123,
  t64 := Try.underlying124,
  a64 := Try.isAgg124,
  z64 := Try.sizeOf124,
  v64 := Try.zeroValue124 }
def Try.lCompact_ren : Go.Shelf.Ren := ⟨fun | 20 => 64 | n => n, fun | 22 => 22 | 3 => 3 | 4 => 4 | 0 => 0 | n => n, fun | n => n⟩
theorem Try.lCompact : Go.Proofs.Lays2.n20 Try.prog Try.lCompact_ren := {
  mixed := by kernel_rfl,
  f20 := Try.func64.trans (congrArg some (by kernel_rfl)),
  t0 := Try.underlying0,
  a0 := Try.isAgg0,
  z0 := Try.sizeOf0,
  v0 := Try.zeroValue0,
  t3 := Try.underlying3,
  a3 := Try.isAgg3,
  z3 := Try.sizeOf3,
  v3 := Try.zeroValue3,
  t4 := Try.underlying4,
  a4 := Try.isAgg4,
  z4 := Try.sizeOf4,
  v4 := Try.zeroValue4,
  t22 := Try.underlying22,
  a22 := Try.isAgg22,
  z22 := Try.sizeOf22,
  v22 := Try.zeroValue22,
  i3 := by kernel_rfl }
def Try.lContains_ren : Go.Shelf.Ren := ⟨fun | 107 => 56 | 108 => 60 | n => n, fun | 28 => 22 | 3 => 3 | 4 => 4 | 0 => 0 | n => n, fun | n => n⟩
theorem Try.lContains : Go.Proofs.Lays.n107 Try.prog Try.lContains_ren := {
  mixed := by kernel_rfl,
  f107 := Try.func56.trans (congrArg some (by kernel_rfl)),
  f108 := Try.func60.trans (congrArg some (by kernel_rfl)),
  t0 := Try.underlying0,
  a0 := Try.isAgg0,
  z0 := Try.sizeOf0,
  v0 := Try.zeroValue0,
  t3 := Try.underlying3,
  a3 := Try.isAgg3,
  z3 := Try.sizeOf3,
  v3 := Try.zeroValue3,
  t4 := Try.underlying4,
  a4 := Try.isAgg4,
  z4 := Try.sizeOf4,
  v4 := Try.zeroValue4,
  t28 := Try.underlying22,
  a28 := Try.isAgg22,
  z28 := Try.sizeOf22,
  v28 := Try.zeroValue22 }
end Go.Proofs.Ytlkiabgpnboicaa

/- The library's Sort, Compact and Contains over rows of the call's own. -/
namespace Go.Proofs.Ytlkiabgpnboicaa
open Go.RowKit Go.Sort Go.Shelf Go

theorem compact_sub (d : Array Int) (m : Nat) (x : Int) (h : x ∈ Lib.compactUpTo d m) : ∃ j, j < m ∧ d[j]! = x := by
  unfold Lib.compactUpTo at h
  simp only [List.mem_map, List.mem_filter, List.mem_range] at h
  obtain ⟨j, ⟨h1, _⟩, h2⟩ := h
  exact ⟨j, h1, h2⟩
theorem compact_sup (d : Array Int) (m : Nat) : ∀ j, j < m → d[j]! ∈ Lib.compactUpTo d m := by
  intro j
  induction j using Nat.strongRecOn with
  | ind j ih =>
    intro hj
    unfold Lib.compactUpTo
    simp only [List.mem_map, List.mem_filter, List.mem_range]
    by_cases hk : Lib.keeps d j = true
    · exact ⟨j, ⟨hj, hk⟩, rfl⟩
    · have h0 : j ≠ 0 := by rintro rfl; exact hk (Lib.keeps_lt_one d 0 (by omega))
      have he : d[j]! = d[j - 1]! := by
        unfold Lib.keeps at hk
        simp only [decide_eq_true_eq, ne_eq] at hk
        by_cases e : d[j]! = d[j - 1]!
        · exact e
        · exact absurd (by first | exact .inr e | exact .inr (fun h => e h.symm) | exact .inr (Ne.symm e)) hk
      have := ih (j - 1) (by omega) (by omega)
      unfold Lib.compactUpTo at this
      simp only [List.mem_map, List.mem_filter, List.mem_range] at this
      rw [he]; exact this
theorem compact_mem (l : List Int) (x : Int) : x ∈ Lib.compact l ↔ x ∈ l := by
  unfold Lib.compact
  have e : ∀ j, j < l.length → l.toArray[j]! = l[j]! := fun j hj => by simp
  constructor
  · intro h
    obtain ⟨j, hj, rfl⟩ := compact_sub _ _ _ h
    rw [e j hj, getElem!_pos l j hj]; exact List.getElem_mem hj
  · intro h
    obtain ⟨j, hj, rfl⟩ := List.getElem_of_mem h
    have := compact_sup l.toArray l.length j hj
    rwa [e j hj, getElem!_pos l j hj] at this
theorem compact_le (l : List Int) : (Lib.compact l).length ≤ l.length := by
  unfold Lib.compact Lib.compactUpTo
  rw [List.length_map]
  exact Nat.le_trans (List.length_filter_le _ _) (by simp)

section
variable {w : World} {S : Nat → Prop} {ra : Option Addr} {rc n : Nat} {L : List Int}

theorem holds_own {g : Nat} (h : w.ownsRow 0 3 1 (.slice (some ⟨g, 0, none⟩) n rc) n (L.map (Value.int .i64))) : Holds (Value.int .i64) w g 0 L.toArray := by
  rcases h.2 with ⟨e, _⟩ | ⟨g', cap, cur, e, _, hb, hc, hm, hs, hx⟩
  · cases e
  · cases e
    have hl : L.length = n := by have := h.1; simpa using this
    intro j hj
    have hj' : j < L.length := by simpa using hj
    have hx' := congrArg (fun l => l[j]?) hx
    simp only [Nat.mul_one, List.getElem?_map] at hx'
    rw [List.getElem?_take_of_lt (by omega), Array.getElem?_toList, List.getElem?_eq_getElem hj'] at hx'
    refine ⟨?_, ?_⟩
    · simp only [World.cell?, hb, Nat.zero_add]
      simp [hx', hj']
    · simp [World.frozen?, hb]

theorem sort_own (h : Own w S 3 1 ra rc n (L.map (Value.int .i64))) (hz : n ≤ 4294967296) :
    Calls Try.prog 63 #[.slice ra n rc] w (Ret fun v' w' => ∃ L' : List Int, v' = .tuple #[] ∧ (∀ x, x ∈ L' ↔ x ∈ L) ∧ Own w' S 3 1 ra rc n (L'.map (Value.int .i64)) ∧ Chg S w w') := by
  have hl : L.length = n := by have := h.1.1; simpa using this
  have h0 := h
  rcases h.1.2 with ⟨e, h0⟩ | ⟨g, cap, cur, e, h1, hb, hc, hm, hs, hx⟩
  · simp only [Value.slice.injEq] at e
    obtain ⟨rfl, rfl, rfl⟩ := e
    refine (AnyM.slices_Sort_int_none Try.lSort none 0 w).mono ?_
    rintro e w' ⟨rfl, rfl⟩
    exact ⟨_, rfl, L, rfl, fun _ => Iff.rfl, h, .refl _ _⟩
  · simp only [Value.slice.injEq, true_and] at e
    obtain ⟨rfl, rfl⟩ := e
    subst hl
    have hg : g < w.heap.size := (Array.getElem?_eq_some_iff.1 hb).1
    refine (AnyM.slices_Sort_int Try.lSort g 0 rc L w (holds_own h.1) hg (by omega)).mono ?_
    rintro e w' ⟨rfl, m, os, rfl⟩
    have hS : S g := h.2 g rfl
    have hL : (L.mergeSort fun x y => decide (x ≤ y)).length = L.length := by simp
    refine ⟨_, rfl, L.mergeSort fun x y => decide (x ≤ y), rfl, fun x => List.mem_mergeSort, ⟨ownsRow_sortedI hL h1 hb hc hm hs, h.2⟩, ?_⟩
    have hG := grownBy_sortedI (w := w) (g := g) (n := m) (os := os) (L.mergeSort fun x y => decide (x ≤ y)).toArray
    exact ⟨hG.os, hG.tape, hG.output, hG.size, fun k hk hn => hG.block k hk (fun e => hn (Option.some.inj e ▸ hS))⟩

theorem compact_own (h : Own w S 3 1 ra rc n (L.map (Value.int .i64))) (hz : n ≤ 4294967296) (hw : ∀ x ∈ L, I64 x) :
    Calls Try.prog 64 #[.slice ra n rc] w (Ret fun v' w' => ∃ (l : List Int) (a : Option Addr) (c : Nat), v' = .slice a l.length c ∧ l.length ≤ c ∧ c ≤ maxLen ∧ IsInts w' l a ∧ (∀ x, x ∈ l ↔ x ∈ L) ∧ Chg S w w') := by
  have hl : L.length = n := by have := h.1.1; simpa using this
  rcases h.1.2 with ⟨e, h0⟩ | ⟨g, cap, cur, e, h1, hb, hc, hm, hs, hx⟩
  · simp only [Value.slice.injEq] at e
    obtain ⟨rfl, rfl, rfl⟩ := e
    refine (Any.slices_Compact_int_empty Try.lCompact none 0 w).mono ?_
    rintro e w' ⟨rfl, rfl⟩
    obtain rfl : L = [] := List.length_eq_zero_iff.1 hl
    exact ⟨_, rfl, [], none, 0, rfl, Nat.le_refl _, Nat.zero_le _, fun k hk => by simp at hk, fun _ => Iff.rfl, .refl _ _⟩
  · simp only [Value.slice.injEq, true_and] at e
    obtain ⟨rfl, rfl⟩ := e
    subst hl
    refine (Any.slices_Compact_int Try.lCompact g 0 rc L w (holds_own h.1) (by omega) hc).mono ?_
    rintro e w' ⟨rfl, m, rfl⟩
    have hle := compact_le L
    have hS : S g := h.2 g rfl
    have hlen : (Lib.compact L ++ List.replicate (L.length - (Lib.compact L).length) (0 : Int)).length = L.length := by simp; omega
    have hG := grownBy_sortedI (w := w) (g := g) (n := m) (os := #[]) (Lib.compact L ++ List.replicate (L.length - (Lib.compact L).length) 0).toArray
    have hO := ownsRow_sortedI (w := w) (n := m) (os := #[]) hlen h1 hb hc hm hs
    rw [grow_empty] at hG hO
    have hH := holds_own hO
    refine ⟨_, rfl, Lib.compact L, _, rc, rfl, by omega, hm, fun k hk => ⟨g, 0, [.int .i64 (Lib.compact L)[k]], rfl, rfl, fun j hj => ?_, rfl, hw _ ((compact_mem L _).1 (List.getElem_mem hk))⟩, fun x => compact_mem L x, ⟨hG.os, hG.tape, hG.output, hG.size, fun k hk hn => hG.block k hk (fun e => hn (Option.some.inj e ▸ hS))⟩⟩
    obtain rfl : j = 0 := by omega
    have := (hH k (by simp; omega)).1
    simp only [Nat.zero_add, Nat.mul_one, Nat.add_zero, List.getElem?_cons_zero] at this ⊢
    rw [this]
    simp [hk, List.getElem?_append_left hk]

theorem contains_any (l : List Int) (x : Int) (w : World) (a : Option Addr) (c : Nat) (hc : l.length ≤ c) (hm : c ≤ maxLen) (hl : IsInts w l a) :
    Calls Try.prog 56 #[.slice a l.length c, .int .i64 x] w (Ret fun v' w' => v' = .bool (decide (x ∈ l)) ∧ Below w.heap.size w w') := by
  unfold maxLen at hm
  rcases Nat.eq_zero_or_pos l.length with h0 | h0
  · obtain rfl : l = [] := List.length_eq_zero_iff.1 h0
    refine (Any.slices_Contains_int_empty Try.lContains a c x w).mono ?_
    rintro e w' ⟨rfl, rfl⟩
    exact ⟨_, rfl, by simp, Below.refl _ _⟩
  · obtain ⟨b, o, ha, hcell⟩ := hl.open
    obtain rfl := ha 0 h0
    refine (Any.slices_Contains_int Try.lContains b o l.length c l x w (Nat.le_refl _) (by omega) (fun j hj => hcell j hj)).mono ?_
    rintro e w' ⟨rfl, rfl⟩
    exact ⟨_, rfl, by rw [List.take_length]; simp, Below.refl _ _⟩
end

end Go.Proofs.Ytlkiabgpnboicaa

/- The variables of a term, sorted and each but once: the walk. -/
namespace Go.Proofs.Ytlkiabgpnboicaa
open Go.RowKit Go

theorem intV_eq : intV = Value.int .i64 := rfl
mutual
theorem varsT_i64 {w : World} : ∀ (t : T) (v : Value), IsT w t v → ∀ x ∈ varsT t, I64 x
  | .mk f l, v, ⟨hf, a, c, _, _, _, hl⟩, x, hx => by
    rw [varsT, List.mem_append] at hx
    rcases hx with hx | hx
    · unfold newsF at hx
      split at hx
      · obtain rfl : x = -1 - f := by simpa using hx
        unfold I64 at *; omega
      · simp at hx
    · exact varsTL_i64 l a 0 hl x hx
theorem varsTL_i64 {w : World} : ∀ (l : List T) (a : Option Addr) (i : Nat), IsTs w l a i → ∀ x ∈ varsTL l, I64 x
  | [], _, _, _, x, hx => by simp [varsTL] at hx
  | t :: r, a, i, ⟨⟨_, _, _, _, _, _, _, h1⟩, h2⟩, x, hx => by
    rw [varsTL, List.mem_append] at hx
    rcases hx with hx | hx
    · exact varsT_i64 t _ h1 x hx
    · exact varsTL_i64 r a (i + 1) h2 x hx
end
set_option maxRecDepth 100000 in
theorem vars_any (t : T) (w : World) (v : Value) (hz : t.size ≤ 4294967296) (hv : IsT w t v) :
    Calls Try.prog 57 #[v] w (Ret fun v' w' => ∃ (l : List Int) (a : Option Addr) (c : Nat), v' = .slice a l.length c ∧ l.length ≤ c ∧ c ≤ maxLen ∧ IsInts w' l a ∧ (∀ x, x ∈ l ↔ x ∈ varsT t) ∧ Below w.heap.size w w') := by
  have hvt := hv
  have hI := varsT_i64 t v hv
  have hle := varsT_le t
  obtain ⟨hf, a, c, rfl, hc, hm, hl⟩ := hv.form
  refine Calls.walk (l := [.agg #[.int .i64 t.f, .slice a t.args.length c]]) Try.func57 rfl (by kernel_rfl) ?_
  refine WC.sub (K' := [(0, .agg #[.int .i64 t.f, .slice a t.args.length c])]) ⟨rfl, trivial⟩ ?_
  refine WC.seq ?_
  refine WC.region ?_
  refine WL.step (post := NewBlk w 27 #[.int .i64 t.f, .slice a t.args.length c]) rfl rfl rfl (fun za zC zh zk => box_27 rfl (zh.ev rfl) (zk _ _ (newBlk _ _ _))) ?_
  rintro _ w1 ⟨g2, rfl, hg3, hB4, hb5, hz6⟩
  have hl7 : w.heap.size ≤ g2 := by omega
  refine WL.val (.slice none 0 0) rfl rfl rfl (fun za zC zh zk => wp_assign rfl (zh.ev rfl) zk) ?_
  refine WL.nil (WE.sub (K' := [(0, .agg #[.int .i64 t.f, .slice a t.args.length c]), (1, .pointer (some ⟨g2, 0, none⟩)), (2, .slice none 0 0)]) ⟨rfl, rfl, rfl, trivial⟩ ?_)
  refine WE.next ?_
  refine WC.seq ?_
  refine WC.region ?_
  refine WL.step (post := NewBlk w1 22 #[.slice none 0 0]) rfl rfl rfl (fun za zC zh zk => alloc_22 rfl (zk _ _ (newBlk _ _ _))) ?_
  rintro _ w8 ⟨g9, rfl, hg10, hB11, hb12, hz13⟩
  have hl14 : g2 < g9 := by have z1 := hB4.lt; omega
  have hl15 : w.heap.size ≤ g9 := by have z2 := (hb5).size; omega
  have hl16 : w1.heap.size ≤ g9 := by omega
  refine WL.nil (WE.sub (K' := [(0, .agg #[.int .i64 t.f, .slice a t.args.length c]), (1, .pointer (some ⟨g2, 0, none⟩)), (2, .slice none 0 0), (3, .pointer (some ⟨g9, 0, none⟩))]) ⟨rfl, rfl, rfl, rfl, trivial⟩ ?_)
  refine WE.next ?_
  refine WC.seq ?_
  refine WC.region ?_
  refine WL.val (.func (Fn.func 62) #[] #[.pointer (some ⟨g9, 0, none⟩)]) rfl rfl rfl (fun za zC zh zk => mkfn rfl (hv0) (hv1 (zh.ev rfl)) zk) ?_
  have hg24 : w1.heap.size ≤ g9 := by omega
  have hw25 : w.heap.size ≤ w8.heap.size := (Nat.le_trans hb5.size hb12.size)
  refine WL.call rfl rfl rfl (fun za zh zC => wp_call (by kernel_rfl) rfl (hv2 (zh.ev rfl) (zh.ev rfl))) (each_any t w1 _ g2 0 g9 w8.heap.size a c [] none 0 0 hb12 (hB4.cell 0) (hB4.cell 1) (hvt.below hb5) hB11 own_nil (Nat.le_refl _) hg24 hb12.size (by simpa using hz)) ?_
  rintro _ w26 ⟨rfl, ⟨ra217, rc218, n219, hB220, hO221, hC22⟩⟩
  have hb27 : Below w.heap.size w w8 := (bstep hb5 hb12)
  have hB28 := hB4.below hb12
  have hb29 := chg_below hb27 hC22 (fun b hb => (by (try dsimp only at *); omega))
  have hb30 := chg_below hb12 hC22 (fun b hb => (by (try dsimp only at *); omega))
  have hB31 := chg_blk hB28 hC22 (by (try dsimp only at *); omega)
  obtain rfl := ownI_len hO221
  have hbs223 : w8.heap.size ≤ w26.heap.size := hC22.size
  refine WL.nil (WE.sub (K' := [(0, .agg #[.int .i64 t.f, .slice a t.args.length c]), (1, .pointer (some ⟨g2, 0, none⟩)), (2, .slice none 0 0), (3, .pointer (some ⟨g9, 0, none⟩))]) ⟨rfl, rfl, rfl, rfl, trivial⟩ ?_)
  refine WE.next ?_
  refine WC.seq ?_
  refine WC.region ?_
  refine WL.val (.slice ra217 ((([] : List Int) ++ varsT t).length) rc218) rfl rfl rfl (fun za zC zh zk => ld_22 rfl (zh.ev rfl) ((hB220.cell 0).trans rfl) zk) ?_
  refine WL.call rfl rfl rfl (fun za zh zC => wp_call (by kernel_rfl) rfl (hv1 (zh.ev rfl))) (sort_own hO221 (by simpa using Nat.le_trans hle hz)) ?_
  rintro _ w37 ⟨L32, rfl, hm33, hO34, hC35⟩
  have hb38 := chg_below hb29 hC35 (fun b hb => (by (try dsimp only at *); omega))
  have hb39 := chg_below hb30 hC35 (fun b hb => (by (try dsimp only at *); omega))
  have hB40 := chg_blk hB31 hC35 (by (try dsimp only at *); omega)
  have hB41 := chg_blk hB220 hC35 (by (try dsimp only at *); omega)
  have hb36 : w8.heap.size ≤ w37.heap.size := Nat.le_trans hbs223 hC35.size
  refine WL.nil (WE.sub (K' := [(0, .agg #[.int .i64 t.f, .slice a t.args.length c]), (1, .pointer (some ⟨g2, 0, none⟩)), (2, .slice none 0 0), (3, .pointer (some ⟨g9, 0, none⟩))]) ⟨rfl, rfl, rfl, rfl, trivial⟩ ?_)
  refine WE.next ?_
  refine WC.seq ?_
  refine WC.region ?_
  refine WL.val (.slice ra217 ((([] : List Int) ++ varsT t).length) rc218) rfl rfl rfl (fun za zC zh zk => ld_22 rfl (zh.ev rfl) ((hB41.cell 0).trans rfl) zk) ?_
  refine WL.call rfl rfl rfl (fun za zh zC => wp_call (by kernel_rfl) rfl (hv1 (zh.ev rfl))) (compact_own hO34 (by simpa using Nat.le_trans hle hz) (fun x hx => hI x (by have := (hm33 x).1 hx; simpa using this))) ?_
  rintro _ w43 ⟨l2, a2, c2, rfl, q1, q2, q3, q4, hC42⟩
  have hb44 := chg_below hb38 hC42 (fun b hb => (by (try dsimp only at *); omega))
  have hb45 := chg_below hb39 hC42 (fun b hb => (by (try dsimp only at *); omega))
  have hB46 := chg_blk hB40 hC42 (by (try dsimp only at *); omega)
  have hB47 := chg_blk hB41 hC42 (by (try dsimp only at *); omega)
  refine WL.val (.slice a2 l2.length c2) rfl rfl rfl (fun za zC zh zk => wp_assign rfl (zh.ev rfl) zk) ?_
  refine WL.nil (WE.sub (K' := [(0, .agg #[.int .i64 t.f, .slice a t.args.length c]), (1, .pointer (some ⟨g2, 0, none⟩)), (2, .slice a2 l2.length c2), (3, .pointer (some ⟨g9, 0, none⟩))]) ⟨rfl, rfl, rfl, rfl, trivial⟩ ?_)
  refine WE.next ?_
  refine WC.ret ?_
  refine WE.ret1 rfl rfl ?_
  exact ⟨_, rfl, l2, a2, c2, rfl, q1, q2, q3, (fun x => by rw [q4, hm33]; simp), hb44⟩

end Go.Proofs.Ytlkiabgpnboicaa

namespace Go.Proofs.Ytlkiabgpnboicaa
open Go.RowKit Go.Sort Go

theorem T.sameL_len : ∀ (l q : List T), l.length ≠ q.length → T.sameL l q = false
  | [], [], h => absurd rfl h
  | _ :: r, _ :: q, h => by rw [T.sameL, T.sameL_len r q (by simpa using h), Bool.and_false]
  | [], _ :: _, _ => rfl
  | _ :: _, [], _ => rfl
theorem T.sameL_drop (l q : List T) (k : Nat) (h : k < l.length) (h' : k < q.length) : T.sameL (l.drop k) (q.drop k) = (T.same l[k] q[k] && T.sameL (l.drop (k + 1)) (q.drop (k + 1))) := by
  rw [List.drop_eq_getElem_cons h, List.drop_eq_getElem_cons h', T.sameL]
theorem T.sameL_end (l q : List T) (h : l.length = q.length) : T.sameL (l.drop l.length) (q.drop l.length) = true := by
  rw [List.drop_eq_nil_of_le (Nat.le_refl _), List.drop_eq_nil_of_le (by omega), T.sameL]

theorem equalFunc_any (l q : List T) (ih : ∀ a ∈ l, ∀ (t : T) (w : World) (v u : Value), IsT w a v → IsT w t u →
      Calls Try.prog 26 #[v, u] w fun e w' => e = .returned (.bool (T.same a t)) ∧ Below w.heap.size w w')
    (w : World) (a a' : Option Addr) (c c' : Nat) (hc : l.length ≤ c) (_hc' : q.length ≤ c') (hm : c ≤ maxLen) (_hm' : c' ≤ maxLen) (hl : IsTs w l a 0) (hq : IsTs w q a' 0) :
    Calls Try.prog 35 #[.slice a l.length c, .slice a' q.length c', .func (.func 26) #[] #[]] w fun e w' => e = .returned (.bool (T.sameL l q)) ∧ Below w.heap.size w w' := by
  unfold maxLen at hm
  by_cases hlen : l.length = q.length
  · have hne : ((l.length : Int) != (q.length : Int)) = false := by simp [hlen]
    have HL := Lib.hid hlen
    go_enter Try.func35, Try.ntmps35
    clear hlen
    go_wp2_with fail
    go_loopw [17] (fun i wr => ∃ (k : Nat), k ≤ l.length ∧ i = .int .i64 k ∧ Hid (T.sameL l q = T.sameL (l.drop k) (q.drop k)) ∧ Below w.heap.size w wr) (fun i _ => l.length - (intOf i).toNat)
    case atStart => exact ⟨0, Nat.zero_le _, rfl, rfl, Below.refl _ _⟩
    case round =>
      obtain ⟨k, hk, rfl, hx, hw⟩ := hrel
      by_cases hlt : k < l.length
      · have hlq : k < q.length := by have := HL.out; omega
        obtain ⟨b1, o1, a1, c1, rfl, g1, g2, h3⟩ := hl.at_ hw k hlt
        obtain ⟨b2, o2, a2, c2, rfl, g3, g4, h4⟩ := hq.at_ hw k hlq
        have IH := fun w v u => ih l[k] (List.getElem_mem hlt) q[k] w v u
        have q5 := T.sameL_drop l q k hlt hlq
        have g3 := calloc g3
        have g4 := calloc g4
        cases hz : T.same l[k] q[k] with
        | true =>
          rw [hz] at IH
          have Hh3 := Lib.hid h3
          have Hh4 := Lib.hid h4
          have Hhw := Lib.hid hw
          have Hq5 := Lib.hid q5
          have Hhx := Lib.hid hx
          have Hhz := Lib.hid hz
          clear h3 h4 hw q5 hx hz
          clear ih hl hq
          go_wp2_with (go_at_call 26; refine (IH _ _ _ (Hh3.out.below (balloc2 _ _ _)) (Hh4.out.below (balloc2 _ _ _))).mono ?_; rintro e w' ⟨rfl, hb'⟩)
          go_roundw
          case rel => exact ⟨k + 1, by omega, by go_num, by unfold Hid; rw [Hhx.out, Hq5.out, Hhz.out, Bool.true_and], bstep (bstep Hhw.out (balloc2 _ _ _)) hb'⟩
          case measure => simp [intOf]; omega
        | false =>
          rw [hz] at IH
          have Hh3 := Lib.hid h3
          have Hh4 := Lib.hid h4
          have Hhw := Lib.hid hw
          have Hq5 := Lib.hid q5
          have Hhx := Lib.hid hx
          have Hhz := Lib.hid hz
          clear h3 h4 hw q5 hx hz
          clear ih hl hq
          go_wp2_with (go_at_call 26; refine (IH _ _ _ (Hh3.out.below (balloc2 _ _ _)) (Hh4.out.below (balloc2 _ _ _))).mono ?_; rintro e w' ⟨rfl, hb'⟩)
          go_ret
          exact ⟨rbool (by rw [Hhx.out, Hq5.out, Hhz.out, Bool.false_and]), bstep (bstep Hhw.out (balloc2 _ _ _)) hb'⟩
      · obtain rfl : k = l.length := by omega
        have Q := Lib.hid (T.sameL_end l q HL.out)
        have Hhw := Lib.hid hw
        have Hhx := Lib.hid hx
        clear hw hx
        clear ih hl hq
        go_wp2_with fail
        go_ret
        exact ⟨rbool (by rw [Hhx.out, Q.out]), Hhw.out⟩
  · have hne : ((l.length : Int) != (q.length : Int)) = true := by simpa using fun h => hlen (by omega)
    have E := Lib.hid (T.sameL_len l q hlen)
    clear ih hl hq hlen
    go_enter Try.func35, Try.ntmps35
    go_wp2_with fail
    go_ret
    exact ⟨rbool E.out, Below.refl _ _⟩

theorem same_any (s : T) : ∀ (t : T) (w : World) (v u : Value), IsT w s v → IsT w t u →
    Calls Try.prog 26 #[v, u] w fun e w' => e = .returned (.bool (T.same s t)) ∧ Below w.heap.size w w' := by
  induction s using T.ind with
  | h f l ih =>
  intro t w v u hv hu
  obtain ⟨g, q⟩ := t
  obtain ⟨_, a, c, rfl, hc, hm, hl⟩ := hv
  obtain ⟨_, a', c', rfl, hc', hm', hq⟩ := hu
  have EF := fun (w' : World) hb => equalFunc_any l q ih w' a a' c c' hc hc' hm hm' (IsTs.below (w := w) (w' := w') hb hl) (hq.below hb)
  clear ih hl hq
  by_cases hfg : f = g
  · have hne : (f == g) = true := by simpa using hfg
    have E := Lib.hid (show T.same (.mk f l) (.mk g q) = T.sameL l q by rw [T.same, hne, Bool.true_and])
    subst hfg
    go_enter Try.func26, Try.ntmps26
    go_wp2_with (go_at_call 35; refine (EF _ (balloc2 _ _ _)).mono ?_; rintro e w' ⟨rfl, hb'⟩)
    go_ret
    exact ⟨rbool E.out, bstep (balloc2 _ _ _) hb'⟩
  · have hne : (f == g) = false := by simpa using hfg
    have E := Lib.hid (show T.same (.mk f l) (.mk g q) = false by rw [T.same, hne, Bool.false_and])
    clear hfg
    go_enter Try.func26, Try.ntmps26
    go_wp2_with fail
    go_ret
    exact ⟨rbool E.out, balloc2 _ _ _⟩

end Go.Proofs.Ytlkiabgpnboicaa
