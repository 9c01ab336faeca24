/- The lexicographic path order of the program: over, Cmp, Above. -/
import Derived.Test.YtlkiabgpnboicaaLpoWalk2
import Derived.Test.YtlkiabgpnboicaaLParts
namespace Go.Proofs.Ytlkiabgpnboicaa
open Go.RowKit Go

mutual
theorem lay_small : ∀ (t : T) (n : Nat), ∀ x ∈ lay t n, x.t.size ≤ t.size
  | .mk f l, n, x, hx => by
    rw [lay, List.mem_cons] at hx
    rcases hx with rfl | hx
    · exact Nat.le_refl _
    · have := layL_small l (n + 1) x hx; rw [T.size]; omega
theorem layL_small : ∀ (l : List T) (n : Nat), ∀ x ∈ layL l n, x.t.size ≤ T.sizeL l
  | [], _, x, hx => by simp [layL] at hx
  | a :: r, n, x, hx => by
    rw [layL, List.mem_append] at hx
    rw [T.sizeL]
    rcases hx with hx | hx
    · have := lay_small a n x hx; omega
    · have := layL_small r _ x hx; omega
end
theorem lpoH_of {o : Od} {s t : T} (hs : o.lknows s = true) (ht : o.lknows t = true) (h1 : s.size ≤ 4294967296) (h2 : t.size ≤ 4294967296) : LpoH o (lay s 0) (lay t 0) :=
  ⟨fun k h => lay0_good s k h, fun k h => lay0_good t k h, fun k h => lay_known o s 0 hs _ (ndget_mem h), fun k h => lay_known o t 0 ht _ (ndget_mem h), fun k h => Nat.le_trans (lay_small s 0 _ (ndget_mem h)) h1, fun k h => Nat.le_trans (lay_small t 0 _ (ndget_mem h)) h2⟩
theorem chg_none {S : Nat → Prop} {w w' : World} (h : Chg S w w') (hS : ∀ k, ¬ S k) : Below w.heap.size w w' := ⟨h.os, h.tape, h.output, h.size, fun k hk => h.block k hk (hS k)⟩
/-- The value is the row of t's parts. -/
def PartsOf (E : Nat) (w0 : World) (t : T) (v : Value) (w : World) : Prop := ∃ (bm rc : Nat) (xs : List Value), v = .slice (some ⟨bm, 0, none⟩) (lay t 0).length rc ∧ Own w (fun g => g = bm) E 3 (some ⟨bm, 0, none⟩) rc (lay t 0).length xs ∧ NdsAt w0 w (fun _ => True) (lay t 0) xs
theorem PartsOf.bel {E : Nat} {w0 w w' : World} {t : T} {v : Value} (h : PartsOf E w0 t v w) (hb : Below w.heap.size w w') : PartsOf E w0 t v w' := by
  obtain ⟨bm, rc, xs, h1, h2, h3⟩ := h
  exact ⟨bm, rc, xs, h1, h2.below hb, h3.keep (S := fun _ => False) (.ofBelow hb) (fun _ _ h => ⟨id, h⟩)⟩
theorem parts_of {w0 w : World} {t : T} {v : Value} (hb : Below w0.heap.size w0 w) (hT : IsT w0 t v) (hz : t.size ≤ 4294967296) : Calls Try.prog 36 #[v, .slice none 0 0] w (Ret fun v' w' => PartsOf 86 w0 t v' w' ∧ Below w.heap.size w w') := by
  refine (parts_any t w0 w v none 0 0 w0.heap.size 0 [] hb hT own_nil (Nat.zero_le _) (Nat.le_refl _) (by omega)).mono ?_
  rintro e w' ⟨v', rfl, bm, rc, ys, rfl, h1, h2, _, h4, _⟩
  refine ⟨_, rfl, ⟨bm, rc, ys, by rw [lay_len, Nat.zero_add], by rw [lay_len]; simpa using h1, h2.keep (S := fun _ => False) (.refl _ _) (fun _ _ _ => ⟨id, trivial⟩)⟩, chg_none h4 (fun k => by omega)⟩
def MapOf (o : Od) (s t : T) (w0 : World) (v : Value) (w : World) : Prop := ∃ g, v = .map (some g) ∧ w0.heap.size ≤ g ∧ PrMap w g (LpoR o (lay s 0) (lay t 0))
theorem MapOf.bel {o : Od} {s t : T} {w0 w w' : World} {v : Value} (h : MapOf o s t w0 v w) (hb : Below w.heap.size w w') : MapOf o s t w0 v w' := by
  obtain ⟨g, h1, h2, h3⟩ := h
  exact ⟨g, h1, h2, h3.below hb⟩
def OverOf (o : Od) (s t : T) (w0 : World) (v : Value) (w : World) : Prop := ∃ q : LpoQ, v = .pointer (some ⟨q.gw, 0, none⟩) ∧ LpoSt o (lay s 0) (lay t 0) q w0 w
theorem OverOf.bel {o : Od} {s t : T} {w0 w w' : World} {v : Value} (h : OverOf o s t w0 v w) (hb : Below w.heap.size w w') : OverOf o s t w0 v w' := by
  obtain ⟨q, h1, h2⟩ := h
  exact ⟨q, h1, h2.bel hb⟩
theorem over_st {o : Od} {s t : T} {w0 w : World} {v1 v2 v3 : Value} {p1 p2 : Option Addr} {k1 k2 : Nat} (hb : Below w0.heap.size w0 w) (ho : IsInts w0 o.prec p1) (h1 : PartsOf 86 w0 s v1 w) (h2 : PartsOf 86 w0 t v2 w) (h3 : MapOf o s t w0 v3 w) :
    OverOf o s t w0 (.pointer (some ⟨w.heap.size, 0, none⟩)) (w.alloc (.cells #[.bool o.lpo, .slice p1 o.prec.length k1, .slice p2 o.weights.length k2, .int .i64 o.var, v1, v2, v3] 75)) := by
  have hb2 := balloc w (.cells #[.bool o.lpo, .slice p1 o.prec.length k1, .slice p2 o.weights.length k2, .int .i64 o.var, v1, v2, v3] 75)
  have hB : Blk (w.alloc (.cells #[.bool o.lpo, .slice p1 o.prec.length k1, .slice p2 o.weights.length k2, .int .i64 o.var, v1, v2, v3] 75)) w.heap.size 75 #[.bool o.lpo, .slice p1 o.prec.length k1, .slice p2 o.weights.length k2, .int .i64 o.var, v1, v2, v3] := Blk.new' rfl
  obtain ⟨b1, r1, xs1, rfl, o1, n1⟩ := h1.bel hb2
  obtain ⟨b2, r2, xs2, rfl, o2, n2⟩ := h2.bel hb2
  obtain ⟨gm, rfl, hg, hm⟩ := h3.bel hb2
  obtain ⟨A1, X1, C1, Z1, x1, m1⟩ := NdRow.of n1 o1
  obtain ⟨A2, X2, C2, Z2, x2, m2⟩ := NdRow.of n2 o2
  exact ⟨⟨w.heap.size, gm, b1, b2, r1, r2, A1, A2, X1, X2, C1, C2, Z1, Z2, x1, x2, p1, p2, k1, k2⟩, rfl, bstep hb hb2, ho, m1, m2, hm, hB, hg⟩
theorem labove0 {o : Od} {s t : T} {q : LpoQ} {w0 w : World} (hs : o.lknows s = true) (ht : o.lknows t = true) (h1 : s.size ≤ 4294967296) (h2 : t.size ≤ 4294967296) (hst : LpoSt o (lay s 0) (lay t 0) q w0 w) :
    Calls Try.prog 37 #[.pointer (some ⟨q.gw, 0, none⟩), .int .i64 0, .int .i64 0] w (Ret fun v' w' => v' = .bool (o.lg s t) ∧ Below w0.heap.size w0 w') := by
  have e1 := lay_len s 0
  have e2 := lay_len t 0
  have e3 := T.size_eq s
  have e4 := T.size_eq t
  have h := labove_any o (lay s 0) (lay t 0) q w0 (lpoH_of hs ht h1 h2) (s.size + t.size) 0 0 w (by omega) (by omega) (by rw [lay_head, lay_head]; exact Nat.le_refl _) hst
  rw [lay_head, lay_head] at h
  refine h.mono ?_
  rintro e w' ⟨v', rfl, rfl, h5, _⟩
  exact ⟨_, rfl, rfl, h5.below⟩
set_option maxRecDepth 100000 in
theorem over_any (o : Od) (s t : T) (w : World) (vo v u : Value) (hs : o.lknows s = true) (ht : o.lknows t = true) (h1 : s.size ≤ 4294967296) (h2 : t.size ≤ 4294967296) (ho : IsOd w o vo) (hv : IsT w s v) (hu : IsT w t u) :
    Calls Try.prog 27 #[vo, v, u] w (Ret fun v' w' => v' = .bool (o.lg s t) ∧ Below w.heap.size w w') := by
  have hv0 := hv
  have hu0 := hu
  obtain ⟨p1, p2, k1, k2, rfl, _, _, _, _, hp, _, _⟩ := ho
  obtain ⟨_, a, c, rfl, _, _, _⟩ := hv.form
  obtain ⟨_, a2, c2, rfl, _, _, _⟩ := hu.form
  refine Calls.walk (l := [.agg #[.bool o.lpo, .slice p1 o.prec.length k1, .slice p2 o.weights.length k2, .int .i64 o.var], .agg #[.int .i64 s.f, .slice a s.args.length c], .agg #[.int .i64 t.f, .slice a2 t.args.length c2]]) Try.func27 rfl (by kernel_rfl) ?_
  refine WC.sub (K' := [(0, .agg #[.bool o.lpo, .slice p1 o.prec.length k1, .slice p2 o.weights.length k2, .int .i64 o.var]), (1, .agg #[.int .i64 s.f, .slice a s.args.length c]), (2, .agg #[.int .i64 t.f, .slice a2 t.args.length c2])]) ⟨rfl, rfl, rfl, trivial⟩ ?_
  refine WC.seq ?_
  refine WC.region ?_
  refine WL.step (post := NewBlk w 24 #[.bool o.lpo, .slice p1 o.prec.length k1, .slice p2 o.weights.length k2, .int .i64 o.var]) rfl rfl rfl (fun za zC zh zk => box_24 rfl (zh.ev rfl) (zk _ _ (newBlk _ _ _))) ?_
  rintro _ w1 ⟨g2, rfl, hg3, hB4, hb5, hz6⟩
  have hl7 : w.heap.size ≤ g2 := by omega
  refine WL.step (post := NewBlk w1 27 #[.int .i64 s.f, .slice a s.args.length c]) rfl rfl rfl (fun za zC zh zk => box_27 rfl (zh.ev rfl) (zk _ _ (newBlk _ _ _))) ?_
  rintro _ w8 ⟨g9, rfl, hg10, hB11, hb12, hz13⟩
  have hl14 : g2 < g9 := by have z1 := hB4.lt; omega
  have hl15 : w.heap.size ≤ g9 := by have z2 := (hb5).size; omega
  refine WL.step (post := NewBlk w8 27 #[.int .i64 t.f, .slice a2 t.args.length c2]) rfl rfl rfl (fun za zC zh zk => box_27 rfl (zh.ev rfl) (zk _ _ (newBlk _ _ _))) ?_
  rintro _ w16 ⟨g17, rfl, hg18, hB19, hb20, hz21⟩
  have hl22 : g2 < g17 := by have z1 := hB4.lt; have z2 := (hb12).size; omega
  have hl23 : g9 < g17 := by have z1 := hB11.lt; omega
  have hb24 : Below w.heap.size w w8 := (bstep hb5 hb12)
  have hl25 : w.heap.size ≤ g17 := by have z2 := (hb24).size; omega
  refine WL.val (.bool false) rfl rfl rfl (fun za zC zh zk => wp_assign rfl (zh.ev rfl) zk) ?_
  refine WL.nil (WE.sub (K' := [(0, .agg #[.bool o.lpo, .slice p1 o.prec.length k1, .slice p2 o.weights.length k2, .int .i64 o.var]), (1, .agg #[.int .i64 s.f, .slice a s.args.length c]), (2, .agg #[.int .i64 t.f, .slice a2 t.args.length c2]), (3, .pointer (some ⟨g2, 0, none⟩)), (4, .pointer (some ⟨g9, 0, none⟩)), (5, .pointer (some ⟨g17, 0, none⟩)), (6, .bool false)]) ⟨rfl, rfl, rfl, rfl, rfl, rfl, rfl, trivial⟩ ?_)
  refine WE.next ?_
  refine WC.seq ?_
  have hb27 : Below w1.heap.size w1 w16 := (bstep hb12 hb20)
  have hB26 := hB4.below hb27
  have hB28 := hB11.below hb20
  have hb29 : Below w.heap.size w w16 := (bstep hb5 hb27)
  refine WC.opt [(true, .val (.agg #[.bool o.lpo, .slice p1 o.prec.length k1, .slice p2 o.weights.length k2, .int .i64 o.var])), (true, .val (.agg #[.int .i64 s.f, .slice a s.args.length c])), (true, .mem (PartsOf 86 w s) (fun v w w' hb h => PartsOf.bel h hb)), (true, .val (.agg #[.int .i64 t.f, .slice a2 t.args.length c2])), (true, .mem (PartsOf 86 w t) (fun v w w' hb h => PartsOf.bel h hb)), (true, .mem (MapOf o s t w) (fun v w w' hb h => MapOf.bel h hb)), (true, .mem (fun v w' => ∃ v1 v2 v3, v = .agg #[.bool o.lpo, .slice p1 o.prec.length k1, .slice p2 o.weights.length k2, .int .i64 o.var, v1, v2, v3] ∧ PartsOf 86 w s v1 w' ∧ PartsOf 86 w t v2 w' ∧ MapOf o s t w v3 w') (fun v w w' hb h => by obtain ⟨v1, v2, v3, e, h1, h2, h3⟩ := h; exact ⟨v1, v2, v3, e, h1.bel hb, h2.bel hb, h3.bel hb⟩)), (true, .mem (OverOf o s t w) (fun v w w' hb h => OverOf.bel h hb)), (true, .mem (OverOf o s t w) (fun v w w' hb h => OverOf.bel h hb))] [(0, .agg #[.bool o.lpo, .slice p1 o.prec.length k1, .slice p2 o.weights.length k2, .int .i64 o.var]), (1, .agg #[.int .i64 s.f, .slice a s.args.length c]), (2, .agg #[.int .i64 t.f, .slice a2 t.args.length c2]), (3, .pointer (some ⟨g2, 0, none⟩)), (4, .pointer (some ⟨g9, 0, none⟩)), (5, .pointer (some ⟨g17, 0, none⟩)), (6, .bool false)] ⟨rfl, rfl, rfl, rfl, rfl, rfl, rfl, trivial⟩ (by kernel_rfl) (by kernel_rfl) (by kernel_rfl) ?_ ?_
  · refine ⟨⟨true, .none rfl, fun h w => optUndef h, fun zβ za zw zc => ?_⟩, ?_⟩
    · exact ld_24 rfl (zc.kn.ev rfl) (bkeeps zc.below _ _ ((hB26.cell 0).trans rfl)) (bkeeps zc.below _ _ ((hB26.cell 1).trans rfl)) (bkeeps zc.below _ _ ((hB26.cell 2).trans rfl)) (bkeeps zc.below _ _ ((hB26.cell 3).trans rfl)) ⟨_, rfl, Below.refl _ _, optDef zβ rfl⟩
    refine ⟨⟨true, .none rfl, fun h w => optUndef h, fun zβ za zw zc => ?_⟩, ?_⟩
    · exact ld_27 rfl (zc.kn.ev rfl) (bkeeps zc.below _ _ ((hB28.cell 0).trans rfl)) (bkeeps zc.below _ _ ((hB28.cell 1).trans rfl)) ⟨_, rfl, Below.refl _ _, optDef zβ rfl⟩
    refine ⟨⟨true, .none rfl, fun h w => optUndef h, fun zβ za zw zc => ?_⟩, ?_⟩
    · exact wp_call (by kernel_rfl) rfl (hv2 ((show za.eval (.tmp 9) = za.tmps.getD 9 undef from rfl).trans (optVal (zc.dep 1 9 (by kernel_rfl)) rfl rfl)) (zc.kn.ev rfl)) (parts_of (bstep hb29 zc.below) hv0 h1) (fun v w' h => ⟨v, rfl, h.2, optDef zβ h.1⟩)
    refine ⟨⟨true, .none rfl, fun h w => optUndef h, fun zβ za zw zc => ?_⟩, ?_⟩
    · exact ld_27 rfl (zc.kn.ev rfl) (bkeeps zc.below _ _ ((hB19.cell 0).trans rfl)) (bkeeps zc.below _ _ ((hB19.cell 1).trans rfl)) ⟨_, rfl, Below.refl _ _, optDef zβ rfl⟩
    refine ⟨⟨true, .none rfl, fun h w => optUndef h, fun zβ za zw zc => ?_⟩, ?_⟩
    · exact wp_call (by kernel_rfl) rfl (hv2 ((show za.eval (.tmp 11) = za.tmps.getD 11 undef from rfl).trans (optVal (zc.dep 3 11 (by kernel_rfl)) rfl rfl)) (zc.kn.ev rfl)) (parts_of (bstep hb29 zc.below) hu0 h2) (fun v w' h => ⟨v, rfl, h.2, optDef zβ h.1⟩)
    refine ⟨⟨true, .none rfl, fun h w => optUndef h, fun zβ za zw zc => ?_⟩, ?_⟩
    · exact wp_makeMap_pr (R := LpoR o (lay s 0) (lay t 0)) rfl (fun v w' h => by
        obtain ⟨g, h1, h2, h3, h4, h5⟩ := h
        exact ⟨v, rfl, h4, optDef zβ ⟨g, h1, h2 ▸ ((bstep hb29 zc.below)).size, h3⟩⟩)
    refine ⟨⟨true, .none rfl, fun h w => optUndef h, fun zβ za zw zc => ?_⟩, ?_⟩
    · have m1 := (optMem (zc.dep 2 10 (by kernel_rfl)) rfl rfl)
      have m2 := (optMem (zc.dep 4 12 (by kernel_rfl)) rfl rfl)
      have m3 := (optMem (zc.dep 5 13 (by kernel_rfl)) rfl rfl)
      obtain ⟨b1, r1, x1, e1, _⟩ := id m1
      obtain ⟨b2, r2, x2, e2, _⟩ := id m2
      obtain ⟨g, e3, _⟩ := id m3
      refine build_75_0_1_2_3 rfl ((show za.eval (.tmp 8) = za.tmps.getD 8 undef from rfl).trans (optVal (zc.dep 0 8 (by kernel_rfl)) rfl rfl)) ((show za.eval (.tmp 10) = za.tmps.getD 10 undef from rfl).trans e1) ((show za.eval (.tmp 12) = za.tmps.getD 12 undef from rfl).trans e2) ((show za.eval (.tmp 13) = za.tmps.getD 13 undef from rfl).trans e3) ⟨_, rfl, Below.refl _ _, optDef zβ ⟨_, _, _, rfl, e1 ▸ m1, e2 ▸ m2, e3 ▸ m3⟩⟩
    refine ⟨⟨true, .none rfl, fun h w => optUndef h, fun zβ za zw zc => ?_⟩, ?_⟩
    · obtain ⟨v1, v2, v3, e, m1, m2, m3⟩ := (optMem (zc.dep 6 14 (by kernel_rfl)) rfl rfl)
      exact box_75 rfl ((show za.eval (.tmp 14) = za.tmps.getD 14 undef from rfl).trans e) ⟨_, rfl, balloc _ _, optDef zβ (over_st (bstep hb29 zc.below) hp m1 m2 m3)⟩
    refine ⟨⟨true, .none rfl, fun h w => optUndef h, fun zβ za zw zc => ?_⟩, ?_⟩
    · exact wp_assign rfl (show za.eval (.tmp 15) = za.tmps.getD 15 undef from rfl) ⟨_, rfl, Below.refl _ _, optDef zβ (optMem (zc.dep 7 15 (by kernel_rfl)) rfl rfl)⟩
    exact trivial
  · intro za w30 zh hb31 zu
    obtain ⟨q, hq, hst⟩ := (optMem (zu 8 7 (by kernel_rfl)) rfl rfl)
    have zh := zh.cons (d := 7) hq
    clear zu
    refine (show WE _ [(0, .agg #[.bool o.lpo, .slice p1 o.prec.length k1, .slice p2 o.weights.length k2, .int .i64 o.var]), (1, .agg #[.int .i64 s.f, .slice a s.args.length c]), (2, .agg #[.int .i64 t.f, .slice a2 t.args.length c2]), (3, .pointer (some ⟨g2, 0, none⟩)), (4, .pointer (some ⟨g9, 0, none⟩)), (5, .pointer (some ⟨g17, 0, none⟩)), (6, .bool false), (7, .pointer (some ⟨q.gw, 0, none⟩))] w30 _ .normal from ?_) za (zh.sub ⟨rfl, rfl, rfl, rfl, rfl, rfl, rfl, rfl, trivial⟩)
    refine WE.next ?_
    refine WC.seq ?_
    refine WC.region ?_
    refine WL.val (.pointer (some ⟨q.gw, 0, none⟩)) rfl rfl rfl (fun za zC zh zk => wp_move rfl (zh.ev rfl) zk) ?_
    refine WL.call rfl rfl rfl (fun za zh zC => wp_call (by kernel_rfl) rfl (hv3 (zh.ev rfl) (zh.ev rfl) (zh.ev rfl))) (labove0 hs ht h1 h2 hst) ?_
    rintro _ w32 ⟨rfl, hbz⟩
    refine WL.val (.bool ((o.lg s t))) rfl rfl rfl (fun za zC zh zk => wp_assign rfl (zh.ev rfl) zk) ?_
    refine WL.nil (WE.sub (K' := [(0, .agg #[.bool o.lpo, .slice p1 o.prec.length k1, .slice p2 o.weights.length k2, .int .i64 o.var]), (1, .agg #[.int .i64 s.f, .slice a s.args.length c]), (2, .agg #[.int .i64 t.f, .slice a2 t.args.length c2]), (3, .pointer (some ⟨g2, 0, none⟩)), (4, .pointer (some ⟨g9, 0, none⟩)), (5, .pointer (some ⟨g17, 0, none⟩)), (6, .bool ((o.lg s t))), (7, .pointer (some ⟨q.gw, 0, none⟩))]) ⟨rfl, rfl, rfl, rfl, rfl, rfl, rfl, rfl, trivial⟩ ?_)
    refine WE.next ?_
    refine WC.ret ?_
    refine WE.ret1 rfl rfl ?_
    exact ⟨_, rfl, rfl, hbz⟩

set_option maxRecDepth 100000 in
theorem lcmp_any (o : Od) (s t : T) (w : World) (vo v u : Value) (h1 : s.size ≤ 4294967296) (h2 : t.size ≤ 4294967296) (ho : IsOd w o vo) (hv : IsT w s v) (hu : IsT w t u) :
    Calls Try.prog 11 #[vo, v, u] w (Ret fun v' w' => v' = .int .i64 (o.lcmp s t) ∧ Below w.heap.size w w') := by
  have hv0 := hv
  have hu0 := hu
  have ho0 := ho
  obtain ⟨p1, p2, k1, k2, rfl, _, _, _, _, hp, _, _⟩ := ho
  obtain ⟨_, a, c, rfl, _, _, _⟩ := hv.form
  obtain ⟨_, a2, c2, rfl, _, _, _⟩ := hu.form
  refine Calls.walk (l := [.agg #[.bool o.lpo, .slice p1 o.prec.length k1, .slice p2 o.weights.length k2, .int .i64 o.var], .agg #[.int .i64 s.f, .slice a s.args.length c], .agg #[.int .i64 t.f, .slice a2 t.args.length c2]]) Try.func11 rfl (by kernel_rfl) ?_
  refine WC.sub (K' := [(0, .agg #[.bool o.lpo, .slice p1 o.prec.length k1, .slice p2 o.weights.length k2, .int .i64 o.var]), (1, .agg #[.int .i64 s.f, .slice a s.args.length c]), (2, .agg #[.int .i64 t.f, .slice a2 t.args.length c2])]) ⟨rfl, rfl, rfl, trivial⟩ ?_
  refine WC.seq ?_
  refine WC.region ?_
  refine WL.step (post := NewBlk w 24 #[.bool o.lpo, .slice p1 o.prec.length k1, .slice p2 o.weights.length k2, .int .i64 o.var]) rfl rfl rfl (fun za zC zh zk => box_24 rfl (zh.ev rfl) (zk _ _ (newBlk _ _ _))) ?_
  rintro _ w1 ⟨g2, rfl, hg3, hB4, hb5, hz6⟩
  have hl7 : w.heap.size ≤ g2 := by omega
  refine WL.step (post := NewBlk w1 27 #[.int .i64 s.f, .slice a s.args.length c]) rfl rfl rfl (fun za zC zh zk => box_27 rfl (zh.ev rfl) (zk _ _ (newBlk _ _ _))) ?_
  rintro _ w8 ⟨g9, rfl, hg10, hB11, hb12, hz13⟩
  have hl14 : g2 < g9 := by have z1 := hB4.lt; omega
  have hl15 : w.heap.size ≤ g9 := by have z2 := (hb5).size; omega
  refine WL.step (post := NewBlk w8 27 #[.int .i64 t.f, .slice a2 t.args.length c2]) rfl rfl rfl (fun za zC zh zk => box_27 rfl (zh.ev rfl) (zk _ _ (newBlk _ _ _))) ?_
  rintro _ w16 ⟨g17, rfl, hg18, hB19, hb20, hz21⟩
  have hl22 : g2 < g17 := by have z1 := hB4.lt; have z2 := (hb12).size; omega
  have hl23 : g9 < g17 := by have z1 := hB11.lt; omega
  have hb24 : Below w.heap.size w w8 := (bstep hb5 hb12)
  have hl25 : w.heap.size ≤ g17 := by have z2 := (hb24).size; omega
  refine WL.val (.int .i64 0) rfl rfl rfl (fun za zC zh zk => wp_assign rfl (zh.ev rfl) zk) ?_
  refine WL.nil (WE.sub (K' := [(0, .agg #[.bool o.lpo, .slice p1 o.prec.length k1, .slice p2 o.weights.length k2, .int .i64 o.var]), (1, .agg #[.int .i64 s.f, .slice a s.args.length c]), (2, .agg #[.int .i64 t.f, .slice a2 t.args.length c2]), (3, .pointer (some ⟨g2, 0, none⟩)), (4, .pointer (some ⟨g9, 0, none⟩)), (5, .pointer (some ⟨g17, 0, none⟩)), (6, .int .i64 0)]) ⟨rfl, rfl, rfl, rfl, rfl, rfl, rfl, trivial⟩ ?_)
  refine WE.next ?_
  refine WC.seq ?_
  refine WC.block ?_
  refine WC.seq ?_
  have hb27 : Below w1.heap.size w1 w16 := (bstep hb12 hb20)
  have hB26 := hB4.below hb27
  have hB28 := hB11.below hb20
  have hb29 : Below w.heap.size w w16 := (bstep hb5 hb27)
  refine WC.opt [(true, .val (.agg #[.bool o.lpo, .slice p1 o.prec.length k1, .slice p2 o.weights.length k2, .int .i64 o.var])), (true, .val (.agg #[.int .i64 s.f, .slice a s.args.length c])), (true, .val (.bool ((o.lknows s)))), (true, .val (.bool ((!(o.lknows s))))), (true, .val (.bool ((!(o.lknows s))))), ((true && !(!(o.lknows s))), .val (.agg #[.bool o.lpo, .slice p1 o.prec.length k1, .slice p2 o.weights.length k2, .int .i64 o.var])), ((true && !(!(o.lknows s))), .val (.agg #[.int .i64 t.f, .slice a2 t.args.length c2])), ((true && !(!(o.lknows s))), .val (.bool ((o.lknows t)))), ((true && !(!(o.lknows s))), .val (.bool ((!(o.lknows t))))), (true, .val (.bool (((!(o.lknows s)) || (!(o.lknows t)))))), (true, .val (.bool (((!(o.lknows s)) || (!(o.lknows t))))))] [(0, .agg #[.bool o.lpo, .slice p1 o.prec.length k1, .slice p2 o.weights.length k2, .int .i64 o.var]), (1, .agg #[.int .i64 s.f, .slice a s.args.length c]), (2, .agg #[.int .i64 t.f, .slice a2 t.args.length c2]), (3, .pointer (some ⟨g2, 0, none⟩)), (4, .pointer (some ⟨g9, 0, none⟩)), (5, .pointer (some ⟨g17, 0, none⟩)), (6, .int .i64 0)] ⟨rfl, rfl, rfl, rfl, rfl, rfl, rfl, trivial⟩ (by kernel_rfl) (by kernel_rfl) (by kernel_rfl) ?_ ?_
  · refine ⟨⟨true, .none rfl, fun h w => optUndef h, fun zβ za zw zc => ?_⟩, ?_⟩
    · exact ld_24 rfl (zc.kn.ev rfl) (bkeeps zc.below _ _ ((hB26.cell 0).trans rfl)) (bkeeps zc.below _ _ ((hB26.cell 1).trans rfl)) (bkeeps zc.below _ _ ((hB26.cell 2).trans rfl)) (bkeeps zc.below _ _ ((hB26.cell 3).trans rfl)) ⟨_, rfl, Below.refl _ _, optDef zβ rfl⟩
    refine ⟨⟨true, .none rfl, fun h w => optUndef h, fun zβ za zw zc => ?_⟩, ?_⟩
    · exact ld_27 rfl (zc.kn.ev rfl) (bkeeps zc.below _ _ ((hB28.cell 0).trans rfl)) (bkeeps zc.below _ _ ((hB28.cell 1).trans rfl)) ⟨_, rfl, Below.refl _ _, optDef zβ rfl⟩
    refine ⟨⟨true, .none rfl, fun h w => optUndef h, fun zβ za zw zc => ?_⟩, ?_⟩
    · exact wp_call (by kernel_rfl) rfl (hv2 ((show za.eval (.tmp 8) = za.tmps.getD 8 undef from rfl).trans (optVal (zc.dep 0 8 (by kernel_rfl)) rfl rfl)) ((show za.eval (.tmp 9) = za.tmps.getD 9 undef from rfl).trans (optVal (zc.dep 1 9 (by kernel_rfl)) rfl rfl))) (lknows_any o s _ _ _ (ho0.below (bstep hb29 zc.below)) (IsT.below (bstep hb29 zc.below) hv0)) (fun v w' h => ⟨v, rfl, h.2, optDef zβ h.1⟩)
    refine ⟨⟨true, .none rfl, fun h w => optUndef h, fun zβ za zw zc => ?_⟩, ?_⟩
    · exact wp_not rfl ((show za.eval (.tmp 10) = za.tmps.getD 10 undef from rfl).trans (optVal (zc.dep 2 10 (by kernel_rfl)) rfl rfl)) ⟨_, rfl, Below.refl _ _, optDef zβ rfl⟩
    refine ⟨⟨true, .none rfl, fun h w => optUndef h, fun zβ za zw zc => ?_⟩, ?_⟩
    · exact wp_move rfl ((show za.eval (.tmp 11) = za.tmps.getD 11 undef from rfl).trans (optVal (zc.dep 3 11 (by kernel_rfl)) rfl rfl)) ⟨_, rfl, Below.refl _ _, optDef zβ rfl⟩
    refine ⟨⟨(true && !(!(o.lknows s))), .no (c := (!(o.lknows s))) (d := true) rfl (fun v w h => h), fun h w => optUndef h, fun zβ za zw zc => ?_⟩, ?_⟩
    · exact ld_24 rfl (zc.kn.ev rfl) (bkeeps zc.below _ _ ((hB26.cell 0).trans rfl)) (bkeeps zc.below _ _ ((hB26.cell 1).trans rfl)) (bkeeps zc.below _ _ ((hB26.cell 2).trans rfl)) (bkeeps zc.below _ _ ((hB26.cell 3).trans rfl)) ⟨_, rfl, Below.refl _ _, optDef zβ rfl⟩
    refine ⟨⟨(true && !(!(o.lknows s))), .no (c := (!(o.lknows s))) (d := true) rfl (fun v w h => h), fun h w => optUndef h, fun zβ za zw zc => ?_⟩, ?_⟩
    · exact ld_27 rfl (zc.kn.ev rfl) (bkeeps zc.below _ _ ((hB19.cell 0).trans rfl)) (bkeeps zc.below _ _ ((hB19.cell 1).trans rfl)) ⟨_, rfl, Below.refl _ _, optDef zβ rfl⟩
    refine ⟨⟨(true && !(!(o.lknows s))), .no (c := (!(o.lknows s))) (d := true) rfl (fun v w h => h), fun h w => optUndef h, fun zβ za zw zc => ?_⟩, ?_⟩
    · exact wp_call (by kernel_rfl) rfl (hv2 ((show za.eval (.tmp 13) = za.tmps.getD 13 undef from rfl).trans (optVal (zc.dep 5 13 (by kernel_rfl)) rfl zβ)) ((show za.eval (.tmp 14) = za.tmps.getD 14 undef from rfl).trans (optVal (zc.dep 6 14 (by kernel_rfl)) rfl zβ))) (lknows_any o t _ _ _ (ho0.below (bstep hb29 zc.below)) (IsT.below (bstep hb29 zc.below) hu0)) (fun v w' h => ⟨v, rfl, h.2, optDef zβ h.1⟩)
    refine ⟨⟨(true && !(!(o.lknows s))), .no (c := (!(o.lknows s))) (d := true) rfl (fun v w h => h), fun h w => optUndef h, fun zβ za zw zc => ?_⟩, ?_⟩
    · exact wp_not rfl ((show za.eval (.tmp 15) = za.tmps.getD 15 undef from rfl).trans (optVal (zc.dep 7 15 (by kernel_rfl)) rfl zβ)) ⟨_, rfl, Below.refl _ _, optDef zβ rfl⟩
    refine ⟨⟨true, .none rfl, fun h w => optUndef h, fun zβ za zw zc => ?_⟩, ?_⟩
    · exact wp_or rfl ((show za.eval (.tmp 12) = za.tmps.getD 12 undef from rfl).trans (optVal (zc.dep 4 12 (by kernel_rfl)) rfl rfl)) (fun hp => ((show za.eval (.tmp 16) = za.tmps.getD 16 undef from rfl).trans (optVal (zc.dep 8 16 (by kernel_rfl)) rfl (bMkN zβ hp)))) ⟨_, rfl, Below.refl _ _, optDef zβ rfl⟩
    refine ⟨⟨true, .none rfl, fun h w => optUndef h, fun zβ za zw zc => ?_⟩, ?_⟩
    · exact wp_assign rfl ((show za.eval (.tmp 17) = za.tmps.getD 17 undef from rfl).trans (optVal (zc.dep 9 17 (by kernel_rfl)) rfl rfl)) ⟨_, rfl, Below.refl _ _, optDef zβ rfl⟩
    exact trivial
  · intro za w30 zh hb31 zu
    have zh := zh.cons (d := 7) (v := .bool (((!(o.lknows s)) || (!(o.lknows t))))) (optVal (zu 10 7 (by kernel_rfl)) rfl rfl)
    clear zu
    refine (show WE _ [(0, .agg #[.bool o.lpo, .slice p1 o.prec.length k1, .slice p2 o.weights.length k2, .int .i64 o.var]), (1, .agg #[.int .i64 s.f, .slice a s.args.length c]), (2, .agg #[.int .i64 t.f, .slice a2 t.args.length c2]), (3, .pointer (some ⟨g2, 0, none⟩)), (4, .pointer (some ⟨g9, 0, none⟩)), (5, .pointer (some ⟨g17, 0, none⟩)), (6, .int .i64 0), (7, .bool (((!(o.lknows s)) || (!(o.lknows t)))))] w30 _ .normal from ?_) za (zh.sub ⟨rfl, rfl, rfl, rfl, rfl, rfl, rfl, rfl, trivial⟩)
    refine WE.next ?_
    refine WC.cond rfl (fun h32 => ?_) (fun h32 => ?_)
    · have h32 : (¬ ((o.lknows s) = true)) ∨ (¬ ((o.lknows t) = true)) := by simpa using h32
      have hk1 : o.lknows s = false ∨ o.lknows t = false := by have z := h32; simpa using z
      refine WC.seq ?_
      refine WC.region ?_
      refine WL.val (.int .i64 0) rfl rfl rfl (fun za zC zh zk => wp_assign rfl (zh.ev rfl) zk) ?_
      refine WL.nil (WE.sub (K' := [(0, .agg #[.bool o.lpo, .slice p1 o.prec.length k1, .slice p2 o.weights.length k2, .int .i64 o.var]), (1, .agg #[.int .i64 s.f, .slice a s.args.length c]), (2, .agg #[.int .i64 t.f, .slice a2 t.args.length c2]), (3, .pointer (some ⟨g2, 0, none⟩)), (4, .pointer (some ⟨g9, 0, none⟩)), (5, .pointer (some ⟨g17, 0, none⟩)), (6, .int .i64 0), (7, .bool (((!(o.lknows s)) || (!(o.lknows t)))))]) ⟨rfl, rfl, rfl, rfl, rfl, rfl, rfl, rfl, trivial⟩ ?_)
      refine WE.next ?_
      refine WC.ret ?_
      refine WE.blockRet ?_
      refine WE.thenRet ?_
      refine WE.ret1 rfl rfl ?_
      have hb33 : Below w.heap.size w w30 := (bstep hb29 hb31)
      exact ⟨_, rfl, congrArg (Value.int .i64) (by first | (rcases hk1 with h | h <;> simp [Od.lcmp, h]; done) | simp [Od.lcmp, hk1.1, hk1.2, hk2, hk3, hk4]), hb33⟩
    · have h32 : ¬ ((¬ ((o.lknows s) = true)) ∨ (¬ ((o.lknows t) = true))) := by simpa using h32
      have hk1 : o.lknows s = true ∧ o.lknows t = true := by have z := h32; simpa using z
      refine WC.seq ?_
      refine WC.region ?_
      have hB34 := hB28.below hb31
      refine WL.val (.agg #[.int .i64 s.f, .slice a s.args.length c]) rfl rfl rfl (fun za zC zh zk => ld_27 rfl (zh.ev rfl) ((hB34.cell 0).trans rfl) ((hB34.cell 1).trans rfl) zk) ?_
      have hB35 := hB19.below hb31
      refine WL.val (.agg #[.int .i64 t.f, .slice a2 t.args.length c2]) rfl rfl rfl (fun za zC zh zk => ld_27 rfl (zh.ev rfl) ((hB35.cell 0).trans rfl) ((hB35.cell 1).trans rfl) zk) ?_
      have hb36 : Below w.heap.size w w30 := (bstep hb29 hb31)
      refine WL.call rfl rfl rfl (fun za zh zC => wp_call (by kernel_rfl) rfl (hv2 (zh.ev rfl) (zh.ev rfl))) (ret_of (same_any s t _ _ _ (IsT.below hb36 hv0) (IsT.below hb36 hu0))) ?_
      rintro _ w37 ⟨rfl, hbs⟩
      refine WL.val (.bool ((T.same s t))) rfl rfl rfl (fun za zC zh zk => wp_assign rfl (zh.ev rfl) zk) ?_
      refine WL.nil (WE.sub (K' := [(0, .agg #[.bool o.lpo, .slice p1 o.prec.length k1, .slice p2 o.weights.length k2, .int .i64 o.var]), (1, .agg #[.int .i64 s.f, .slice a s.args.length c]), (2, .agg #[.int .i64 t.f, .slice a2 t.args.length c2]), (3, .pointer (some ⟨g2, 0, none⟩)), (4, .pointer (some ⟨g9, 0, none⟩)), (5, .pointer (some ⟨g17, 0, none⟩)), (6, .int .i64 0), (7, .bool (((!(o.lknows s)) || (!(o.lknows t))))), (18, .bool ((T.same s t)))]) ⟨rfl, rfl, rfl, rfl, rfl, rfl, rfl, rfl, rfl, trivial⟩ ?_)
      refine WE.next ?_
      refine WC.cond rfl (fun h38 => ?_) (fun h38 => ?_)
      · skip
        have hk2 : T.same s t = true := by have z := h38; simpa using z
        refine WC.seq ?_
        refine WC.region ?_
        refine WL.val (.int .i64 2) rfl rfl rfl (fun za zC zh zk => wp_assign rfl (zh.ev rfl) zk) ?_
        refine WL.nil (WE.sub (K' := [(0, .agg #[.bool o.lpo, .slice p1 o.prec.length k1, .slice p2 o.weights.length k2, .int .i64 o.var]), (1, .agg #[.int .i64 s.f, .slice a s.args.length c]), (2, .agg #[.int .i64 t.f, .slice a2 t.args.length c2]), (3, .pointer (some ⟨g2, 0, none⟩)), (4, .pointer (some ⟨g9, 0, none⟩)), (5, .pointer (some ⟨g17, 0, none⟩)), (6, .int .i64 2), (7, .bool (((!(o.lknows s)) || (!(o.lknows t))))), (18, .bool ((T.same s t)))]) ⟨rfl, rfl, rfl, rfl, rfl, rfl, rfl, rfl, rfl, trivial⟩ ?_)
        refine WE.next ?_
        refine WC.ret ?_
        refine WE.blockRet ?_
        refine WE.thenRet ?_
        refine WE.ret1 rfl rfl ?_
        have hb39 : Below w.heap.size w w37 := (bstep hb36 hbs)
        exact ⟨_, rfl, congrArg (Value.int .i64) (by simp [Od.lcmp, hk1.1, hk1.2, hk2]), hb39⟩
      · skip
        have hk2 : T.same s t = false := by have z := h38; simpa using z
        refine WC.seq ?_
        refine WC.region ?_
        have hb41 : Below w16.heap.size w16 w37 := (bstep hb31 hbs)
        have hB40 := hB26.below hb41
        refine WL.val (.agg #[.bool o.lpo, .slice p1 o.prec.length k1, .slice p2 o.weights.length k2, .int .i64 o.var]) rfl rfl rfl (fun za zC zh zk => ld_24 rfl (zh.ev rfl) ((hB40.cell 0).trans rfl) ((hB40.cell 1).trans rfl) ((hB40.cell 2).trans rfl) ((hB40.cell 3).trans rfl) zk) ?_
        have hB42 := hB34.below hbs
        refine WL.val (.agg #[.int .i64 s.f, .slice a s.args.length c]) rfl rfl rfl (fun za zC zh zk => ld_27 rfl (zh.ev rfl) ((hB42.cell 0).trans rfl) ((hB42.cell 1).trans rfl) zk) ?_
        have hB43 := hB35.below hbs
        refine WL.val (.agg #[.int .i64 t.f, .slice a2 t.args.length c2]) rfl rfl rfl (fun za zC zh zk => ld_27 rfl (zh.ev rfl) ((hB43.cell 0).trans rfl) ((hB43.cell 1).trans rfl) zk) ?_
        have hb44 : Below w.heap.size w w37 := (bstep hb29 hb41)
        refine WL.call rfl rfl rfl (fun za zh zC => wp_call (by kernel_rfl) rfl (hv3 (zh.ev rfl) (zh.ev rfl) (zh.ev rfl))) (over_any o s t _ _ _ _ hk1.1 hk1.2 h1 h2 (ho0.below hb44) (IsT.below hb44 hv0) (IsT.below hb44 hu0)) ?_
        rintro _ w45 ⟨rfl, hbo⟩
        refine WL.val (.bool ((o.lg s t))) rfl rfl rfl (fun za zC zh zk => wp_assign rfl (zh.ev rfl) zk) ?_
        refine WL.nil (WE.sub (K' := [(0, .agg #[.bool o.lpo, .slice p1 o.prec.length k1, .slice p2 o.weights.length k2, .int .i64 o.var]), (1, .agg #[.int .i64 s.f, .slice a s.args.length c]), (2, .agg #[.int .i64 t.f, .slice a2 t.args.length c2]), (3, .pointer (some ⟨g2, 0, none⟩)), (4, .pointer (some ⟨g9, 0, none⟩)), (5, .pointer (some ⟨g17, 0, none⟩)), (6, .int .i64 0), (7, .bool (((!(o.lknows s)) || (!(o.lknows t))))), (18, .bool ((T.same s t))), (22, .bool ((o.lg s t)))]) ⟨rfl, rfl, rfl, rfl, rfl, rfl, rfl, rfl, rfl, rfl, trivial⟩ ?_)
        refine WE.next ?_
        refine WC.cond rfl (fun h46 => ?_) (fun h46 => ?_)
        · skip
          have hk3 : o.lg s t = true := by have z := h46; simpa using z
          refine WC.seq ?_
          refine WC.region ?_
          refine WL.val (.int .i64 3) rfl rfl rfl (fun za zC zh zk => wp_assign rfl (zh.ev rfl) zk) ?_
          refine WL.nil (WE.sub (K' := [(0, .agg #[.bool o.lpo, .slice p1 o.prec.length k1, .slice p2 o.weights.length k2, .int .i64 o.var]), (1, .agg #[.int .i64 s.f, .slice a s.args.length c]), (2, .agg #[.int .i64 t.f, .slice a2 t.args.length c2]), (3, .pointer (some ⟨g2, 0, none⟩)), (4, .pointer (some ⟨g9, 0, none⟩)), (5, .pointer (some ⟨g17, 0, none⟩)), (6, .int .i64 3), (7, .bool (((!(o.lknows s)) || (!(o.lknows t))))), (18, .bool ((T.same s t))), (22, .bool ((o.lg s t)))]) ⟨rfl, rfl, rfl, rfl, rfl, rfl, rfl, rfl, rfl, rfl, trivial⟩ ?_)
          refine WE.next ?_
          refine WC.ret ?_
          refine WE.blockRet ?_
          refine WE.thenRet ?_
          refine WE.ret1 rfl rfl ?_
          have hb47 : Below w.heap.size w w45 := (bstep hb44 hbo)
          exact ⟨_, rfl, congrArg (Value.int .i64) (by simp [Od.lcmp, hk1.1, hk1.2, hk2, hk3]), hb47⟩
        · skip
          have hk3 : o.lg s t = false := by have z := h46; simpa using z
          refine WC.seq ?_
          refine WC.region ?_
          have hB48 := hB40.below hbo
          refine WL.val (.agg #[.bool o.lpo, .slice p1 o.prec.length k1, .slice p2 o.weights.length k2, .int .i64 o.var]) rfl rfl rfl (fun za zC zh zk => ld_24 rfl (zh.ev rfl) ((hB48.cell 0).trans rfl) ((hB48.cell 1).trans rfl) ((hB48.cell 2).trans rfl) ((hB48.cell 3).trans rfl) zk) ?_
          have hB49 := hB43.below hbo
          refine WL.val (.agg #[.int .i64 t.f, .slice a2 t.args.length c2]) rfl rfl rfl (fun za zC zh zk => ld_27 rfl (zh.ev rfl) ((hB49.cell 0).trans rfl) ((hB49.cell 1).trans rfl) zk) ?_
          have hB50 := hB42.below hbo
          refine WL.val (.agg #[.int .i64 s.f, .slice a s.args.length c]) rfl rfl rfl (fun za zC zh zk => ld_27 rfl (zh.ev rfl) ((hB50.cell 0).trans rfl) ((hB50.cell 1).trans rfl) zk) ?_
          have hb51 : Below w.heap.size w w45 := (bstep hb44 hbo)
          refine WL.call rfl rfl rfl (fun za zh zC => wp_call (by kernel_rfl) rfl (hv3 (zh.ev rfl) (zh.ev rfl) (zh.ev rfl))) (over_any o t s _ _ _ _ hk1.2 hk1.1 h2 h1 (ho0.below hb51) (IsT.below hb51 hu0) (IsT.below hb51 hv0)) ?_
          rintro _ w52 ⟨rfl, hbo⟩
          refine WL.val (.bool ((o.lg t s))) rfl rfl rfl (fun za zC zh zk => wp_assign rfl (zh.ev rfl) zk) ?_
          refine WL.nil (WE.sub (K' := [(0, .agg #[.bool o.lpo, .slice p1 o.prec.length k1, .slice p2 o.weights.length k2, .int .i64 o.var]), (1, .agg #[.int .i64 s.f, .slice a s.args.length c]), (2, .agg #[.int .i64 t.f, .slice a2 t.args.length c2]), (3, .pointer (some ⟨g2, 0, none⟩)), (4, .pointer (some ⟨g9, 0, none⟩)), (5, .pointer (some ⟨g17, 0, none⟩)), (6, .int .i64 0), (7, .bool (((!(o.lknows s)) || (!(o.lknows t))))), (18, .bool ((T.same s t))), (22, .bool ((o.lg s t))), (27, .bool ((o.lg t s)))]) ⟨rfl, rfl, rfl, rfl, rfl, rfl, rfl, rfl, rfl, rfl, rfl, trivial⟩ ?_)
          refine WE.next ?_
          refine WC.cond rfl (fun h53 => ?_) (fun h53 => ?_)
          · skip
            have hk4 : o.lg t s = true := by have z := h53; simpa using z
            refine WC.seq ?_
            refine WC.region ?_
            refine WL.val (.int .i64 1) rfl rfl rfl (fun za zC zh zk => wp_assign rfl (zh.ev rfl) zk) ?_
            refine WL.nil (WE.sub (K' := [(0, .agg #[.bool o.lpo, .slice p1 o.prec.length k1, .slice p2 o.weights.length k2, .int .i64 o.var]), (1, .agg #[.int .i64 s.f, .slice a s.args.length c]), (2, .agg #[.int .i64 t.f, .slice a2 t.args.length c2]), (3, .pointer (some ⟨g2, 0, none⟩)), (4, .pointer (some ⟨g9, 0, none⟩)), (5, .pointer (some ⟨g17, 0, none⟩)), (6, .int .i64 1), (7, .bool (((!(o.lknows s)) || (!(o.lknows t))))), (18, .bool ((T.same s t))), (22, .bool ((o.lg s t))), (27, .bool ((o.lg t s)))]) ⟨rfl, rfl, rfl, rfl, rfl, rfl, rfl, rfl, rfl, rfl, rfl, trivial⟩ ?_)
            refine WE.next ?_
            refine WC.ret ?_
            refine WE.blockRet ?_
            refine WE.thenRet ?_
            refine WE.ret1 rfl rfl ?_
            have hb54 : Below w.heap.size w w52 := (bstep hb51 hbo)
            exact ⟨_, rfl, congrArg (Value.int .i64) (by simp [Od.lcmp, hk1.1, hk1.2, hk2, hk3, hk4]), hb54⟩
          · skip
            have hk4 : o.lg t s = false := by have z := h53; simpa using z
            refine WC.skip ?_
            refine WE.blockNormal ?_
            refine WE.next ?_
            refine WC.seq ?_
            refine WC.region ?_
            refine WL.val (.int .i64 0) rfl rfl rfl (fun za zC zh zk => wp_assign rfl (zh.ev rfl) zk) ?_
            refine WL.nil (WE.sub (K' := [(0, .agg #[.bool o.lpo, .slice p1 o.prec.length k1, .slice p2 o.weights.length k2, .int .i64 o.var]), (1, .agg #[.int .i64 s.f, .slice a s.args.length c]), (2, .agg #[.int .i64 t.f, .slice a2 t.args.length c2]), (3, .pointer (some ⟨g2, 0, none⟩)), (4, .pointer (some ⟨g9, 0, none⟩)), (5, .pointer (some ⟨g17, 0, none⟩)), (6, .int .i64 0), (7, .bool (((!(o.lknows s)) || (!(o.lknows t))))), (18, .bool ((T.same s t))), (22, .bool ((o.lg s t))), (27, .bool ((o.lg t s)))]) ⟨rfl, rfl, rfl, rfl, rfl, rfl, rfl, rfl, rfl, rfl, rfl, trivial⟩ ?_)
            refine WE.next ?_
            refine WC.ret ?_
            refine WE.ret1 rfl rfl ?_
            have hb55 : Below w.heap.size w w52 := (bstep hb51 hbo)
            exact ⟨_, rfl, congrArg (Value.int .i64) (by first | (rcases hk1 with h | h <;> simp [Od.lcmp, h]; done) | simp [Od.lcmp, hk1.1, hk1.2, hk2, hk3, hk4]), hb55⟩

set_option maxRecDepth 100000 in
theorem lpoAbove_any (o : Od) (s t : T) (w : World) (vo v u : Value) (h1 : s.size ≤ 4294967296) (h2 : t.size ≤ 4294967296) (ho : IsOd w o vo) (hv : IsT w s v) (hu : IsT w t u) :
    Calls Try.prog 12 #[vo, v, u] w (Ret fun v' w' => v' = .bool (o.lcmp s t == 3) ∧ Below w.heap.size w w') := by
  have hv0 := hv
  have hu0 := hu
  have ho0 := ho
  obtain ⟨p1, p2, k1, k2, rfl, _, _, _, _, hp, _, _⟩ := ho
  obtain ⟨_, a, c, rfl, _, _, _⟩ := hv.form
  obtain ⟨_, a2, c2, rfl, _, _, _⟩ := hu.form
  refine Calls.walk (l := [.agg #[.bool o.lpo, .slice p1 o.prec.length k1, .slice p2 o.weights.length k2, .int .i64 o.var], .agg #[.int .i64 s.f, .slice a s.args.length c], .agg #[.int .i64 t.f, .slice a2 t.args.length c2]]) Try.func12 rfl (by kernel_rfl) ?_
  refine WC.sub (K' := [(0, .agg #[.bool o.lpo, .slice p1 o.prec.length k1, .slice p2 o.weights.length k2, .int .i64 o.var]), (1, .agg #[.int .i64 s.f, .slice a s.args.length c]), (2, .agg #[.int .i64 t.f, .slice a2 t.args.length c2])]) ⟨rfl, rfl, rfl, trivial⟩ ?_
  refine WC.seq ?_
  refine WC.region ?_
  refine WL.step (post := NewBlk w 24 #[.bool o.lpo, .slice p1 o.prec.length k1, .slice p2 o.weights.length k2, .int .i64 o.var]) rfl rfl rfl (fun za zC zh zk => box_24 rfl (zh.ev rfl) (zk _ _ (newBlk _ _ _))) ?_
  rintro _ w1 ⟨g2, rfl, hg3, hB4, hb5, hz6⟩
  have hl7 : w.heap.size ≤ g2 := by omega
  refine WL.step (post := NewBlk w1 27 #[.int .i64 s.f, .slice a s.args.length c]) rfl rfl rfl (fun za zC zh zk => box_27 rfl (zh.ev rfl) (zk _ _ (newBlk _ _ _))) ?_
  rintro _ w8 ⟨g9, rfl, hg10, hB11, hb12, hz13⟩
  have hl14 : g2 < g9 := by have z1 := hB4.lt; omega
  have hl15 : w.heap.size ≤ g9 := by have z2 := (hb5).size; omega
  refine WL.step (post := NewBlk w8 27 #[.int .i64 t.f, .slice a2 t.args.length c2]) rfl rfl rfl (fun za zC zh zk => box_27 rfl (zh.ev rfl) (zk _ _ (newBlk _ _ _))) ?_
  rintro _ w16 ⟨g17, rfl, hg18, hB19, hb20, hz21⟩
  have hl22 : g2 < g17 := by have z1 := hB4.lt; have z2 := (hb12).size; omega
  have hl23 : g9 < g17 := by have z1 := hB11.lt; omega
  have hb24 : Below w.heap.size w w8 := (bstep hb5 hb12)
  have hl25 : w.heap.size ≤ g17 := by have z2 := (hb24).size; omega
  refine WL.val (.bool false) rfl rfl rfl (fun za zC zh zk => wp_assign rfl (zh.ev rfl) zk) ?_
  refine WL.nil (WE.sub (K' := [(0, .agg #[.bool o.lpo, .slice p1 o.prec.length k1, .slice p2 o.weights.length k2, .int .i64 o.var]), (1, .agg #[.int .i64 s.f, .slice a s.args.length c]), (2, .agg #[.int .i64 t.f, .slice a2 t.args.length c2]), (3, .pointer (some ⟨g2, 0, none⟩)), (4, .pointer (some ⟨g9, 0, none⟩)), (5, .pointer (some ⟨g17, 0, none⟩)), (6, .bool false)]) ⟨rfl, rfl, rfl, rfl, rfl, rfl, rfl, trivial⟩ ?_)
  refine WE.next ?_
  refine WC.seq ?_
  refine WC.region ?_
  have hb27 : Below w1.heap.size w1 w16 := (bstep hb12 hb20)
  have hB26 := hB4.below hb27
  refine WL.val (.agg #[.bool o.lpo, .slice p1 o.prec.length k1, .slice p2 o.weights.length k2, .int .i64 o.var]) rfl rfl rfl (fun za zC zh zk => ld_24 rfl (zh.ev rfl) ((hB26.cell 0).trans rfl) ((hB26.cell 1).trans rfl) ((hB26.cell 2).trans rfl) ((hB26.cell 3).trans rfl) zk) ?_
  have hB28 := hB11.below hb20
  refine WL.val (.agg #[.int .i64 s.f, .slice a s.args.length c]) rfl rfl rfl (fun za zC zh zk => ld_27 rfl (zh.ev rfl) ((hB28.cell 0).trans rfl) ((hB28.cell 1).trans rfl) zk) ?_
  refine WL.val (.agg #[.int .i64 t.f, .slice a2 t.args.length c2]) rfl rfl rfl (fun za zC zh zk => ld_27 rfl (zh.ev rfl) ((hB19.cell 0).trans rfl) ((hB19.cell 1).trans rfl) zk) ?_
  have hb29 : Below w.heap.size w w16 := (bstep hb5 hb27)
  refine WL.call rfl rfl rfl (fun za zh zC => wp_call (by kernel_rfl) rfl (hv3 (zh.ev rfl) (zh.ev rfl) (zh.ev rfl))) (lcmp_any o s t _ _ _ _ h1 h2 (ho0.below hb29) (IsT.below hb29 hv0) (IsT.below hb29 hu0)) ?_
  rintro _ w30 ⟨rfl, hbc⟩
  refine WL.val (.bool ((((o.lcmp s t) : Int) == (3 : Int)))) rfl rfl rfl (fun za zC zh zk => eql_30 rfl (zh.ev rfl) (zh.ev rfl) zk) ?_
  refine WL.val (.bool ((((o.lcmp s t) : Int) == (3 : Int)))) rfl rfl rfl (fun za zC zh zk => wp_assign rfl (zh.ev rfl) zk) ?_
  refine WL.nil (WE.sub (K' := [(0, .agg #[.bool o.lpo, .slice p1 o.prec.length k1, .slice p2 o.weights.length k2, .int .i64 o.var]), (1, .agg #[.int .i64 s.f, .slice a s.args.length c]), (2, .agg #[.int .i64 t.f, .slice a2 t.args.length c2]), (3, .pointer (some ⟨g2, 0, none⟩)), (4, .pointer (some ⟨g9, 0, none⟩)), (5, .pointer (some ⟨g17, 0, none⟩)), (6, .bool ((((o.lcmp s t) : Int) == (3 : Int))))]) ⟨rfl, rfl, rfl, rfl, rfl, rfl, rfl, trivial⟩ ?_)
  refine WE.next ?_
  refine WC.ret ?_
  refine WE.ret1 rfl rfl ?_
  have hb31 : Below w.heap.size w w30 := (bstep hb29 hbc)
  exact ⟨_, rfl, rfl, hb31⟩

end Go.Proofs.Ytlkiabgpnboicaa
