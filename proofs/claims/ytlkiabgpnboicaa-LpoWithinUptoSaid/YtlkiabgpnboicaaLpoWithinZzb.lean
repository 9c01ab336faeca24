/- LpoWithin: what is above stays above within a term; ground terms are comparable, for every input whose reading is of bulk at most 1048576, the law answers true, panics nowhere, and leaves what it was given as it was. -/
import Derived.Test.YtlkiabgpnboicaaLpoWithinZza
import Derived.Test.YtlkiabgpnboicaaMgi
import Derived.Test.YtlkiabgpnboicaaMgk
import Derived.Test.YtlkiabgpnboicaaMgj

/- The walk through the law LpoWithin. -/
namespace Go.Proofs.Ytlkiabgpnboicaa
open Go.RowKit Go

theorem size_set {x : T} : ∀ (l : List T) (i : Nat) (h : i < l.length), T.sizeL (l.set i x) + T.size l[i] = T.sizeL l + T.size x
  | [], _, h => by simp at h
  | a :: r, 0, _ => by simp only [List.set_cons_zero, List.getElem_cons_zero, T.sizeL]; omega
  | a :: r, i + 1, h => by
    have := size_set (x := x) r i (by simpa using h)
    simp only [List.set_cons_succ, List.getElem_cons_succ, T.sizeL]
    omega
theorem into_size (s : T) : ∀ (p : List Nat) (u : T), T.size (T.into u p s) ≤ T.size u + T.size s
  | [], u => by rw [T.into]; omega
  | i :: p, .mk f l => by
    rw [T.into]
    rcases Nat.lt_or_ge i l.length with h | h
    · have h1 := into_size s p (l[i])
      have h2 := size_set (x := T.into l[i] p s) l i h
      simp only [List.getD_eq_getElem?_getD, List.getElem?_eq_getElem h, Option.getD_some, T.size]
      omega
    · rw [List.set_eq_of_length_le (by omega)]; omega
theorem ring_index (n : Int) (L : Nat) (h : 0 < L) (hL : L ≤ 4294967296) : ∃ k : Nat, k < L ∧ (IntKind.i64.wrap (n.tmod (L : Int) + (L : Int))).tmod (L : Int) = (k : Int) := by
  have h0 : (0 : Int) < L := by omega
  have h1 := Int.tmod_lt_of_pos n h0
  have h2 := Int.lt_tmod_of_pos n h0
  rw [IntWalk.i64_in _ (by omega)]
  have h3 := Int.tmod_lt_of_pos (n.tmod L + L) h0
  have h4 := Int.tmod_nonneg (L : Int) (a := n.tmod L + L) (by omega)
  exact ⟨((n.tmod L + L).tmod L).toNat, by omega, by omega⟩
theorem rvars_of {t : T} {w : World} {v : Value} (hz : t.size ≤ 4294967290) (h : IsT w t v) : Calls Try.prog 18 #[v] w (Ret fun v' w' => (∃ a c, v' = .slice a (Old.T.joinI [] t).length c) ∧ Below w.heap.size w w') := by
  refine (Old.vars_any t w v hz h).mono ?_
  rintro e w' ⟨⟨a, c, rfl⟩, hb⟩
  exact ⟨_, rfl, ⟨a, c, rfl⟩, hb⟩
theorem rput_of {S : Nat → Prop} {s u : T} {p : List Nat} {w : World} {uv pv sv : Value} (zu : u.size ≤ 4294967290) (zs : s.size ≤ 4294967290) (zp : p.length ≤ 4294967290) (hw : Od.Within u p) (hu : IsT w u uv) (hp : Old.PIn S w p pv) (hs : IsT w s sv) :
    Calls Try.prog 19 #[uv, pv, sv] w (Ret fun v' w' => (∃ e d, v' = .tuple #[.agg #[.int .i64 (T.into u p s).f, .slice e (T.into u p s).args.length d], .bool true] ∧ IsT w' (T.into u p s) (.agg #[.int .i64 (T.into u p s).f, .slice e (T.into u p s).args.length d])) ∧ Below w.heap.size w w') := by
  refine (Old.rput_any w.heap.size s zs p u w uv pv sv zu zp (Old.IsT.inT hu) (hp.mono (fun b _ h => h)) (Old.IsT.inT hs) (Nat.le_refl _) hw).mono ?_
  rintro e w' ⟨v', rfl, h, hb⟩
  have ht := Old.InT.isT h
  obtain ⟨_, ea, da, rfl, _⟩ := ht.form
  exact ⟨_, rfl, ⟨ea, da, rfl, ht⟩, hb⟩
set_option maxRecDepth 100000 in
theorem within_law (sg : List Sy) (o : Od) (s t u : T) (n : Int) (w : World) (vs vo v1 v2 v3 : Value) (zs : s.size ≤ 1048576) (zt : t.size ≤ 1048576) (zu : u.size ≤ 1048576) (hst : IsSig w sg vs) (hot : IsOd w o vo) (hs : IsT w s v1) (ht : IsT w t v2) (hu : IsT w u v3) :
    Calls Try.prog 7 #[vs, vo, v1, v2, v3, .int .i64 n] w (Ret fun v' w' => v' = .bool true ∧ Below w.heap.size w w') := by
  have h0 := hst
  have h1 := hot
  have zs2 : s.size ≤ 4294967290 := by omega
  have zt2 : t.size ≤ 4294967290 := by omega
  have zu2 : u.size ≤ 4294967290 := by omega
  have zs' : s.size ≤ 4294967296 := by omega
  have zt' : t.size ≤ 4294967296 := by omega
  have zu' : u.size ≤ 4294967296 := by omega
  obtain ⟨p1, p2, k1, k2, rfl, _, _, _, _, hp, _, _⟩ := h1
  obtain ⟨a, c, rfl, _, _, _⟩ := h0
  obtain ⟨_, es, ds, rfl, _, _, _⟩ := hs.form
  obtain ⟨_, et, dt, rfl, _, _, _⟩ := ht.form
  obtain ⟨_, eu, du, rfl, _, _, _⟩ := hu.form
  refine Calls.walk (l := [.agg #[.slice a sg.length c], .agg #[.bool o.lpo, .slice p1 o.prec.length k1, .slice p2 o.weights.length k2, .int .i64 o.var], .agg #[.int .i64 s.f, .slice es s.args.length ds], .agg #[.int .i64 t.f, .slice et t.args.length dt], .agg #[.int .i64 u.f, .slice eu u.args.length du], .int .i64 n]) Try.func7 rfl (by kernel_rfl) ?_
  refine WC.sub (K' := [(0, .agg #[.slice a sg.length c]), (1, .agg #[.bool o.lpo, .slice p1 o.prec.length k1, .slice p2 o.weights.length k2, .int .i64 o.var]), (2, .agg #[.int .i64 s.f, .slice es s.args.length ds]), (3, .agg #[.int .i64 t.f, .slice et t.args.length dt]), (4, .agg #[.int .i64 u.f, .slice eu u.args.length du]), (5, .int .i64 n)]) ⟨rfl, rfl, rfl, rfl, rfl, rfl, trivial⟩ ?_
  refine WC.seq ?_
  refine WC.region ?_
  refine WL.step (post := NewBlk w 35 #[.slice a sg.length c]) rfl rfl rfl (fun za zC zh zk => box_35 rfl (zh.ev rfl) (zk _ _ (newBlk _ _ _))) ?_
  rintro _ w1 ⟨g2, rfl, hg3, hB4, hb5, hz6⟩
  have hl7 : w.heap.size ≤ g2 := by omega
  refine WL.step (post := NewBlk w1 24 #[.bool o.lpo, .slice p1 o.prec.length k1, .slice p2 o.weights.length k2, .int .i64 o.var]) rfl rfl rfl (fun za zC zh zk => box_24 rfl (zh.ev rfl) (zk _ _ (newBlk _ _ _))) ?_
  rintro _ w8 ⟨g9, rfl, hg10, hB11, hb12, hz13⟩
  have hl14 : g2 < g9 := by have z1 := hB4.lt; omega
  have hl15 : w.heap.size ≤ g9 := by have z2 := (hb5).size; omega
  refine WL.step (post := NewBlk w8 27 #[.int .i64 s.f, .slice es s.args.length ds]) rfl rfl rfl (fun za zC zh zk => box_27 rfl (zh.ev rfl) (zk _ _ (newBlk _ _ _))) ?_
  rintro _ w16 ⟨g17, rfl, hg18, hB19, hb20, hz21⟩
  have hl22 : g2 < g17 := by have z1 := hB4.lt; have z2 := (hb12).size; omega
  have hl23 : g9 < g17 := by have z1 := hB11.lt; omega
  have hb24 : Below w.heap.size w w8 := (bstep hb5 hb12)
  have hl25 : w.heap.size ≤ g17 := by have z2 := (hb24).size; omega
  refine WL.step (post := NewBlk w16 27 #[.int .i64 t.f, .slice et t.args.length dt]) rfl rfl rfl (fun za zC zh zk => box_27 rfl (zh.ev rfl) (zk _ _ (newBlk _ _ _))) ?_
  rintro _ w26 ⟨g27, rfl, hg28, hB29, hb30, hz31⟩
  have hb32 : Below w1.heap.size w1 w16 := (bstep hb12 hb20)
  have hl33 : g2 < g27 := by have z1 := hB4.lt; have z2 := (hb32).size; omega
  have hl34 : g9 < g27 := by have z1 := hB11.lt; have z2 := (hb20).size; omega
  have hl35 : g17 < g27 := by have z1 := hB19.lt; omega
  have hb36 : Below w.heap.size w w16 := (bstep hb5 hb32)
  have hl37 : w.heap.size ≤ g27 := by have z2 := (hb36).size; omega
  refine WL.step (post := NewBlk w26 27 #[.int .i64 u.f, .slice eu u.args.length du]) rfl rfl rfl (fun za zC zh zk => box_27 rfl (zh.ev rfl) (zk _ _ (newBlk _ _ _))) ?_
  rintro _ w38 ⟨g39, rfl, hg40, hB41, hb42, hz43⟩
  have hb44 : Below w1.heap.size w1 w26 := (bstep hb32 hb30)
  have hl45 : g2 < g39 := by have z1 := hB4.lt; have z2 := (hb44).size; omega
  have hb46 : Below w8.heap.size w8 w26 := (bstep hb20 hb30)
  have hl47 : g9 < g39 := by have z1 := hB11.lt; have z2 := (hb46).size; omega
  have hl48 : g17 < g39 := by have z1 := hB19.lt; have z2 := (hb30).size; omega
  have hl49 : g27 < g39 := by have z1 := hB29.lt; omega
  have hb50 : Below w.heap.size w w26 := (bstep hb5 hb44)
  have hl51 : w.heap.size ≤ g39 := by have z2 := (hb50).size; omega
  refine WL.val (.bool false) rfl rfl rfl (fun za zC zh zk => wp_assign rfl (zh.ev rfl) zk) ?_
  refine WL.nil (WE.sub (K' := [(0, .agg #[.slice a sg.length c]), (1, .agg #[.bool o.lpo, .slice p1 o.prec.length k1, .slice p2 o.weights.length k2, .int .i64 o.var]), (2, .agg #[.int .i64 s.f, .slice es s.args.length ds]), (3, .agg #[.int .i64 t.f, .slice et t.args.length dt]), (4, .agg #[.int .i64 u.f, .slice eu u.args.length du]), (5, .int .i64 n), (6, .pointer (some ⟨g2, 0, none⟩)), (7, .pointer (some ⟨g9, 0, none⟩)), (8, .pointer (some ⟨g17, 0, none⟩)), (9, .pointer (some ⟨g27, 0, none⟩)), (10, .pointer (some ⟨g39, 0, none⟩)), (12, .bool false)]) ⟨rfl, rfl, rfl, rfl, rfl, rfl, rfl, rfl, rfl, rfl, rfl, rfl, trivial⟩ ?_)
  refine WE.next ?_
  refine WC.seq ?_
  refine WC.seq ?_
  have hb53 : Below w16.heap.size w16 w38 := (bstep hb30 hb42)
  have hB52 := hB19.below hb53
  have hB54 := hB29.below hb42
  have hb55 : Below w.heap.size w w38 := (bstep hb36 hb53)
  have hb57 : Below w1.heap.size w1 w38 := (bstep hb32 hb53)
  have hB56 := hB4.below hb57
  have hb59 : Below w8.heap.size w8 w38 := (bstep hb20 hb53)
  have hB58 := hB11.below hb59
  refine WC.opt [(true, .val (.agg #[.int .i64 s.f, .slice es s.args.length ds])), (true, .val (.agg #[.int .i64 t.f, .slice et t.args.length dt])), (true, .val (.agg #[.int .i64 u.f, .slice eu u.args.length du])), (true, .mem (TsOf [s, t, u]) (fun v w w' hb h => TsOf.bel h hb)), (true, .val (.bool ((greatB [s, t, u])))), (true, .val (.bool ((greatB [s, t, u])))), ((true && !(greatB [s, t, u])), .val (.agg #[.slice a sg.length c])), ((true && !(greatB [s, t, u])), .val (.agg #[.bool o.lpo, .slice p1 o.prec.length k1, .slice p2 o.weights.length k2, .int .i64 o.var])), ((true && !(greatB [s, t, u])), .val (.agg #[.int .i64 s.f, .slice es s.args.length ds])), ((true && !(greatB [s, t, u])), .val (.agg #[.int .i64 t.f, .slice et t.args.length dt])), ((true && !(greatB [s, t, u])), .val (.agg #[.int .i64 u.f, .slice eu u.args.length du])), ((true && !(greatB [s, t, u])), .mem (TsOf [s, t, u]) (fun v w w' hb h => TsOf.bel h hb)), ((true && !(greatB [s, t, u])), .val (.bool ((fitsB sg o [s, t, u])))), ((true && !(greatB [s, t, u])), .val (.bool ((!(fitsB sg o [s, t, u]))))), (true, .val (.bool (((greatB [s, t, u]) || (!(fitsB sg o [s, t, u]))))))] [(0, .agg #[.slice a sg.length c]), (1, .agg #[.bool o.lpo, .slice p1 o.prec.length k1, .slice p2 o.weights.length k2, .int .i64 o.var]), (2, .agg #[.int .i64 s.f, .slice es s.args.length ds]), (3, .agg #[.int .i64 t.f, .slice et t.args.length dt]), (4, .agg #[.int .i64 u.f, .slice eu u.args.length du]), (5, .int .i64 n), (6, .pointer (some ⟨g2, 0, none⟩)), (7, .pointer (some ⟨g9, 0, none⟩)), (8, .pointer (some ⟨g17, 0, none⟩)), (9, .pointer (some ⟨g27, 0, none⟩)), (10, .pointer (some ⟨g39, 0, none⟩)), (12, .bool false)] ⟨rfl, rfl, rfl, rfl, rfl, rfl, rfl, rfl, rfl, rfl, rfl, rfl, trivial⟩ (by kernel_rfl) (by kernel_rfl) (by kernel_rfl) ?_ ?_
  · refine ⟨⟨true, .none rfl, fun h w => optUndef h, fun zβ za zw zc => ?_⟩, ?_⟩
    · exact ld_27 rfl (zc.kn.ev rfl) (bkeeps zc.below _ _ ((hB52.cell 0).trans rfl)) (bkeeps zc.below _ _ ((hB52.cell 1).trans rfl)) ⟨_, rfl, Below.refl _ _, optDef zβ rfl⟩
    refine ⟨⟨true, .none rfl, fun h w => optUndef h, fun zβ za zw zc => ?_⟩, ?_⟩
    · exact ld_27 rfl (zc.kn.ev rfl) (bkeeps zc.below _ _ ((hB54.cell 0).trans rfl)) (bkeeps zc.below _ _ ((hB54.cell 1).trans rfl)) ⟨_, rfl, Below.refl _ _, optDef zβ rfl⟩
    refine ⟨⟨true, .none rfl, fun h w => optUndef h, fun zβ za zw zc => ?_⟩, ?_⟩
    · exact ld_27 rfl (zc.kn.ev rfl) (bkeeps zc.below _ _ ((hB41.cell 0).trans rfl)) (bkeeps zc.below _ _ ((hB41.cell 1).trans rfl)) ⟨_, rfl, Below.refl _ _, optDef zβ rfl⟩
    refine ⟨⟨true, .none rfl, fun h w => optUndef h, fun zβ za zw zc => ?_⟩, ?_⟩
    · exact row_25_3 rfl ((show za.eval (.tmp 19) = za.tmps.getD 19 undef from rfl).trans (optVal (zc.dep 0 19 (by kernel_rfl)) rfl rfl)) ((show za.eval (.tmp 20) = za.tmps.getD 20 undef from rfl).trans (optVal (zc.dep 1 20 (by kernel_rfl)) rfl rfl)) ((show za.eval (.tmp 21) = za.tmps.getD 21 undef from rfl).trans (optVal (zc.dep 2 21 (by kernel_rfl)) rfl rfl)) ⟨_, rfl, balloc _ _, optDef zβ (ts3 (IsT.below (bstep hb55 zc.below) hs) (IsT.below (bstep hb55 zc.below) ht) (IsT.below (bstep hb55 zc.below) hu))⟩
    refine ⟨⟨true, .none rfl, fun h w => optUndef h, fun zβ za zw zc => ?_⟩, ?_⟩
    · exact wp_call (by kernel_rfl) rfl (hv1 (show za.eval (.tmp 22) = za.tmps.getD 22 undef from rfl)) (great_ts (optMem (zc.dep 3 22 (by kernel_rfl)) rfl rfl)) (fun v w' h => ⟨v, rfl, h.2, optDef zβ h.1⟩)
    refine ⟨⟨true, .none rfl, fun h w => optUndef h, fun zβ za zw zc => ?_⟩, ?_⟩
    · exact wp_move rfl ((show za.eval (.tmp 23) = za.tmps.getD 23 undef from rfl).trans (optVal (zc.dep 4 23 (by kernel_rfl)) rfl rfl)) ⟨_, rfl, Below.refl _ _, optDef zβ rfl⟩
    refine ⟨⟨(true && !(greatB [s, t, u])), .no (c := (greatB [s, t, u])) (d := true) rfl (fun v w h => h), fun h w => optUndef h, fun zβ za zw zc => ?_⟩, ?_⟩
    · exact ld_35 rfl (zc.kn.ev rfl) (bkeeps zc.below _ _ ((hB56.cell 0).trans rfl)) ⟨_, rfl, Below.refl _ _, optDef zβ rfl⟩
    refine ⟨⟨(true && !(greatB [s, t, u])), .no (c := (greatB [s, t, u])) (d := true) rfl (fun v w h => h), fun h w => optUndef h, fun zβ za zw zc => ?_⟩, ?_⟩
    · exact ld_24 rfl (zc.kn.ev rfl) (bkeeps zc.below _ _ ((hB58.cell 0).trans rfl)) (bkeeps zc.below _ _ ((hB58.cell 1).trans rfl)) (bkeeps zc.below _ _ ((hB58.cell 2).trans rfl)) (bkeeps zc.below _ _ ((hB58.cell 3).trans rfl)) ⟨_, rfl, Below.refl _ _, optDef zβ rfl⟩
    refine ⟨⟨(true && !(greatB [s, t, u])), .no (c := (greatB [s, t, u])) (d := true) rfl (fun v w h => h), fun h w => optUndef h, fun zβ za zw zc => ?_⟩, ?_⟩
    · exact ld_27 rfl (zc.kn.ev rfl) (bkeeps zc.below _ _ ((hB52.cell 0).trans rfl)) (bkeeps zc.below _ _ ((hB52.cell 1).trans rfl)) ⟨_, rfl, Below.refl _ _, optDef zβ rfl⟩
    refine ⟨⟨(true && !(greatB [s, t, u])), .no (c := (greatB [s, t, u])) (d := true) rfl (fun v w h => h), fun h w => optUndef h, fun zβ za zw zc => ?_⟩, ?_⟩
    · exact ld_27 rfl (zc.kn.ev rfl) (bkeeps zc.below _ _ ((hB54.cell 0).trans rfl)) (bkeeps zc.below _ _ ((hB54.cell 1).trans rfl)) ⟨_, rfl, Below.refl _ _, optDef zβ rfl⟩
    refine ⟨⟨(true && !(greatB [s, t, u])), .no (c := (greatB [s, t, u])) (d := true) rfl (fun v w h => h), fun h w => optUndef h, fun zβ za zw zc => ?_⟩, ?_⟩
    · exact ld_27 rfl (zc.kn.ev rfl) (bkeeps zc.below _ _ ((hB41.cell 0).trans rfl)) (bkeeps zc.below _ _ ((hB41.cell 1).trans rfl)) ⟨_, rfl, Below.refl _ _, optDef zβ rfl⟩
    refine ⟨⟨(true && !(greatB [s, t, u])), .no (c := (greatB [s, t, u])) (d := true) rfl (fun v w h => h), fun h w => optUndef h, fun zβ za zw zc => ?_⟩, ?_⟩
    · exact row_25_3 rfl ((show za.eval (.tmp 27) = za.tmps.getD 27 undef from rfl).trans (optVal (zc.dep 8 27 (by kernel_rfl)) rfl zβ)) ((show za.eval (.tmp 28) = za.tmps.getD 28 undef from rfl).trans (optVal (zc.dep 9 28 (by kernel_rfl)) rfl zβ)) ((show za.eval (.tmp 29) = za.tmps.getD 29 undef from rfl).trans (optVal (zc.dep 10 29 (by kernel_rfl)) rfl zβ)) ⟨_, rfl, balloc _ _, optDef zβ (ts3 (IsT.below (bstep hb55 zc.below) hs) (IsT.below (bstep hb55 zc.below) ht) (IsT.below (bstep hb55 zc.below) hu))⟩
    refine ⟨⟨(true && !(greatB [s, t, u])), .no (c := (greatB [s, t, u])) (d := true) rfl (fun v w h => h), fun h w => optUndef h, fun zβ za zw zc => ?_⟩, ?_⟩
    · exact wp_call (by kernel_rfl) rfl (hv3 ((show za.eval (.tmp 25) = za.tmps.getD 25 undef from rfl).trans (optVal (zc.dep 6 25 (by kernel_rfl)) rfl zβ)) ((show za.eval (.tmp 26) = za.tmps.getD 26 undef from rfl).trans (optVal (zc.dep 7 26 (by kernel_rfl)) rfl zβ)) (show za.eval (.tmp 30) = za.tmps.getD 30 undef from rfl)) (fits_ts (by intro x hx; simp only [List.mem_cons, List.not_mem_nil, or_false] at hx; rcases hx with rfl | rfl | rfl; exact zs'; exact zt'; exact zu') (IsSig.below (bstep hb55 zc.below) hst) (hot.below (bstep hb55 zc.below)) (optMem (zc.dep 11 30 (by kernel_rfl)) rfl zβ)) (fun v w' h => ⟨v, rfl, h.2, optDef zβ h.1⟩)
    refine ⟨⟨(true && !(greatB [s, t, u])), .no (c := (greatB [s, t, u])) (d := true) rfl (fun v w h => h), fun h w => optUndef h, fun zβ za zw zc => ?_⟩, ?_⟩
    · exact wp_not rfl ((show za.eval (.tmp 31) = za.tmps.getD 31 undef from rfl).trans (optVal (zc.dep 12 31 (by kernel_rfl)) rfl zβ)) ⟨_, rfl, Below.refl _ _, optDef zβ rfl⟩
    refine ⟨⟨true, .none rfl, fun h w => optUndef h, fun zβ za zw zc => ?_⟩, ?_⟩
    · exact wp_or rfl ((show za.eval (.tmp 24) = za.tmps.getD 24 undef from rfl).trans (optVal (zc.dep 5 24 (by kernel_rfl)) rfl rfl)) (fun hp => ((show za.eval (.tmp 32) = za.tmps.getD 32 undef from rfl).trans (optVal (zc.dep 13 32 (by kernel_rfl)) rfl (bMkN zβ hp)))) ⟨_, rfl, Below.refl _ _, optDef zβ rfl⟩
    exact trivial
  · intro za w60 zh hb61 zu
    have zh := zh.cons (d := 33) (v := .bool (((greatB [s, t, u]) || (!(fitsB sg o [s, t, u]))))) (optVal (zu 14 33 (by kernel_rfl)) rfl rfl)
    clear zu
    refine (show WE _ [(0, .agg #[.slice a sg.length c]), (1, .agg #[.bool o.lpo, .slice p1 o.prec.length k1, .slice p2 o.weights.length k2, .int .i64 o.var]), (2, .agg #[.int .i64 s.f, .slice es s.args.length ds]), (3, .agg #[.int .i64 t.f, .slice et t.args.length dt]), (4, .agg #[.int .i64 u.f, .slice eu u.args.length du]), (5, .int .i64 n), (6, .pointer (some ⟨g2, 0, none⟩)), (7, .pointer (some ⟨g9, 0, none⟩)), (8, .pointer (some ⟨g17, 0, none⟩)), (9, .pointer (some ⟨g27, 0, none⟩)), (10, .pointer (some ⟨g39, 0, none⟩)), (12, .bool false), (33, .bool (((greatB [s, t, u]) || (!(fitsB sg o [s, t, u])))))] w60 _ .normal from ?_) za (zh.sub ⟨rfl, rfl, rfl, rfl, rfl, rfl, rfl, rfl, rfl, rfl, rfl, rfl, rfl, trivial⟩)
    refine WE.next ?_
    refine WC.cond rfl (fun h62 => ?_) (fun h62 => ?_)
    · have h62 : ((greatB [s, t, u]) = true) ∨ (¬ ((fitsB sg o [s, t, u]) = true)) := by simpa using h62
      refine WC.seq ?_
      refine WC.region ?_
      refine WL.call rfl rfl rfl (fun za zh zC => wp_call (by kernel_rfl) rfl (hv0)) (wakes_any _) ?_
      rintro _ w63 ⟨rfl, hbw⟩
      refine WL.val (.bool true) rfl rfl rfl (fun za zC zh zk => wp_assign rfl (zh.ev rfl) zk) ?_
      refine WL.nil (WE.sub (K' := [(0, .agg #[.slice a sg.length c]), (1, .agg #[.bool o.lpo, .slice p1 o.prec.length k1, .slice p2 o.weights.length k2, .int .i64 o.var]), (2, .agg #[.int .i64 s.f, .slice es s.args.length ds]), (3, .agg #[.int .i64 t.f, .slice et t.args.length dt]), (4, .agg #[.int .i64 u.f, .slice eu u.args.length du]), (5, .int .i64 n), (6, .pointer (some ⟨g2, 0, none⟩)), (7, .pointer (some ⟨g9, 0, none⟩)), (8, .pointer (some ⟨g17, 0, none⟩)), (9, .pointer (some ⟨g27, 0, none⟩)), (10, .pointer (some ⟨g39, 0, none⟩)), (12, .bool true), (33, .bool (((greatB [s, t, u]) || (!(fitsB sg o [s, t, u])))))]) ⟨rfl, rfl, rfl, rfl, rfl, rfl, rfl, rfl, rfl, rfl, rfl, rfl, rfl, trivial⟩ ?_)
      refine WE.next ?_
      refine WC.ret ?_
      refine WE.thenRet ?_
      refine WE.ret1 rfl rfl ?_
      have hb64 : Below w.heap.size w w63 := (bstep (bstep hb55 hb61) hbw)
      exact ⟨_, rfl, congrArg Value.bool (rfl), hb64⟩
    · have h62 : ¬ (((greatB [s, t, u]) = true) ∨ (¬ ((fitsB sg o [s, t, u]) = true))) := by simpa using h62
      have hF := fitsB_of (sg := sg) (o := o) (l := [s, t, u]) (by have z := h62; simp at z; exact z.2)
      refine WC.skip ?_
      refine WE.next ?_
      refine WC.seq ?_
      refine WC.seq ?_
      have hB65 := hB52.below hb61
      have hb66 : Below w.heap.size w w60 := (bstep hb55 hb61)
      have hB67 := hB54.below hb61
      have hB68 := hB58.below hb61
      refine WC.opt [(true, .val (.agg #[.int .i64 s.f, .slice es s.args.length ds])), (true, .mem (fun v _ => ∃ a c, v = .slice a (Old.T.joinI [] s).length c) (fun v w w' hb h => h)), (true, .val (.int .i64 ((((Old.T.joinI [] s).length : Nat) : Int)))), (true, .val (.agg #[.int .i64 t.f, .slice et t.args.length dt])), (true, .mem (fun v _ => ∃ a c, v = .slice a (Old.T.joinI [] t).length c) (fun v w w' hb h => h)), (true, .val (.int .i64 ((((Old.T.joinI [] t).length : Nat) : Int)))), (true, .val (.int .i64 ((IntKind.i64.wrap ((((Old.T.joinI [] s).length : Nat) : Int) + (((Old.T.joinI [] t).length : Nat) : Int)))))), (true, .val (.bool ((((IntKind.i64.wrap ((((Old.T.joinI [] s).length : Nat) : Int) + (((Old.T.joinI [] t).length : Nat) : Int))) : Int) == (0 : Int))))), (true, .val (.bool ((((IntKind.i64.wrap ((((Old.T.joinI [] s).length : Nat) : Int) + (((Old.T.joinI [] t).length : Nat) : Int))) : Int) == (0 : Int))))), ((true && (((IntKind.i64.wrap ((((Old.T.joinI [] s).length : Nat) : Int) + (((Old.T.joinI [] t).length : Nat) : Int))) : Int) == (0 : Int))), .val (.agg #[.bool o.lpo, .slice p1 o.prec.length k1, .slice p2 o.weights.length k2, .int .i64 o.var])), ((true && (((IntKind.i64.wrap ((((Old.T.joinI [] s).length : Nat) : Int) + (((Old.T.joinI [] t).length : Nat) : Int))) : Int) == (0 : Int))), .val (.agg #[.int .i64 s.f, .slice es s.args.length ds])), ((true && (((IntKind.i64.wrap ((((Old.T.joinI [] s).length : Nat) : Int) + (((Old.T.joinI [] t).length : Nat) : Int))) : Int) == (0 : Int))), .val (.agg #[.int .i64 t.f, .slice et t.args.length dt])), ((true && (((IntKind.i64.wrap ((((Old.T.joinI [] s).length : Nat) : Int) + (((Old.T.joinI [] t).length : Nat) : Int))) : Int) == (0 : Int))), .val (.int .i64 ((o.lcmp s t)))), ((true && (((IntKind.i64.wrap ((((Old.T.joinI [] s).length : Nat) : Int) + (((Old.T.joinI [] t).length : Nat) : Int))) : Int) == (0 : Int))), .val (.bool ((((o.lcmp s t) : Int) == (0 : Int))))), (true, .val (.bool (((((IntKind.i64.wrap ((((Old.T.joinI [] s).length : Nat) : Int) + (((Old.T.joinI [] t).length : Nat) : Int))) : Int) == (0 : Int)) && (((o.lcmp s t) : Int) == (0 : Int))))))] [(0, .agg #[.slice a sg.length c]), (1, .agg #[.bool o.lpo, .slice p1 o.prec.length k1, .slice p2 o.weights.length k2, .int .i64 o.var]), (2, .agg #[.int .i64 s.f, .slice es s.args.length ds]), (3, .agg #[.int .i64 t.f, .slice et t.args.length dt]), (4, .agg #[.int .i64 u.f, .slice eu u.args.length du]), (5, .int .i64 n), (6, .pointer (some ⟨g2, 0, none⟩)), (7, .pointer (some ⟨g9, 0, none⟩)), (8, .pointer (some ⟨g17, 0, none⟩)), (9, .pointer (some ⟨g27, 0, none⟩)), (10, .pointer (some ⟨g39, 0, none⟩)), (12, .bool false), (33, .bool (((greatB [s, t, u]) || (!(fitsB sg o [s, t, u])))))] ⟨rfl, rfl, rfl, rfl, rfl, rfl, rfl, rfl, rfl, rfl, rfl, rfl, rfl, trivial⟩ (by kernel_rfl) (by kernel_rfl) (by kernel_rfl) ?_ ?_
      · refine ⟨⟨true, .none rfl, fun h w => optUndef h, fun zβ za zw zc => ?_⟩, ?_⟩
        · exact ld_27 rfl (zc.kn.ev rfl) (bkeeps zc.below _ _ ((hB65.cell 0).trans rfl)) (bkeeps zc.below _ _ ((hB65.cell 1).trans rfl)) ⟨_, rfl, Below.refl _ _, optDef zβ rfl⟩
        refine ⟨⟨true, .none rfl, fun h w => optUndef h, fun zβ za zw zc => ?_⟩, ?_⟩
        · exact wp_call (by kernel_rfl) rfl (hv1 ((show za.eval (.tmp 35) = za.tmps.getD 35 undef from rfl).trans (optVal (zc.dep 0 35 (by kernel_rfl)) rfl rfl))) (rvars_of zs2 (IsT.below (bstep hb66 zc.below) hs)) (fun v w' h => ⟨v, rfl, h.2, optDef zβ h.1⟩)
        refine ⟨⟨true, .none rfl, fun h w => optUndef h, fun zβ za zw zc => ?_⟩, ?_⟩
        · obtain ⟨sa, sc, se⟩ := (optMem (zc.dep 1 36 (by kernel_rfl)) rfl rfl)
          exact len_22 rfl ((show za.eval (.tmp 36) = za.tmps.getD 36 undef from rfl).trans se) ⟨_, rfl, Below.refl _ _, optDef zβ rfl⟩
        refine ⟨⟨true, .none rfl, fun h w => optUndef h, fun zβ za zw zc => ?_⟩, ?_⟩
        · exact ld_27 rfl (zc.kn.ev rfl) (bkeeps zc.below _ _ ((hB67.cell 0).trans rfl)) (bkeeps zc.below _ _ ((hB67.cell 1).trans rfl)) ⟨_, rfl, Below.refl _ _, optDef zβ rfl⟩
        refine ⟨⟨true, .none rfl, fun h w => optUndef h, fun zβ za zw zc => ?_⟩, ?_⟩
        · exact wp_call (by kernel_rfl) rfl (hv1 ((show za.eval (.tmp 38) = za.tmps.getD 38 undef from rfl).trans (optVal (zc.dep 3 38 (by kernel_rfl)) rfl rfl))) (rvars_of zt2 (IsT.below (bstep hb66 zc.below) ht)) (fun v w' h => ⟨v, rfl, h.2, optDef zβ h.1⟩)
        refine ⟨⟨true, .none rfl, fun h w => optUndef h, fun zβ za zw zc => ?_⟩, ?_⟩
        · obtain ⟨sa, sc, se⟩ := (optMem (zc.dep 4 39 (by kernel_rfl)) rfl rfl)
          exact len_22 rfl ((show za.eval (.tmp 39) = za.tmps.getD 39 undef from rfl).trans se) ⟨_, rfl, Below.refl _ _, optDef zβ rfl⟩
        refine ⟨⟨true, .none rfl, fun h w => optUndef h, fun zβ za zw zc => ?_⟩, ?_⟩
        · exact add_3 rfl ((show za.eval (.tmp 37) = za.tmps.getD 37 undef from rfl).trans (optVal (zc.dep 2 37 (by kernel_rfl)) rfl rfl)) ((show za.eval (.tmp 40) = za.tmps.getD 40 undef from rfl).trans (optVal (zc.dep 5 40 (by kernel_rfl)) rfl rfl)) ⟨_, rfl, Below.refl _ _, optDef zβ rfl⟩
        refine ⟨⟨true, .none rfl, fun h w => optUndef h, fun zβ za zw zc => ?_⟩, ?_⟩
        · exact eql_3 rfl ((show za.eval (.tmp 41) = za.tmps.getD 41 undef from rfl).trans (optVal (zc.dep 6 41 (by kernel_rfl)) rfl rfl)) (zc.kn.ev rfl) ⟨_, rfl, Below.refl _ _, optDef zβ rfl⟩
        refine ⟨⟨true, .none rfl, fun h w => optUndef h, fun zβ za zw zc => ?_⟩, ?_⟩
        · exact wp_move rfl ((show za.eval (.tmp 42) = za.tmps.getD 42 undef from rfl).trans (optVal (zc.dep 7 42 (by kernel_rfl)) rfl rfl)) ⟨_, rfl, Below.refl _ _, optDef zβ rfl⟩
        refine ⟨⟨(true && (((IntKind.i64.wrap ((((Old.T.joinI [] s).length : Nat) : Int) + (((Old.T.joinI [] t).length : Nat) : Int))) : Int) == (0 : Int))), .yes (c := (((IntKind.i64.wrap ((((Old.T.joinI [] s).length : Nat) : Int) + (((Old.T.joinI [] t).length : Nat) : Int))) : Int) == (0 : Int))) (d := true) rfl (fun v w h => h), fun h w => optUndef h, fun zβ za zw zc => ?_⟩, ?_⟩
        · exact ld_24 rfl (zc.kn.ev rfl) (bkeeps zc.below _ _ ((hB68.cell 0).trans rfl)) (bkeeps zc.below _ _ ((hB68.cell 1).trans rfl)) (bkeeps zc.below _ _ ((hB68.cell 2).trans rfl)) (bkeeps zc.below _ _ ((hB68.cell 3).trans rfl)) ⟨_, rfl, Below.refl _ _, optDef zβ rfl⟩
        refine ⟨⟨(true && (((IntKind.i64.wrap ((((Old.T.joinI [] s).length : Nat) : Int) + (((Old.T.joinI [] t).length : Nat) : Int))) : Int) == (0 : Int))), .yes (c := (((IntKind.i64.wrap ((((Old.T.joinI [] s).length : Nat) : Int) + (((Old.T.joinI [] t).length : Nat) : Int))) : Int) == (0 : Int))) (d := true) rfl (fun v w h => h), fun h w => optUndef h, fun zβ za zw zc => ?_⟩, ?_⟩
        · exact ld_27 rfl (zc.kn.ev rfl) (bkeeps zc.below _ _ ((hB65.cell 0).trans rfl)) (bkeeps zc.below _ _ ((hB65.cell 1).trans rfl)) ⟨_, rfl, Below.refl _ _, optDef zβ rfl⟩
        refine ⟨⟨(true && (((IntKind.i64.wrap ((((Old.T.joinI [] s).length : Nat) : Int) + (((Old.T.joinI [] t).length : Nat) : Int))) : Int) == (0 : Int))), .yes (c := (((IntKind.i64.wrap ((((Old.T.joinI [] s).length : Nat) : Int) + (((Old.T.joinI [] t).length : Nat) : Int))) : Int) == (0 : Int))) (d := true) rfl (fun v w h => h), fun h w => optUndef h, fun zβ za zw zc => ?_⟩, ?_⟩
        · exact ld_27 rfl (zc.kn.ev rfl) (bkeeps zc.below _ _ ((hB67.cell 0).trans rfl)) (bkeeps zc.below _ _ ((hB67.cell 1).trans rfl)) ⟨_, rfl, Below.refl _ _, optDef zβ rfl⟩
        refine ⟨⟨(true && (((IntKind.i64.wrap ((((Old.T.joinI [] s).length : Nat) : Int) + (((Old.T.joinI [] t).length : Nat) : Int))) : Int) == (0 : Int))), .yes (c := (((IntKind.i64.wrap ((((Old.T.joinI [] s).length : Nat) : Int) + (((Old.T.joinI [] t).length : Nat) : Int))) : Int) == (0 : Int))) (d := true) rfl (fun v w h => h), fun h w => optUndef h, fun zβ za zw zc => ?_⟩, ?_⟩
        · exact wp_call (by kernel_rfl) rfl (hv3 ((show za.eval (.tmp 44) = za.tmps.getD 44 undef from rfl).trans (optVal (zc.dep 9 44 (by kernel_rfl)) rfl zβ)) ((show za.eval (.tmp 45) = za.tmps.getD 45 undef from rfl).trans (optVal (zc.dep 10 45 (by kernel_rfl)) rfl zβ)) ((show za.eval (.tmp 46) = za.tmps.getD 46 undef from rfl).trans (optVal (zc.dep 11 46 (by kernel_rfl)) rfl zβ))) (lcmp_any o s t _ _ _ _ zs' zt' (hot.below (bstep hb66 zc.below)) (IsT.below (bstep hb66 zc.below) hs) (IsT.below (bstep hb66 zc.below) ht)) (fun v w' h => ⟨v, rfl, h.2, optDef zβ h.1⟩)
        refine ⟨⟨(true && (((IntKind.i64.wrap ((((Old.T.joinI [] s).length : Nat) : Int) + (((Old.T.joinI [] t).length : Nat) : Int))) : Int) == (0 : Int))), .yes (c := (((IntKind.i64.wrap ((((Old.T.joinI [] s).length : Nat) : Int) + (((Old.T.joinI [] t).length : Nat) : Int))) : Int) == (0 : Int))) (d := true) rfl (fun v w h => h), fun h w => optUndef h, fun zβ za zw zc => ?_⟩, ?_⟩
        · exact eql_30 rfl ((show za.eval (.tmp 47) = za.tmps.getD 47 undef from rfl).trans (optVal (zc.dep 12 47 (by kernel_rfl)) rfl zβ)) (zc.kn.ev rfl) ⟨_, rfl, Below.refl _ _, optDef zβ rfl⟩
        refine ⟨⟨true, .none rfl, fun h w => optUndef h, fun zβ za zw zc => ?_⟩, ?_⟩
        · exact wp_and rfl ((show za.eval (.tmp 43) = za.tmps.getD 43 undef from rfl).trans (optVal (zc.dep 8 43 (by kernel_rfl)) rfl rfl)) (fun hp => ((show za.eval (.tmp 48) = za.tmps.getD 48 undef from rfl).trans (optVal (zc.dep 13 48 (by kernel_rfl)) rfl (bMk zβ hp)))) ⟨_, rfl, Below.refl _ _, optDef zβ rfl⟩
        exact trivial
      · intro za w69 zh hb70 zu
        have zh := zh.cons (d := 49) (v := .bool (((((IntKind.i64.wrap ((((Old.T.joinI [] s).length : Nat) : Int) + (((Old.T.joinI [] t).length : Nat) : Int))) : Int) == (0 : Int)) && (((o.lcmp s t) : Int) == (0 : Int))))) (optVal (zu 14 49 (by kernel_rfl)) rfl rfl)
        clear zu
        refine (show WE _ [(0, .agg #[.slice a sg.length c]), (1, .agg #[.bool o.lpo, .slice p1 o.prec.length k1, .slice p2 o.weights.length k2, .int .i64 o.var]), (2, .agg #[.int .i64 s.f, .slice es s.args.length ds]), (3, .agg #[.int .i64 t.f, .slice et t.args.length dt]), (4, .agg #[.int .i64 u.f, .slice eu u.args.length du]), (5, .int .i64 n), (6, .pointer (some ⟨g2, 0, none⟩)), (7, .pointer (some ⟨g9, 0, none⟩)), (8, .pointer (some ⟨g17, 0, none⟩)), (9, .pointer (some ⟨g27, 0, none⟩)), (10, .pointer (some ⟨g39, 0, none⟩)), (12, .bool false), (33, .bool (((greatB [s, t, u]) || (!(fitsB sg o [s, t, u]))))), (49, .bool (((((IntKind.i64.wrap ((((Old.T.joinI [] s).length : Nat) : Int) + (((Old.T.joinI [] t).length : Nat) : Int))) : Int) == (0 : Int)) && (((o.lcmp s t) : Int) == (0 : Int)))))] w69 _ .normal from ?_) za (zh.sub ⟨rfl, rfl, rfl, rfl, rfl, rfl, rfl, rfl, rfl, rfl, rfl, rfl, rfl, rfl, trivial⟩)
        refine WE.next ?_
        refine WC.cond rfl (fun h71 => ?_) (fun h71 => ?_)
        · have h71 : (((IntKind.i64.wrap ((((Old.T.joinI [] s).length : Nat) : Int) + (((Old.T.joinI [] t).length : Nat) : Int))) : Int) = (0 : Int)) ∧ (((o.lcmp s t) : Int) = (0 : Int)) := by simpa using h71
          exact absurd h71 (by
            have b1 := (Old.T.joinI_le s []).1
            have b2 := (Old.T.joinI_le t []).1
            simp at b1 b2
            rintro ⟨z1, z2⟩
            rw [IntWalk.i64_in _ (by omega)] at z1
            exact Od.lcmp_total hF.2.1 (hF.2.2 s (by simp)) (hF.2.2 t (by simp)) (Old.T.joinI_vars s [] (by omega)) (Old.T.joinI_vars t [] (by omega)) z2)
        · have h71 : ¬ ((((IntKind.i64.wrap ((((Old.T.joinI [] s).length : Nat) : Int) + (((Old.T.joinI [] t).length : Nat) : Int))) : Int) = (0 : Int)) ∧ (((o.lcmp s t) : Int) = (0 : Int))) := by simpa using h71
          refine WC.skip ?_
          refine WE.next ?_
          refine WC.seq ?_
          refine WC.region ?_
          have hb73 : Below w38.heap.size w38 w69 := (bstep hb61 hb70)
          have hB72 := hB41.below hb73
          refine WL.val (.agg #[.int .i64 u.f, .slice eu u.args.length du]) rfl rfl rfl (fun za zC zh zk => ld_27 rfl (zh.ev rfl) ((hB72.cell 0).trans rfl) ((hB72.cell 1).trans rfl) zk) ?_
          have hb74 : Below w.heap.size w w69 := (bstep hb55 hb73)
          refine WL.call rfl rfl rfl (fun za zh zC => wp_call (by kernel_rfl) rfl (hv1 (zh.ev rfl))) (places_of zu2 (IsT.below hb74 hu)) ?_
          rintro _ w75 ⟨⟨qa, qc, rfl, hq1, hq2, hqI⟩, hbp⟩
          have hql : 0 < u.places.length ∧ u.places.length ≤ 4294967290 := by rw [T.places_size]; have := T.size_eq u; omega
          have hqm := hq2
          unfold maxLen at hqm
          obtain ⟨k, hk, hring⟩ := ring_index n u.places.length hql.1 (by omega)
          have hpw : Od.Within u (pget u.places k).1 := by rw [pget_lt hk]; exact T.places_within u _ (List.getElem_mem hk)
          have hpl : (pget u.places k).1.length ≤ 4294967290 := by rw [pget_lt hk]; exact Nat.le_trans (T.places_len u _ (List.getElem_mem hk)) zu2
          refine WL.val (.slice qa u.places.length qc) rfl rfl rfl (fun za zC zh zk => wp_assign rfl (zh.ev rfl) zk) ?_
          refine WL.nil (WE.sub (K' := [(0, .agg #[.slice a sg.length c]), (1, .agg #[.bool o.lpo, .slice p1 o.prec.length k1, .slice p2 o.weights.length k2, .int .i64 o.var]), (2, .agg #[.int .i64 s.f, .slice es s.args.length ds]), (3, .agg #[.int .i64 t.f, .slice et t.args.length dt]), (4, .agg #[.int .i64 u.f, .slice eu u.args.length du]), (5, .int .i64 n), (6, .pointer (some ⟨g2, 0, none⟩)), (7, .pointer (some ⟨g9, 0, none⟩)), (8, .pointer (some ⟨g17, 0, none⟩)), (9, .pointer (some ⟨g27, 0, none⟩)), (10, .pointer (some ⟨g39, 0, none⟩)), (12, .bool false), (13, .slice qa u.places.length qc), (33, .bool (((greatB [s, t, u]) || (!(fitsB sg o [s, t, u]))))), (49, .bool (((((IntKind.i64.wrap ((((Old.T.joinI [] s).length : Nat) : Int) + (((Old.T.joinI [] t).length : Nat) : Int))) : Int) == (0 : Int)) && (((o.lcmp s t) : Int) == (0 : Int)))))]) ⟨rfl, rfl, rfl, rfl, rfl, rfl, rfl, rfl, rfl, rfl, rfl, rfl, rfl, rfl, rfl, trivial⟩ ?_)
          refine WE.next ?_
          refine WC.seq ?_
          refine WC.region ?_
          refine WL.val (.slice qa u.places.length qc) rfl rfl rfl (fun za zC zh zk => wp_move rfl (zh.ev rfl) zk) ?_
          refine WL.val (.int .i64 n) rfl rfl rfl (fun za zC zh zk => wp_move rfl (zh.ev rfl) zk) ?_
          refine WL.val (.slice qa u.places.length qc) rfl rfl rfl (fun za zC zh zk => wp_move rfl (zh.ev rfl) zk) ?_
          refine WL.val (.int .i64 (((u.places.length : Nat) : Int))) rfl rfl rfl (fun za zC zh zk => len_40 rfl (zh.ev rfl) zk) ?_
          refine WL.val (.int .i64 ((n.tmod (((u.places.length : Nat) : Int))))) rfl rfl rfl (fun za zC zh zk => rem_3 rfl (zh.ev rfl) (zh.ev rfl) (by omega) zk) ?_
          refine WL.val (.slice qa u.places.length qc) rfl rfl rfl (fun za zC zh zk => wp_move rfl (zh.ev rfl) zk) ?_
          refine WL.val (.int .i64 (((u.places.length : Nat) : Int))) rfl rfl rfl (fun za zC zh zk => len_40 rfl (zh.ev rfl) zk) ?_
          refine WL.val (.int .i64 ((IntKind.i64.wrap ((n.tmod (((u.places.length : Nat) : Int))) + ((u.places.length : Nat) : Int))))) rfl rfl rfl (fun za zC zh zk => add_3 rfl (zh.ev rfl) (zh.ev rfl) zk) ?_
          refine WL.val (.slice qa u.places.length qc) rfl rfl rfl (fun za zC zh zk => wp_move rfl (zh.ev rfl) zk) ?_
          refine WL.val (.int .i64 (((u.places.length : Nat) : Int))) rfl rfl rfl (fun za zC zh zk => len_40 rfl (zh.ev rfl) zk) ?_
          refine WL.val (.int .i64 ((((IntKind.i64.wrap ((n.tmod (((u.places.length : Nat) : Int))) + ((u.places.length : Nat) : Int)))).tmod (((u.places.length : Nat) : Int))))) rfl rfl rfl (fun za zC zh zk => rem_3 rfl (zh.ev rfl) (zh.ev rfl) (by omega) zk) ?_
          obtain ⟨b76, o77, P78, PC79, A80, C81, ha82, hc83⟩ := plsOpen hqI
          refine WL.val (.pointer (some ⟨b76, o77 + k * 3, none⟩)) rfl rfl rfl (fun za zC zh zk => ix_40 (k := k) rfl (zh.ev rfl) (ha82 k (by first | omega | (simp; omega))) ((zh.ev rfl).trans (congrArg (Value.int .i64) hring)) (by first | omega | (simp; omega)) zk) ?_
          refine WL.val (.pointer (some ⟨b76, o77 + k * 3, none⟩)) rfl rfl rfl (fun za zC zh zk => fld_44_0 rfl (zh.ev rfl) zk) ?_
          refine WL.val (.slice ((P78 k)) ((pget u.places k).1.length) ((PC79 k))) rfl rfl rfl (fun za zC zh zk => ld_42 rfl (zh.ev rfl) (hc83 k (by first | omega | (simp; omega))).1 zk) ?_
          refine WL.val (.slice ((P78 k)) ((pget u.places k).1.length) ((PC79 k))) rfl rfl rfl (fun za zC zh zk => wp_assign rfl (zh.ev rfl) zk) ?_
          refine WL.nil (WE.sub (K' := [(0, .agg #[.slice a sg.length c]), (1, .agg #[.bool o.lpo, .slice p1 o.prec.length k1, .slice p2 o.weights.length k2, .int .i64 o.var]), (2, .agg #[.int .i64 s.f, .slice es s.args.length ds]), (3, .agg #[.int .i64 t.f, .slice et t.args.length dt]), (4, .agg #[.int .i64 u.f, .slice eu u.args.length du]), (5, .int .i64 n), (6, .pointer (some ⟨g2, 0, none⟩)), (7, .pointer (some ⟨g9, 0, none⟩)), (8, .pointer (some ⟨g17, 0, none⟩)), (9, .pointer (some ⟨g27, 0, none⟩)), (10, .pointer (some ⟨g39, 0, none⟩)), (12, .bool false), (13, .slice qa u.places.length qc), (14, .slice ((P78 k)) ((pget u.places k).1.length) ((PC79 k))), (33, .bool (((greatB [s, t, u]) || (!(fitsB sg o [s, t, u]))))), (49, .bool (((((IntKind.i64.wrap ((((Old.T.joinI [] s).length : Nat) : Int) + (((Old.T.joinI [] t).length : Nat) : Int))) : Int) == (0 : Int)) && (((o.lcmp s t) : Int) == (0 : Int)))))]) ⟨rfl, rfl, rfl, rfl, rfl, rfl, rfl, rfl, rfl, rfl, rfl, rfl, rfl, rfl, rfl, rfl, trivial⟩ ?_)
          refine WE.next ?_
          refine WC.seq ?_
          refine WC.region ?_
          have hB84 := hB72.below hbp
          refine WL.val (.agg #[.int .i64 u.f, .slice eu u.args.length du]) rfl rfl rfl (fun za zC zh zk => ld_27 rfl (zh.ev rfl) ((hB84.cell 0).trans rfl) ((hB84.cell 1).trans rfl) zk) ?_
          refine WL.val (.slice ((P78 k)) ((pget u.places k).1.length) ((PC79 k))) rfl rfl rfl (fun za zC zh zk => wp_move rfl (zh.ev rfl) zk) ?_
          have hb86 : Below w60.heap.size w60 w75 := (bstep hb70 hbp)
          have hB85 := hB65.below hb86
          refine WL.val (.agg #[.int .i64 s.f, .slice es s.args.length ds]) rfl rfl rfl (fun za zC zh zk => ld_27 rfl (zh.ev rfl) ((hB85.cell 0).trans rfl) ((hB85.cell 1).trans rfl) zk) ?_
          have hb87 : Below w.heap.size w w75 := (bstep hb66 hb86)
          refine WL.call rfl rfl rfl (fun za zh zC => wp_call (by kernel_rfl) rfl (hv3 (zh.ev rfl) (zh.ev rfl) (zh.ev rfl))) (rput_of zu2 zs2 hpl hpw (IsT.below hb87 hu) (Old.PIn.keep (fun p x _ hx => bkeeps (Below.refl _ _) p x hx) (hc83 k (by first | omega | (simp; omega))).2.2.2.1) (IsT.below hb87 hs)) ?_
          rintro _ w88 ⟨⟨es2, ds2, rfl, hs2⟩, hbs2⟩
          have zs2 : (T.into u (pget u.places k).1 s).size ≤ 4294967296 := Nat.le_trans (into_size s _ u) (by omega)
          refine WL.val (.tuple #[.agg #[.int .i64 ((T.into u (pget u.places k).1 s).f), .slice es2 ((T.into u (pget u.places k).1 s).args.length) ds2], .bool true]) rfl rfl rfl (fun za zC zh zk => wp_move rfl (zh.ev rfl) zk) ?_
          refine WL.val (.agg #[.int .i64 ((T.into u (pget u.places k).1 s).f), .slice es2 ((T.into u (pget u.places k).1 s).args.length) ds2]) rfl rfl rfl (fun za zC zh zk => ext2_0 rfl (zh.ev rfl) zk) ?_
          refine WL.val (.bool true) rfl rfl rfl (fun za zC zh zk => ext2_1 rfl (zh.ev rfl) zk) ?_
          refine WL.step (post := NewBlk w88 27 #[.int .i64 0, .slice none 0 0]) rfl rfl rfl (fun za zC zh zk => alloc_27 rfl (zk _ _ (newBlk _ _ _))) ?_
          rintro _ w89 ⟨g90, rfl, hg91, hB92, hb93, hz94⟩
          have hb95 : Below w38.heap.size w38 w88 := (bstep (bstep hb61 hb86) hbs2)
          have hl96 : g2 < g90 := by have z1 := hB56.lt; have z2 := (hb95).size; omega
          have hb97 : Below w60.heap.size w60 w88 := (bstep hb86 hbs2)
          have hl98 : g9 < g90 := by have z1 := hB68.lt; have z2 := (hb97).size; omega
          have hl99 : g17 < g90 := by have z1 := hB85.lt; have z2 := (hbs2).size; omega
          have hl100 : g27 < g90 := by have z1 := hB67.lt; have z2 := (hb97).size; omega
          have hl101 : g39 < g90 := by have z1 := hB84.lt; have z2 := (hbs2).size; omega
          have hb102 : Below w.heap.size w w88 := (bstep hb55 hb95)
          have hl103 : w.heap.size ≤ g90 := by have z2 := (hb102).size; omega
          have hl104 : w75.heap.size ≤ g90 := by have z2 := (hbs2).size; omega
          have hl105 : w88.heap.size ≤ g90 := by omega
          refine WL.step (post := fun _ w' => Upd g90 w89 w' ∧ Blk w' g90 27 #[.int .i64 ((T.into u (pget u.places k).1 s).f), .slice es2 ((T.into u (pget u.places k).1 s).args.length) ds2]) rfl rfl rfl (fun za zC zh zk => st_27 rfl (zh.ev rfl) (zh.ev rfl) rfl rfl hB92 (by first | decide | simp) (fun v => zk v _ ⟨(Upd.at_ _ _ _ _).trans (Upd.at_ _ _ _ _), (hB92.set_ 0 _).set_ 1 _⟩)) ?_
          rintro v109 w106 ⟨hu107, hB108⟩
          have hb110 : Below w.heap.size w w89 := (bstep hb102 hb93)
          have hb111 : Below w75.heap.size w75 w89 := (bstep hbs2 hb93)
          have hb112 := upd_below hb110 hu107 (by omega)
          have hb113 := upd_below hb111 hu107 (by omega)
          have hb114 := upd_below hb93 hu107 (by omega)
          have hb116 : Below w38.heap.size w38 w89 := (bstep hb95 hb93)
          have hB115 := hB56.below hb116
          have hB117 := upd_blk hB115 hu107 (by omega)
          have hb119 : Below w60.heap.size w60 w89 := (bstep hb86 hb111)
          have hB118 := hB68.below hb119
          have hB120 := upd_blk hB118 hu107 (by omega)
          have hB121 := hB85.below hb111
          have hB122 := upd_blk hB121 hu107 (by omega)
          have hB123 := hB67.below hb119
          have hB124 := upd_blk hB123 hu107 (by omega)
          have hB125 := hB84.below hb111
          have hB126 := upd_blk hB125 hu107 (by omega)
          refine WL.val (.bool true) rfl rfl rfl (fun za zC zh zk => wp_assign rfl (zh.ev rfl) zk) ?_
          refine WL.nil (WE.sub (K' := [(0, .agg #[.slice a sg.length c]), (1, .agg #[.bool o.lpo, .slice p1 o.prec.length k1, .slice p2 o.weights.length k2, .int .i64 o.var]), (2, .agg #[.int .i64 s.f, .slice es s.args.length ds]), (3, .agg #[.int .i64 t.f, .slice et t.args.length dt]), (4, .agg #[.int .i64 u.f, .slice eu u.args.length du]), (5, .int .i64 n), (6, .pointer (some ⟨g2, 0, none⟩)), (7, .pointer (some ⟨g9, 0, none⟩)), (8, .pointer (some ⟨g17, 0, none⟩)), (9, .pointer (some ⟨g27, 0, none⟩)), (10, .pointer (some ⟨g39, 0, none⟩)), (12, .bool false), (13, .slice qa u.places.length qc), (14, .slice ((P78 k)) ((pget u.places k).1.length) ((PC79 k))), (15, .pointer (some ⟨g90, 0, none⟩)), (33, .bool (((greatB [s, t, u]) || (!(fitsB sg o [s, t, u]))))), (49, .bool (((((IntKind.i64.wrap ((((Old.T.joinI [] s).length : Nat) : Int) + (((Old.T.joinI [] t).length : Nat) : Int))) : Int) == (0 : Int)) && (((o.lcmp s t) : Int) == (0 : Int)))))]) ⟨rfl, rfl, rfl, rfl, rfl, rfl, rfl, rfl, rfl, rfl, rfl, rfl, rfl, rfl, rfl, rfl, rfl, trivial⟩ ?_)
          refine WE.next ?_
          refine WC.seq ?_
          refine WC.region ?_
          refine WL.val (.agg #[.int .i64 u.f, .slice eu u.args.length du]) rfl rfl rfl (fun za zC zh zk => ld_27 rfl (zh.ev rfl) ((hB126.cell 0).trans rfl) ((hB126.cell 1).trans rfl) zk) ?_
          refine WL.val (.slice ((P78 k)) ((pget u.places k).1.length) ((PC79 k))) rfl rfl rfl (fun za zC zh zk => wp_move rfl (zh.ev rfl) zk) ?_
          refine WL.val (.agg #[.int .i64 t.f, .slice et t.args.length dt]) rfl rfl rfl (fun za zC zh zk => ld_27 rfl (zh.ev rfl) ((hB124.cell 0).trans rfl) ((hB124.cell 1).trans rfl) zk) ?_
          refine WL.call rfl rfl rfl (fun za zh zC => wp_call (by kernel_rfl) rfl (hv3 (zh.ev rfl) (zh.ev rfl) (zh.ev rfl))) (rput_of zu2 zt2 hpl hpw (IsT.below hb112 hu) (Old.PIn.keep (fun p x _ hx => bkeeps hb113 p x hx) (hc83 k (by first | omega | (simp; omega))).2.2.2.1) (IsT.below hb112 ht)) ?_
          rintro _ w127 ⟨⟨et2, dt2, rfl, ht2⟩, hbt2⟩
          have zt2 : (T.into u (pget u.places k).1 t).size ≤ 4294967296 := Nat.le_trans (into_size t _ u) (by omega)
          refine WL.val (.tuple #[.agg #[.int .i64 ((T.into u (pget u.places k).1 t).f), .slice et2 ((T.into u (pget u.places k).1 t).args.length) dt2], .bool true]) rfl rfl rfl (fun za zC zh zk => wp_move rfl (zh.ev rfl) zk) ?_
          refine WL.val (.agg #[.int .i64 ((T.into u (pget u.places k).1 t).f), .slice et2 ((T.into u (pget u.places k).1 t).args.length) dt2]) rfl rfl rfl (fun za zC zh zk => ext2_0 rfl (zh.ev rfl) zk) ?_
          refine WL.val (.bool true) rfl rfl rfl (fun za zC zh zk => ext2_1 rfl (zh.ev rfl) zk) ?_
          refine WL.step (post := NewBlk w127 27 #[.int .i64 0, .slice none 0 0]) rfl rfl rfl (fun za zC zh zk => alloc_27 rfl (zk _ _ (newBlk _ _ _))) ?_
          rintro _ w128 ⟨g129, rfl, hg130, hB131, hb132, hz133⟩
          have hl134 : g2 < g129 := by have z1 := hB117.lt; have z2 := (hbt2).size; omega
          have hl135 : g9 < g129 := by have z1 := hB120.lt; have z2 := (hbt2).size; omega
          have hl136 : g17 < g129 := by have z1 := hB122.lt; have z2 := (hbt2).size; omega
          have hl137 : g27 < g129 := by have z1 := hB124.lt; have z2 := (hbt2).size; omega
          have hl138 : g39 < g129 := by have z1 := hB126.lt; have z2 := (hbt2).size; omega
          have hl139 : g90 < g129 := by have z1 := hB108.lt; have z2 := (hbt2).size; omega
          have hb140 : Below w.heap.size w w127 := (bstep hb112 hbt2)
          have hl141 : w.heap.size ≤ g129 := by have z2 := (hb140).size; omega
          have hb142 : Below w75.heap.size w75 w127 := (bstep hb113 hbt2)
          have hl143 : w75.heap.size ≤ g129 := by have z2 := (hb142).size; omega
          have hb144 : Below w88.heap.size w88 w127 := (bstep hb114 hbt2)
          have hl145 : w88.heap.size ≤ g129 := by have z2 := (hb144).size; omega
          have hl146 : w127.heap.size ≤ g129 := by omega
          refine WL.step (post := fun _ w' => Upd g129 w128 w' ∧ Blk w' g129 27 #[.int .i64 ((T.into u (pget u.places k).1 t).f), .slice et2 ((T.into u (pget u.places k).1 t).args.length) dt2]) rfl rfl rfl (fun za zC zh zk => st_27 rfl (zh.ev rfl) (zh.ev rfl) rfl rfl hB131 (by first | decide | simp) (fun v => zk v _ ⟨(Upd.at_ _ _ _ _).trans (Upd.at_ _ _ _ _), (hB131.set_ 0 _).set_ 1 _⟩)) ?_
          rintro v150 w147 ⟨hu148, hB149⟩
          have hb151 : Below w.heap.size w w128 := (bstep hb140 hb132)
          have hb152 : Below w75.heap.size w75 w128 := (bstep hb142 hb132)
          have hb153 : Below w88.heap.size w88 w128 := (bstep hb144 hb132)
          have hb154 := upd_below hb151 hu148 (by omega)
          have hb155 := upd_below hb152 hu148 (by omega)
          have hb156 := upd_below hb153 hu148 (by omega)
          have hb157 := upd_below hb132 hu148 (by omega)
          have hb159 : Below w106.heap.size w106 w128 := (bstep hbt2 hb132)
          have hB158 := hB117.below hb159
          have hB160 := upd_blk hB158 hu148 (by omega)
          have hB161 := hB120.below hb159
          have hB162 := upd_blk hB161 hu148 (by omega)
          have hB163 := hB122.below hb159
          have hB164 := upd_blk hB163 hu148 (by omega)
          have hB165 := hB124.below hb159
          have hB166 := upd_blk hB165 hu148 (by omega)
          have hB167 := hB126.below hb159
          have hB168 := upd_blk hB167 hu148 (by omega)
          have hB169 := hB108.below hb159
          have hB170 := upd_blk hB169 hu148 (by omega)
          refine WL.val (.bool true) rfl rfl rfl (fun za zC zh zk => wp_assign rfl (zh.ev rfl) zk) ?_
          refine WL.nil (WE.sub (K' := [(0, .agg #[.slice a sg.length c]), (1, .agg #[.bool o.lpo, .slice p1 o.prec.length k1, .slice p2 o.weights.length k2, .int .i64 o.var]), (2, .agg #[.int .i64 s.f, .slice es s.args.length ds]), (3, .agg #[.int .i64 t.f, .slice et t.args.length dt]), (4, .agg #[.int .i64 u.f, .slice eu u.args.length du]), (5, .int .i64 n), (6, .pointer (some ⟨g2, 0, none⟩)), (7, .pointer (some ⟨g9, 0, none⟩)), (8, .pointer (some ⟨g17, 0, none⟩)), (9, .pointer (some ⟨g27, 0, none⟩)), (10, .pointer (some ⟨g39, 0, none⟩)), (12, .bool false), (13, .slice qa u.places.length qc), (14, .slice ((P78 k)) ((pget u.places k).1.length) ((PC79 k))), (15, .pointer (some ⟨g90, 0, none⟩)), (17, .pointer (some ⟨g129, 0, none⟩)), (33, .bool (((greatB [s, t, u]) || (!(fitsB sg o [s, t, u]))))), (49, .bool (((((IntKind.i64.wrap ((((Old.T.joinI [] s).length : Nat) : Int) + (((Old.T.joinI [] t).length : Nat) : Int))) : Int) == (0 : Int)) && (((o.lcmp s t) : Int) == (0 : Int)))))]) ⟨rfl, rfl, rfl, rfl, rfl, rfl, rfl, rfl, rfl, rfl, rfl, rfl, rfl, rfl, rfl, rfl, rfl, rfl, trivial⟩ ?_)
          refine WE.next ?_
          refine WC.seq ?_
          refine WC.seq ?_
          refine WC.opt [(true, .val (.agg #[.int .i64 ((T.into u (pget u.places k).1 s).f), .slice es2 ((T.into u (pget u.places k).1 s).args.length) ds2])), (true, .val (.agg #[.int .i64 ((T.into u (pget u.places k).1 t).f), .slice et2 ((T.into u (pget u.places k).1 t).args.length) dt2])), (true, .mem (TsOf [T.into u (pget u.places k).1 s, T.into u (pget u.places k).1 t]) (fun v w w' hb h => TsOf.bel h hb)), (true, .val (.bool ((greatB [T.into u (pget u.places k).1 s, T.into u (pget u.places k).1 t])))), (true, .val (.bool ((greatB [T.into u (pget u.places k).1 s, T.into u (pget u.places k).1 t])))), ((true && !(greatB [T.into u (pget u.places k).1 s, T.into u (pget u.places k).1 t])), .val (.agg #[.slice a sg.length c])), ((true && !(greatB [T.into u (pget u.places k).1 s, T.into u (pget u.places k).1 t])), .val (.agg #[.bool o.lpo, .slice p1 o.prec.length k1, .slice p2 o.weights.length k2, .int .i64 o.var])), ((true && !(greatB [T.into u (pget u.places k).1 s, T.into u (pget u.places k).1 t])), .val (.agg #[.int .i64 ((T.into u (pget u.places k).1 s).f), .slice es2 ((T.into u (pget u.places k).1 s).args.length) ds2])), ((true && !(greatB [T.into u (pget u.places k).1 s, T.into u (pget u.places k).1 t])), .val (.agg #[.int .i64 ((T.into u (pget u.places k).1 t).f), .slice et2 ((T.into u (pget u.places k).1 t).args.length) dt2])), ((true && !(greatB [T.into u (pget u.places k).1 s, T.into u (pget u.places k).1 t])), .mem (TsOf [T.into u (pget u.places k).1 s, T.into u (pget u.places k).1 t]) (fun v w w' hb h => TsOf.bel h hb)), ((true && !(greatB [T.into u (pget u.places k).1 s, T.into u (pget u.places k).1 t])), .val (.bool ((fitsB sg o [T.into u (pget u.places k).1 s, T.into u (pget u.places k).1 t])))), ((true && !(greatB [T.into u (pget u.places k).1 s, T.into u (pget u.places k).1 t])), .val (.bool ((!(fitsB sg o [T.into u (pget u.places k).1 s, T.into u (pget u.places k).1 t]))))), (true, .val (.bool (((greatB [T.into u (pget u.places k).1 s, T.into u (pget u.places k).1 t]) || (!(fitsB sg o [T.into u (pget u.places k).1 s, T.into u (pget u.places k).1 t])))))), (true, .val (.bool (((greatB [T.into u (pget u.places k).1 s, T.into u (pget u.places k).1 t]) || (!(fitsB sg o [T.into u (pget u.places k).1 s, T.into u (pget u.places k).1 t])))))), ((true && !((greatB [T.into u (pget u.places k).1 s, T.into u (pget u.places k).1 t]) || (!(fitsB sg o [T.into u (pget u.places k).1 s, T.into u (pget u.places k).1 t])))), .val (.agg #[.bool o.lpo, .slice p1 o.prec.length k1, .slice p2 o.weights.length k2, .int .i64 o.var])), ((true && !((greatB [T.into u (pget u.places k).1 s, T.into u (pget u.places k).1 t]) || (!(fitsB sg o [T.into u (pget u.places k).1 s, T.into u (pget u.places k).1 t])))), .val (.agg #[.int .i64 s.f, .slice es s.args.length ds])), ((true && !((greatB [T.into u (pget u.places k).1 s, T.into u (pget u.places k).1 t]) || (!(fitsB sg o [T.into u (pget u.places k).1 s, T.into u (pget u.places k).1 t])))), .val (.agg #[.int .i64 t.f, .slice et t.args.length dt])), ((true && !((greatB [T.into u (pget u.places k).1 s, T.into u (pget u.places k).1 t]) || (!(fitsB sg o [T.into u (pget u.places k).1 s, T.into u (pget u.places k).1 t])))), .val (.bool ((o.lcmp s t == 3)))), ((true && !((greatB [T.into u (pget u.places k).1 s, T.into u (pget u.places k).1 t]) || (!(fitsB sg o [T.into u (pget u.places k).1 s, T.into u (pget u.places k).1 t])))), .val (.bool ((!(o.lcmp s t == 3))))), (true, .val (.bool ((((greatB [T.into u (pget u.places k).1 s, T.into u (pget u.places k).1 t]) || (!(fitsB sg o [T.into u (pget u.places k).1 s, T.into u (pget u.places k).1 t]))) || (!(o.lcmp s t == 3))))))] [(0, .agg #[.slice a sg.length c]), (1, .agg #[.bool o.lpo, .slice p1 o.prec.length k1, .slice p2 o.weights.length k2, .int .i64 o.var]), (2, .agg #[.int .i64 s.f, .slice es s.args.length ds]), (3, .agg #[.int .i64 t.f, .slice et t.args.length dt]), (4, .agg #[.int .i64 u.f, .slice eu u.args.length du]), (5, .int .i64 n), (6, .pointer (some ⟨g2, 0, none⟩)), (7, .pointer (some ⟨g9, 0, none⟩)), (8, .pointer (some ⟨g17, 0, none⟩)), (9, .pointer (some ⟨g27, 0, none⟩)), (10, .pointer (some ⟨g39, 0, none⟩)), (12, .bool false), (13, .slice qa u.places.length qc), (14, .slice ((P78 k)) ((pget u.places k).1.length) ((PC79 k))), (15, .pointer (some ⟨g90, 0, none⟩)), (17, .pointer (some ⟨g129, 0, none⟩)), (33, .bool (((greatB [s, t, u]) || (!(fitsB sg o [s, t, u]))))), (49, .bool (((((IntKind.i64.wrap ((((Old.T.joinI [] s).length : Nat) : Int) + (((Old.T.joinI [] t).length : Nat) : Int))) : Int) == (0 : Int)) && (((o.lcmp s t) : Int) == (0 : Int)))))] ⟨rfl, rfl, rfl, rfl, rfl, rfl, rfl, rfl, rfl, rfl, rfl, rfl, rfl, rfl, rfl, rfl, rfl, rfl, trivial⟩ (by kernel_rfl) (by kernel_rfl) (by kernel_rfl) ?_ ?_
          · refine ⟨⟨true, .none rfl, fun h w => optUndef h, fun zβ za zw zc => ?_⟩, ?_⟩
            · exact ld_27 rfl (zc.kn.ev rfl) (bkeeps zc.below _ _ ((hB170.cell 0).trans rfl)) (bkeeps zc.below _ _ ((hB170.cell 1).trans rfl)) ⟨_, rfl, Below.refl _ _, optDef zβ rfl⟩
            refine ⟨⟨true, .none rfl, fun h w => optUndef h, fun zβ za zw zc => ?_⟩, ?_⟩
            · exact ld_27 rfl (zc.kn.ev rfl) (bkeeps zc.below _ _ ((hB149.cell 0).trans rfl)) (bkeeps zc.below _ _ ((hB149.cell 1).trans rfl)) ⟨_, rfl, Below.refl _ _, optDef zβ rfl⟩
            refine ⟨⟨true, .none rfl, fun h w => optUndef h, fun zβ za zw zc => ?_⟩, ?_⟩
            · exact row_25_2 rfl ((show za.eval (.tmp 80) = za.tmps.getD 80 undef from rfl).trans (optVal (zc.dep 0 80 (by kernel_rfl)) rfl rfl)) ((show za.eval (.tmp 81) = za.tmps.getD 81 undef from rfl).trans (optVal (zc.dep 1 81 (by kernel_rfl)) rfl rfl)) ⟨_, rfl, balloc _ _, optDef zβ (ts2 (IsT.below (bstep hb156 zc.below) hs2) (IsT.below (bstep hb157 zc.below) ht2))⟩
            refine ⟨⟨true, .none rfl, fun h w => optUndef h, fun zβ za zw zc => ?_⟩, ?_⟩
            · exact wp_call (by kernel_rfl) rfl (hv1 (show za.eval (.tmp 82) = za.tmps.getD 82 undef from rfl)) (great_ts (optMem (zc.dep 2 82 (by kernel_rfl)) rfl rfl)) (fun v w' h => ⟨v, rfl, h.2, optDef zβ h.1⟩)
            refine ⟨⟨true, .none rfl, fun h w => optUndef h, fun zβ za zw zc => ?_⟩, ?_⟩
            · exact wp_move rfl ((show za.eval (.tmp 83) = za.tmps.getD 83 undef from rfl).trans (optVal (zc.dep 3 83 (by kernel_rfl)) rfl rfl)) ⟨_, rfl, Below.refl _ _, optDef zβ rfl⟩
            refine ⟨⟨(true && !(greatB [T.into u (pget u.places k).1 s, T.into u (pget u.places k).1 t])), .no (c := (greatB [T.into u (pget u.places k).1 s, T.into u (pget u.places k).1 t])) (d := true) rfl (fun v w h => h), fun h w => optUndef h, fun zβ za zw zc => ?_⟩, ?_⟩
            · exact ld_35 rfl (zc.kn.ev rfl) (bkeeps zc.below _ _ ((hB160.cell 0).trans rfl)) ⟨_, rfl, Below.refl _ _, optDef zβ rfl⟩
            refine ⟨⟨(true && !(greatB [T.into u (pget u.places k).1 s, T.into u (pget u.places k).1 t])), .no (c := (greatB [T.into u (pget u.places k).1 s, T.into u (pget u.places k).1 t])) (d := true) rfl (fun v w h => h), fun h w => optUndef h, fun zβ za zw zc => ?_⟩, ?_⟩
            · exact ld_24 rfl (zc.kn.ev rfl) (bkeeps zc.below _ _ ((hB162.cell 0).trans rfl)) (bkeeps zc.below _ _ ((hB162.cell 1).trans rfl)) (bkeeps zc.below _ _ ((hB162.cell 2).trans rfl)) (bkeeps zc.below _ _ ((hB162.cell 3).trans rfl)) ⟨_, rfl, Below.refl _ _, optDef zβ rfl⟩
            refine ⟨⟨(true && !(greatB [T.into u (pget u.places k).1 s, T.into u (pget u.places k).1 t])), .no (c := (greatB [T.into u (pget u.places k).1 s, T.into u (pget u.places k).1 t])) (d := true) rfl (fun v w h => h), fun h w => optUndef h, fun zβ za zw zc => ?_⟩, ?_⟩
            · exact ld_27 rfl (zc.kn.ev rfl) (bkeeps zc.below _ _ ((hB170.cell 0).trans rfl)) (bkeeps zc.below _ _ ((hB170.cell 1).trans rfl)) ⟨_, rfl, Below.refl _ _, optDef zβ rfl⟩
            refine ⟨⟨(true && !(greatB [T.into u (pget u.places k).1 s, T.into u (pget u.places k).1 t])), .no (c := (greatB [T.into u (pget u.places k).1 s, T.into u (pget u.places k).1 t])) (d := true) rfl (fun v w h => h), fun h w => optUndef h, fun zβ za zw zc => ?_⟩, ?_⟩
            · exact ld_27 rfl (zc.kn.ev rfl) (bkeeps zc.below _ _ ((hB149.cell 0).trans rfl)) (bkeeps zc.below _ _ ((hB149.cell 1).trans rfl)) ⟨_, rfl, Below.refl _ _, optDef zβ rfl⟩
            refine ⟨⟨(true && !(greatB [T.into u (pget u.places k).1 s, T.into u (pget u.places k).1 t])), .no (c := (greatB [T.into u (pget u.places k).1 s, T.into u (pget u.places k).1 t])) (d := true) rfl (fun v w h => h), fun h w => optUndef h, fun zβ za zw zc => ?_⟩, ?_⟩
            · exact row_25_2 rfl ((show za.eval (.tmp 87) = za.tmps.getD 87 undef from rfl).trans (optVal (zc.dep 7 87 (by kernel_rfl)) rfl zβ)) ((show za.eval (.tmp 88) = za.tmps.getD 88 undef from rfl).trans (optVal (zc.dep 8 88 (by kernel_rfl)) rfl zβ)) ⟨_, rfl, balloc _ _, optDef zβ (ts2 (IsT.below (bstep hb156 zc.below) hs2) (IsT.below (bstep hb157 zc.below) ht2))⟩
            refine ⟨⟨(true && !(greatB [T.into u (pget u.places k).1 s, T.into u (pget u.places k).1 t])), .no (c := (greatB [T.into u (pget u.places k).1 s, T.into u (pget u.places k).1 t])) (d := true) rfl (fun v w h => h), fun h w => optUndef h, fun zβ za zw zc => ?_⟩, ?_⟩
            · exact wp_call (by kernel_rfl) rfl (hv3 ((show za.eval (.tmp 85) = za.tmps.getD 85 undef from rfl).trans (optVal (zc.dep 5 85 (by kernel_rfl)) rfl zβ)) ((show za.eval (.tmp 86) = za.tmps.getD 86 undef from rfl).trans (optVal (zc.dep 6 86 (by kernel_rfl)) rfl zβ)) (show za.eval (.tmp 89) = za.tmps.getD 89 undef from rfl)) (fits_ts (by intro x hx; simp only [List.mem_cons, List.not_mem_nil, or_false] at hx; rcases hx with rfl | rfl; exact zs2; exact zt2) (IsSig.below (bstep hb154 zc.below) hst) (hot.below (bstep hb154 zc.below)) (optMem (zc.dep 9 89 (by kernel_rfl)) rfl zβ)) (fun v w' h => ⟨v, rfl, h.2, optDef zβ h.1⟩)
            refine ⟨⟨(true && !(greatB [T.into u (pget u.places k).1 s, T.into u (pget u.places k).1 t])), .no (c := (greatB [T.into u (pget u.places k).1 s, T.into u (pget u.places k).1 t])) (d := true) rfl (fun v w h => h), fun h w => optUndef h, fun zβ za zw zc => ?_⟩, ?_⟩
            · exact wp_not rfl ((show za.eval (.tmp 90) = za.tmps.getD 90 undef from rfl).trans (optVal (zc.dep 10 90 (by kernel_rfl)) rfl zβ)) ⟨_, rfl, Below.refl _ _, optDef zβ rfl⟩
            refine ⟨⟨true, .none rfl, fun h w => optUndef h, fun zβ za zw zc => ?_⟩, ?_⟩
            · exact wp_or rfl ((show za.eval (.tmp 84) = za.tmps.getD 84 undef from rfl).trans (optVal (zc.dep 4 84 (by kernel_rfl)) rfl rfl)) (fun hp => ((show za.eval (.tmp 91) = za.tmps.getD 91 undef from rfl).trans (optVal (zc.dep 11 91 (by kernel_rfl)) rfl (bMkN zβ hp)))) ⟨_, rfl, Below.refl _ _, optDef zβ rfl⟩
            refine ⟨⟨true, .none rfl, fun h w => optUndef h, fun zβ za zw zc => ?_⟩, ?_⟩
            · exact wp_move rfl ((show za.eval (.tmp 92) = za.tmps.getD 92 undef from rfl).trans (optVal (zc.dep 12 92 (by kernel_rfl)) rfl rfl)) ⟨_, rfl, Below.refl _ _, optDef zβ rfl⟩
            refine ⟨⟨(true && !((greatB [T.into u (pget u.places k).1 s, T.into u (pget u.places k).1 t]) || (!(fitsB sg o [T.into u (pget u.places k).1 s, T.into u (pget u.places k).1 t])))), .no (c := ((greatB [T.into u (pget u.places k).1 s, T.into u (pget u.places k).1 t]) || (!(fitsB sg o [T.into u (pget u.places k).1 s, T.into u (pget u.places k).1 t])))) (d := true) rfl (fun v w h => h), fun h w => optUndef h, fun zβ za zw zc => ?_⟩, ?_⟩
            · exact ld_24 rfl (zc.kn.ev rfl) (bkeeps zc.below _ _ ((hB162.cell 0).trans rfl)) (bkeeps zc.below _ _ ((hB162.cell 1).trans rfl)) (bkeeps zc.below _ _ ((hB162.cell 2).trans rfl)) (bkeeps zc.below _ _ ((hB162.cell 3).trans rfl)) ⟨_, rfl, Below.refl _ _, optDef zβ rfl⟩
            refine ⟨⟨(true && !((greatB [T.into u (pget u.places k).1 s, T.into u (pget u.places k).1 t]) || (!(fitsB sg o [T.into u (pget u.places k).1 s, T.into u (pget u.places k).1 t])))), .no (c := ((greatB [T.into u (pget u.places k).1 s, T.into u (pget u.places k).1 t]) || (!(fitsB sg o [T.into u (pget u.places k).1 s, T.into u (pget u.places k).1 t])))) (d := true) rfl (fun v w h => h), fun h w => optUndef h, fun zβ za zw zc => ?_⟩, ?_⟩
            · exact ld_27 rfl (zc.kn.ev rfl) (bkeeps zc.below _ _ ((hB164.cell 0).trans rfl)) (bkeeps zc.below _ _ ((hB164.cell 1).trans rfl)) ⟨_, rfl, Below.refl _ _, optDef zβ rfl⟩
            refine ⟨⟨(true && !((greatB [T.into u (pget u.places k).1 s, T.into u (pget u.places k).1 t]) || (!(fitsB sg o [T.into u (pget u.places k).1 s, T.into u (pget u.places k).1 t])))), .no (c := ((greatB [T.into u (pget u.places k).1 s, T.into u (pget u.places k).1 t]) || (!(fitsB sg o [T.into u (pget u.places k).1 s, T.into u (pget u.places k).1 t])))) (d := true) rfl (fun v w h => h), fun h w => optUndef h, fun zβ za zw zc => ?_⟩, ?_⟩
            · exact ld_27 rfl (zc.kn.ev rfl) (bkeeps zc.below _ _ ((hB166.cell 0).trans rfl)) (bkeeps zc.below _ _ ((hB166.cell 1).trans rfl)) ⟨_, rfl, Below.refl _ _, optDef zβ rfl⟩
            refine ⟨⟨(true && !((greatB [T.into u (pget u.places k).1 s, T.into u (pget u.places k).1 t]) || (!(fitsB sg o [T.into u (pget u.places k).1 s, T.into u (pget u.places k).1 t])))), .no (c := ((greatB [T.into u (pget u.places k).1 s, T.into u (pget u.places k).1 t]) || (!(fitsB sg o [T.into u (pget u.places k).1 s, T.into u (pget u.places k).1 t])))) (d := true) rfl (fun v w h => h), fun h w => optUndef h, fun zβ za zw zc => ?_⟩, ?_⟩
            · exact wp_call (by kernel_rfl) rfl (hv3 ((show za.eval (.tmp 94) = za.tmps.getD 94 undef from rfl).trans (optVal (zc.dep 14 94 (by kernel_rfl)) rfl zβ)) ((show za.eval (.tmp 95) = za.tmps.getD 95 undef from rfl).trans (optVal (zc.dep 15 95 (by kernel_rfl)) rfl zβ)) ((show za.eval (.tmp 96) = za.tmps.getD 96 undef from rfl).trans (optVal (zc.dep 16 96 (by kernel_rfl)) rfl zβ))) (lpoAbove_any o s t _ _ _ _ zs' zt' (hot.below (bstep hb154 zc.below)) (IsT.below (bstep hb154 zc.below) hs) (IsT.below (bstep hb154 zc.below) ht)) (fun v w' h => ⟨v, rfl, h.2, optDef zβ h.1⟩)
            refine ⟨⟨(true && !((greatB [T.into u (pget u.places k).1 s, T.into u (pget u.places k).1 t]) || (!(fitsB sg o [T.into u (pget u.places k).1 s, T.into u (pget u.places k).1 t])))), .no (c := ((greatB [T.into u (pget u.places k).1 s, T.into u (pget u.places k).1 t]) || (!(fitsB sg o [T.into u (pget u.places k).1 s, T.into u (pget u.places k).1 t])))) (d := true) rfl (fun v w h => h), fun h w => optUndef h, fun zβ za zw zc => ?_⟩, ?_⟩
            · exact wp_not rfl ((show za.eval (.tmp 97) = za.tmps.getD 97 undef from rfl).trans (optVal (zc.dep 17 97 (by kernel_rfl)) rfl zβ)) ⟨_, rfl, Below.refl _ _, optDef zβ rfl⟩
            refine ⟨⟨true, .none rfl, fun h w => optUndef h, fun zβ za zw zc => ?_⟩, ?_⟩
            · exact wp_or rfl ((show za.eval (.tmp 93) = za.tmps.getD 93 undef from rfl).trans (optVal (zc.dep 13 93 (by kernel_rfl)) rfl rfl)) (fun hp => ((show za.eval (.tmp 98) = za.tmps.getD 98 undef from rfl).trans (optVal (zc.dep 18 98 (by kernel_rfl)) rfl (bMkN zβ hp)))) ⟨_, rfl, Below.refl _ _, optDef zβ rfl⟩
            exact trivial
          · intro za w171 zh hb172 zu
            have zh := zh.cons (d := 99) (v := .bool ((((greatB [T.into u (pget u.places k).1 s, T.into u (pget u.places k).1 t]) || (!(fitsB sg o [T.into u (pget u.places k).1 s, T.into u (pget u.places k).1 t]))) || (!(o.lcmp s t == 3))))) (optVal (zu 19 99 (by kernel_rfl)) rfl rfl)
            clear zu
            refine (show WE _ [(0, .agg #[.slice a sg.length c]), (1, .agg #[.bool o.lpo, .slice p1 o.prec.length k1, .slice p2 o.weights.length k2, .int .i64 o.var]), (2, .agg #[.int .i64 s.f, .slice es s.args.length ds]), (3, .agg #[.int .i64 t.f, .slice et t.args.length dt]), (4, .agg #[.int .i64 u.f, .slice eu u.args.length du]), (5, .int .i64 n), (6, .pointer (some ⟨g2, 0, none⟩)), (7, .pointer (some ⟨g9, 0, none⟩)), (8, .pointer (some ⟨g17, 0, none⟩)), (9, .pointer (some ⟨g27, 0, none⟩)), (10, .pointer (some ⟨g39, 0, none⟩)), (12, .bool false), (13, .slice qa u.places.length qc), (14, .slice ((P78 k)) ((pget u.places k).1.length) ((PC79 k))), (15, .pointer (some ⟨g90, 0, none⟩)), (17, .pointer (some ⟨g129, 0, none⟩)), (33, .bool (((greatB [s, t, u]) || (!(fitsB sg o [s, t, u]))))), (49, .bool (((((IntKind.i64.wrap ((((Old.T.joinI [] s).length : Nat) : Int) + (((Old.T.joinI [] t).length : Nat) : Int))) : Int) == (0 : Int)) && (((o.lcmp s t) : Int) == (0 : Int))))), (99, .bool ((((greatB [T.into u (pget u.places k).1 s, T.into u (pget u.places k).1 t]) || (!(fitsB sg o [T.into u (pget u.places k).1 s, T.into u (pget u.places k).1 t]))) || (!(o.lcmp s t == 3)))))] w171 _ .normal from ?_) za (zh.sub ⟨rfl, rfl, rfl, rfl, rfl, rfl, rfl, rfl, rfl, rfl, rfl, rfl, rfl, rfl, rfl, rfl, rfl, rfl, rfl, trivial⟩)
            refine WE.next ?_
            refine WC.cond rfl (fun h173 => ?_) (fun h173 => ?_)
            · have h173 : (((greatB [T.into u (pget u.places k).1 s, T.into u (pget u.places k).1 t]) = true) ∨ (¬ ((fitsB sg o [T.into u (pget u.places k).1 s, T.into u (pget u.places k).1 t]) = true))) ∨ (¬ ((o.lcmp s t == 3) = true)) := by simpa using h173
              refine WC.seq ?_
              refine WC.region ?_
              refine WL.call rfl rfl rfl (fun za zh zC => wp_call (by kernel_rfl) rfl (hv0)) (wakes_any _) ?_
              rintro _ w174 ⟨rfl, hbw⟩
              refine WL.val (.bool true) rfl rfl rfl (fun za zC zh zk => wp_assign rfl (zh.ev rfl) zk) ?_
              refine WL.nil (WE.sub (K' := [(0, .agg #[.slice a sg.length c]), (1, .agg #[.bool o.lpo, .slice p1 o.prec.length k1, .slice p2 o.weights.length k2, .int .i64 o.var]), (2, .agg #[.int .i64 s.f, .slice es s.args.length ds]), (3, .agg #[.int .i64 t.f, .slice et t.args.length dt]), (4, .agg #[.int .i64 u.f, .slice eu u.args.length du]), (5, .int .i64 n), (6, .pointer (some ⟨g2, 0, none⟩)), (7, .pointer (some ⟨g9, 0, none⟩)), (8, .pointer (some ⟨g17, 0, none⟩)), (9, .pointer (some ⟨g27, 0, none⟩)), (10, .pointer (some ⟨g39, 0, none⟩)), (12, .bool true), (13, .slice qa u.places.length qc), (14, .slice ((P78 k)) ((pget u.places k).1.length) ((PC79 k))), (15, .pointer (some ⟨g90, 0, none⟩)), (17, .pointer (some ⟨g129, 0, none⟩)), (33, .bool (((greatB [s, t, u]) || (!(fitsB sg o [s, t, u]))))), (49, .bool (((((IntKind.i64.wrap ((((Old.T.joinI [] s).length : Nat) : Int) + (((Old.T.joinI [] t).length : Nat) : Int))) : Int) == (0 : Int)) && (((o.lcmp s t) : Int) == (0 : Int))))), (99, .bool ((((greatB [T.into u (pget u.places k).1 s, T.into u (pget u.places k).1 t]) || (!(fitsB sg o [T.into u (pget u.places k).1 s, T.into u (pget u.places k).1 t]))) || (!(o.lcmp s t == 3)))))]) ⟨rfl, rfl, rfl, rfl, rfl, rfl, rfl, rfl, rfl, rfl, rfl, rfl, rfl, rfl, rfl, rfl, rfl, rfl, rfl, trivial⟩ ?_)
              refine WE.next ?_
              refine WC.ret ?_
              refine WE.thenRet ?_
              refine WE.ret1 rfl rfl ?_
              have hb175 : Below w.heap.size w w174 := (bstep (bstep hb154 hb172) hbw)
              exact ⟨_, rfl, congrArg Value.bool (rfl), hb175⟩
            · have h173 : ¬ ((((greatB [T.into u (pget u.places k).1 s, T.into u (pget u.places k).1 t]) = true) ∨ (¬ ((fitsB sg o [T.into u (pget u.places k).1 s, T.into u (pget u.places k).1 t]) = true))) ∨ (¬ ((o.lcmp s t == 3) = true))) := by simpa using h173
              have hz : fitsB sg o [T.into u (pget u.places k).1 s, T.into u (pget u.places k).1 t] = true ∧ (o.lcmp s t == 3) = true := by have z := h173; simp at z; simpa using And.intro z.1.2 z.2
              have hF2 := fitsB_of hz.1
              have ks := Od.lknown hF.2.1 (hF.2.2 s (by simp))
              have kt := Od.lknown hF.2.1 (hF.2.2 t (by simp))
              have ku := Od.lknown hF.2.1 (hF.2.2 u (by simp))
              have ks2 := Od.lknown hF2.2.1 (hF2.2.2 (T.into u (pget u.places k).1 s) (by simp))
              have kt2 := Od.lknown hF2.2.1 (hF2.2.2 (T.into u (pget u.places k).1 t) (by simp))
              have hab : o.lcmp (T.into u (pget u.places k).1 s) (T.into u (pget u.places k).1 t) = 3 := by
                have z1 := hz.2
                rw [Od.lcmp_above ks kt] at z1
                have z2 := Od.lcmp_above ks2 kt2
                rw [Od.lg_into z1 kt _ u hpw ku kt2] at z2
                simpa using z2
              refine WC.skip ?_
              refine WE.next ?_
              refine WC.seq ?_
              have hB176 := hB162.below hb172
              have hB177 := hB170.below hb172
              have hB178 := hB149.below hb172
              have hb179 : Below w.heap.size w w171 := (bstep hb154 hb172)
              have hb180 : Below w88.heap.size w88 w171 := (bstep hb156 hb172)
              have hb181 : Below w127.heap.size w127 w171 := (bstep hb157 hb172)
              refine WC.opt [(true, .val (.agg #[.bool o.lpo, .slice p1 o.prec.length k1, .slice p2 o.weights.length k2, .int .i64 o.var])), (true, .val (.agg #[.int .i64 ((T.into u (pget u.places k).1 s).f), .slice es2 ((T.into u (pget u.places k).1 s).args.length) ds2])), (true, .val (.agg #[.int .i64 ((T.into u (pget u.places k).1 t).f), .slice et2 ((T.into u (pget u.places k).1 t).args.length) dt2])), (true, .val (.bool ((o.lcmp (T.into u (pget u.places k).1 s) (T.into u (pget u.places k).1 t) == 3)))), (true, .val (.bool ((o.lcmp (T.into u (pget u.places k).1 s) (T.into u (pget u.places k).1 t) == 3)))), ((true && (o.lcmp (T.into u (pget u.places k).1 s) (T.into u (pget u.places k).1 t) == 3)), .val (.bool true)), (true, .val (.bool (((o.lcmp (T.into u (pget u.places k).1 s) (T.into u (pget u.places k).1 t) == 3) && true)))), (true, .val (.bool (((o.lcmp (T.into u (pget u.places k).1 s) (T.into u (pget u.places k).1 t) == 3) && true))))] [(0, .agg #[.slice a sg.length c]), (1, .agg #[.bool o.lpo, .slice p1 o.prec.length k1, .slice p2 o.weights.length k2, .int .i64 o.var]), (2, .agg #[.int .i64 s.f, .slice es s.args.length ds]), (3, .agg #[.int .i64 t.f, .slice et t.args.length dt]), (4, .agg #[.int .i64 u.f, .slice eu u.args.length du]), (5, .int .i64 n), (6, .pointer (some ⟨g2, 0, none⟩)), (7, .pointer (some ⟨g9, 0, none⟩)), (8, .pointer (some ⟨g17, 0, none⟩)), (9, .pointer (some ⟨g27, 0, none⟩)), (10, .pointer (some ⟨g39, 0, none⟩)), (13, .slice qa u.places.length qc), (14, .slice ((P78 k)) ((pget u.places k).1.length) ((PC79 k))), (15, .pointer (some ⟨g90, 0, none⟩)), (17, .pointer (some ⟨g129, 0, none⟩)), (33, .bool (((greatB [s, t, u]) || (!(fitsB sg o [s, t, u]))))), (49, .bool (((((IntKind.i64.wrap ((((Old.T.joinI [] s).length : Nat) : Int) + (((Old.T.joinI [] t).length : Nat) : Int))) : Int) == (0 : Int)) && (((o.lcmp s t) : Int) == (0 : Int))))), (99, .bool ((((greatB [T.into u (pget u.places k).1 s, T.into u (pget u.places k).1 t]) || (!(fitsB sg o [T.into u (pget u.places k).1 s, T.into u (pget u.places k).1 t]))) || (!(o.lcmp s t == 3)))))] ⟨rfl, rfl, rfl, rfl, rfl, rfl, rfl, rfl, rfl, rfl, rfl, rfl, rfl, rfl, rfl, rfl, rfl, rfl, trivial⟩ (by kernel_rfl) (by kernel_rfl) (by kernel_rfl) ?_ ?_
              · refine ⟨⟨true, .none rfl, fun h w => optUndef h, fun zβ za zw zc => ?_⟩, ?_⟩
                · exact ld_24 rfl (zc.kn.ev rfl) (bkeeps zc.below _ _ ((hB176.cell 0).trans rfl)) (bkeeps zc.below _ _ ((hB176.cell 1).trans rfl)) (bkeeps zc.below _ _ ((hB176.cell 2).trans rfl)) (bkeeps zc.below _ _ ((hB176.cell 3).trans rfl)) ⟨_, rfl, Below.refl _ _, optDef zβ rfl⟩
                refine ⟨⟨true, .none rfl, fun h w => optUndef h, fun zβ za zw zc => ?_⟩, ?_⟩
                · exact ld_27 rfl (zc.kn.ev rfl) (bkeeps zc.below _ _ ((hB177.cell 0).trans rfl)) (bkeeps zc.below _ _ ((hB177.cell 1).trans rfl)) ⟨_, rfl, Below.refl _ _, optDef zβ rfl⟩
                refine ⟨⟨true, .none rfl, fun h w => optUndef h, fun zβ za zw zc => ?_⟩, ?_⟩
                · exact ld_27 rfl (zc.kn.ev rfl) (bkeeps zc.below _ _ ((hB178.cell 0).trans rfl)) (bkeeps zc.below _ _ ((hB178.cell 1).trans rfl)) ⟨_, rfl, Below.refl _ _, optDef zβ rfl⟩
                refine ⟨⟨true, .none rfl, fun h w => optUndef h, fun zβ za zw zc => ?_⟩, ?_⟩
                · exact wp_call (by kernel_rfl) rfl (hv3 ((show za.eval (.tmp 101) = za.tmps.getD 101 undef from rfl).trans (optVal (zc.dep 0 101 (by kernel_rfl)) rfl rfl)) ((show za.eval (.tmp 102) = za.tmps.getD 102 undef from rfl).trans (optVal (zc.dep 1 102 (by kernel_rfl)) rfl rfl)) ((show za.eval (.tmp 103) = za.tmps.getD 103 undef from rfl).trans (optVal (zc.dep 2 103 (by kernel_rfl)) rfl rfl))) (lpoAbove_any o (T.into u (pget u.places k).1 s) (T.into u (pget u.places k).1 t) _ _ _ _ zs2 zt2 (hot.below (bstep hb179 zc.below)) (IsT.below (bstep hb180 zc.below) hs2) (IsT.below (bstep hb181 zc.below) ht2)) (fun v w' h => ⟨v, rfl, h.2, optDef zβ h.1⟩)
                refine ⟨⟨true, .none rfl, fun h w => optUndef h, fun zβ za zw zc => ?_⟩, ?_⟩
                · exact wp_move rfl ((show za.eval (.tmp 104) = za.tmps.getD 104 undef from rfl).trans (optVal (zc.dep 3 104 (by kernel_rfl)) rfl rfl)) ⟨_, rfl, Below.refl _ _, optDef zβ rfl⟩
                refine ⟨⟨(true && (o.lcmp (T.into u (pget u.places k).1 s) (T.into u (pget u.places k).1 t) == 3)), .yes (c := (o.lcmp (T.into u (pget u.places k).1 s) (T.into u (pget u.places k).1 t) == 3)) (d := true) rfl (fun v w h => h), fun h w => optUndef h, fun zβ za zw zc => ?_⟩, ?_⟩
                · exact wp_call (by kernel_rfl) rfl (hv0) (wakes_any _) (fun v w' h => ⟨v, rfl, h.2, optDef zβ h.1⟩)
                refine ⟨⟨true, .none rfl, fun h w => optUndef h, fun zβ za zw zc => ?_⟩, ?_⟩
                · exact wp_and rfl ((show za.eval (.tmp 105) = za.tmps.getD 105 undef from rfl).trans (optVal (zc.dep 4 105 (by kernel_rfl)) rfl rfl)) (fun hp => ((show za.eval (.tmp 106) = za.tmps.getD 106 undef from rfl).trans (optVal (zc.dep 5 106 (by kernel_rfl)) rfl (bMk zβ hp)))) ⟨_, rfl, Below.refl _ _, optDef zβ rfl⟩
                refine ⟨⟨true, .none rfl, fun h w => optUndef h, fun zβ za zw zc => ?_⟩, ?_⟩
                · exact wp_assign rfl ((show za.eval (.tmp 107) = za.tmps.getD 107 undef from rfl).trans (optVal (zc.dep 6 107 (by kernel_rfl)) rfl rfl)) ⟨_, rfl, Below.refl _ _, optDef zβ rfl⟩
                exact trivial
              · intro za w182 zh hb183 zu
                have zh := zh.cons (d := 12) (v := .bool (((o.lcmp (T.into u (pget u.places k).1 s) (T.into u (pget u.places k).1 t) == 3) && true))) (optVal (zu 7 12 (by kernel_rfl)) rfl rfl)
                clear zu
                refine (show WE _ [(0, .agg #[.slice a sg.length c]), (1, .agg #[.bool o.lpo, .slice p1 o.prec.length k1, .slice p2 o.weights.length k2, .int .i64 o.var]), (2, .agg #[.int .i64 s.f, .slice es s.args.length ds]), (3, .agg #[.int .i64 t.f, .slice et t.args.length dt]), (4, .agg #[.int .i64 u.f, .slice eu u.args.length du]), (5, .int .i64 n), (6, .pointer (some ⟨g2, 0, none⟩)), (7, .pointer (some ⟨g9, 0, none⟩)), (8, .pointer (some ⟨g17, 0, none⟩)), (9, .pointer (some ⟨g27, 0, none⟩)), (10, .pointer (some ⟨g39, 0, none⟩)), (12, .bool (((o.lcmp (T.into u (pget u.places k).1 s) (T.into u (pget u.places k).1 t) == 3) && true))), (13, .slice qa u.places.length qc), (14, .slice ((P78 k)) ((pget u.places k).1.length) ((PC79 k))), (15, .pointer (some ⟨g90, 0, none⟩)), (17, .pointer (some ⟨g129, 0, none⟩)), (33, .bool (((greatB [s, t, u]) || (!(fitsB sg o [s, t, u]))))), (49, .bool (((((IntKind.i64.wrap ((((Old.T.joinI [] s).length : Nat) : Int) + (((Old.T.joinI [] t).length : Nat) : Int))) : Int) == (0 : Int)) && (((o.lcmp s t) : Int) == (0 : Int))))), (99, .bool ((((greatB [T.into u (pget u.places k).1 s, T.into u (pget u.places k).1 t]) || (!(fitsB sg o [T.into u (pget u.places k).1 s, T.into u (pget u.places k).1 t]))) || (!(o.lcmp s t == 3)))))] w182 _ .normal from ?_) za (zh.sub ⟨rfl, rfl, rfl, rfl, rfl, rfl, rfl, rfl, rfl, rfl, rfl, rfl, rfl, rfl, rfl, rfl, rfl, rfl, rfl, trivial⟩)
                refine WE.next ?_
                refine WC.ret ?_
                refine WE.ret1 rfl rfl ?_
                have hb184 : Below w.heap.size w w182 := (bstep hb179 hb183)
                exact ⟨_, rfl, congrArg Value.bool (by simp [hab]), hb184⟩

end Go.Proofs.Ytlkiabgpnboicaa

namespace Go.Proofs.Ytlkiabgpnboicaa
open Go.RowKit Go.ChangeShapes Go.WideShapes Go.ChangeAt

set_option maxRecDepth 100000 in
theorem lpoWithin_contract (H : Type) (enc : TypeId × Value → H) (W : World) (base : Nat) (args : Array Value) (ds gs : List (DataW H)) (before : List MemPlace)
    (hval : ∀ (j : Nat) t v, Try.f7.params[j]? = some t → args[j]? = some v → Value.okWide Try.prog W .any base t v)
    (hW : DataW.Whole enc Try.prog Try.f7.params.toList Rows.lpoWithinSpec.vars false W args.toList ds gs before) (hk : Rows.uptoSmall H (ds ++ gs) = true) :
    Calls Try.prog 7 args W fun e W' => ∃ v, e = .returned v ∧ Rows.lpoWithinSpec.post enc Try.prog Try.f7 false true false false W args v W' := by
  have hW' := hW
  obtain ⟨p, q, hA0, hV, rfl, hfz, hnd⟩ := hW
  have hA : DataW.TrodAll enc Try.prog W 0 (fun _ => true) true Try.f7.params.toList args.toList ds p := hA0
  rw [Try.params7] at hA hval
  obtain ⟨v0, vs0, d0, ds0, p0, q0, hargs, rfl, rfl, h0, r0⟩ := trodAll_cons hA
  obtain ⟨v1, vs1, d1, ds1, p1, q1, rfl, rfl, rfl, h1, r1⟩ := trodAll_cons r0
  obtain ⟨v2, vs2, d2, ds2, p2, q2, rfl, rfl, rfl, h2, r2⟩ := trodAll_cons r1
  obtain ⟨v3, vs3, d3, ds3, p3, q3, rfl, rfl, rfl, h3, r3⟩ := trodAll_cons r2
  obtain ⟨v4, vs4, d4, ds4, p4, q4, rfl, rfl, rfl, h4, r4⟩ := trodAll_cons r3
  obtain ⟨v5, vs5, d5, ds5, p5, q5, rfl, rfl, rfl, h5, r5⟩ := trodAll_cons r4
  obtain ⟨rfl, rfl, rfl⟩ := trodAll_nil r5
  obtain rfl : args = #[v0, v1, v2, v3, v4, v5] := by cases args; simp_all
  obtain ⟨x0, y0⟩ := arg_Sig (hval 0 35 v0 rfl rfl) h0
  have b0 := bulk_mem hk (d := d0) (by simp)
  obtain ⟨x1, y1⟩ := arg_Od (hval 1 24 v1 rfl rfl) h1
  have b1 := bulk_mem hk (d := d1) (by simp)
  obtain ⟨x2, y2, z2⟩ := arg_T (hval 2 27 v2 rfl rfl) h2
  have b2 := bulk_mem hk (d := d2) (by simp)
  obtain ⟨x3, y3, z3⟩ := arg_T (hval 3 27 v3 rfl rfl) h3
  have b3 := bulk_mem hk (d := d3) (by simp)
  obtain ⟨x4, y4, z4⟩ := arg_T (hval 4 27 v4 rfl rfl) h4
  have b4 := bulk_mem hk (d := d4) (by simp)
  obtain ⟨x5, rfl, y5⟩ := arg_int (hval 5 3 v5 rfl rfl) h5
  have b5 := bulk_mem hk (d := d5) (by simp)
  refine (within_law x0 x1 x2 x3 x4 x5 W v0 v1 v2 v3 v4 (by omega) (by omega) (by omega) y0 y1 y2 y3 y4).mono fun e W' ⟨v, he, hv, hg⟩ => ?_
  subst he hv
  exact ⟨_, rfl, law_post (by kernel_rfl) (readable_all (by kernel_rfl)) Try.underlying4 rfl rfl rfl hW' hg⟩

set_option maxRecDepth 100000 in
theorem lpoWithin_lifted (os : Os) (started : os.Started) (H : Type) (enc : TypeId × Value → H) (F : Stop.Interp) :
    ReturnsInHanded {} Try.checked os 7 .any ((Rows.OpenSpec.upto Rows.lpoWithinSpec).pre6 enc Try.prog Try.f7 Rows.lpoWithinUptoRow.domain false) (((Rows.OpenSpec.upto Rows.lpoWithinSpec).at F).post enc Try.prog Try.f7 false true false false) := by
  refine returnsInHanded_of_cond (C := Try.checked) (s := Rows.OpenSpec.upto Rows.lpoWithinSpec) (k := Rows.uptoSmall) rfl own started (by kernel_rfl) Try.func7
    (OpenSpec.witness (enc := enc) (C := Try.checked) (s := Rows.OpenSpec.upto Rows.lpoWithinSpec) (k := Rows.uptoSmall) rfl false ⟨#[], #[.agg #[.slice none 0 0], .agg #[.bool false, .slice none 0 0, .slice none 0 0, .int .i64 0], .agg #[.int .i64 0, .slice none 0 0], .agg #[.int .i64 0, .slice none 0 0], .agg #[.int .i64 0, .slice none 0 0], .int .i64 0], []⟩ 8 (by kernel_rfl) (by kernel_rfl) (by kernel_rfl)
      (x := ([.agg [.nil], .agg [.lit (.bool false), .nil, .nil, .lit (.int .i64 0)], .agg [.lit (.int .i64 0), .nil], .agg [.lit (.int .i64 0), .nil], .agg [.lit (.int .i64 0), .nil], .lit (.int .i64 0)], [], [])) (by kernel_rfl) rfl (by kernel_rfl)) ?_
  intro W base args ds gs before hval hW _ hk _
  exact lpoWithin_contract H enc W base args ds gs before hval hW hk

theorem lpoWithin_proved : Rows.LpoWithinUptoSaid :=
  OpenClaim.holds_of_cond 7 Try.f7 rfl rfl rfl rfl rfl rfl rfl ⟨rfl, rfl, rfl, rfl, rfl⟩ rfl rfl rfl rfl rfl (by kernel_rfl) Try.func7 (by kernel_rfl)
    (of_decide_eq_true (by kernel_rfl)) (by unfold Func.isWrapper; first | (rw [if_pos (by decide +kernel)]; kernel_rfl) | (rw [if_neg (by decide +kernel)]; exact ⟨rfl, rfl⟩))
    (fun os started H enc _ F => lpoWithin_lifted os started H enc F)

end Go.Proofs.Ytlkiabgpnboicaa
