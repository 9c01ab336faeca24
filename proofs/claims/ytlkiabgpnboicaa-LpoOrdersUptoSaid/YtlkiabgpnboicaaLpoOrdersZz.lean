/- LpoOrders: it is an order: nothing is above itself, the other way round is the other way round, what is above what is above is above, for every input whose reading is of bulk at most 1048576, the law answers true, panics nowhere, and leaves what it was given as it was. -/
import Derived.Test.YtlkiabgpnboicaaMga
import Derived.Test.YtlkiabgpnboicaaMgj
import Derived.Test.YtlkiabgpnboicaaMgk

/- Terms compared and found the same: the document's way. -/
namespace Go.Proofs.Ytlkiabgpnboicaa
open Go.RowKit Go.Sort Go


set_option maxHeartbeats 400000 in
theorem compare_any (s : T) : ∀ (t : T) (w : World) (v u : Value), IsT w s v → IsT w t u →
    Calls Try.prog 30 #[v, u] w fun e w' => e = .returned (.int .i64 (T.cmp s t)) ∧ Below w.heap.size w w' := by
  induction s using T.ind with
  | h f l ih =>
  intro t w v u hv hu
  obtain ⟨g, q⟩ := t
  obtain ⟨⟨hf1, hf2⟩, a, c, rfl, hc, hm, hl⟩ := hv
  obtain ⟨⟨hg1, hg2⟩, a', c', rfl, hc', hm', hq⟩ := hu
  unfold maxLen at hm hm'
  by_cases hfg : f = g
  · have E := Lib.hid (show T.cmp (.mk f l) (.mk g q) = T.cmpL l q by rw [T.cmp, if_neg (by simpa using hfg)])
    have hne : (f != g) = false := by simpa using hfg
    subst hfg
    go_enter Try.func30, Try.ntmps30
    go_wp2_with fail
    go_loopw [5] (fun i wr => ∃ (k : Nat), k ≤ l.length ∧ k ≤ q.length ∧ i = .int .i64 k ∧ Hid (T.cmpL l q = T.cmpL (l.drop k) (q.drop k)) ∧ Below w.heap.size w wr ∧ Box wr w.heap.size [.int .i64 f, .slice a l.length c] ∧ Box wr (w.heap.size + 1) [.int .i64 f, .slice a' q.length c']) (fun i _ => l.length - (intOf i).toNat)
    case atStart => exact ⟨0, Nat.zero_le _, Nat.zero_le _, rfl, rfl, balloc2 _ _ _, (Box.new _ _ _).alloc _, by have := Box.new (w.alloc (.cells #[.int .i64 f, .slice a l.length c] 27)) [.int .i64 f, .slice a' q.length c'] 27; simpa using this⟩
    case round =>
      obtain ⟨k, hk, hkq, rfl, hx, hw, hB1, hB2⟩ := hrel
      obtain ⟨s0, s1⟩ := hB1.two
      obtain ⟨t0, t1⟩ := hB2.two
      by_cases hlt : k < l.length
      · by_cases hlq : k < q.length
        · obtain ⟨b1, o1, a1, c1, rfl, g1, g2, h3⟩ := hl.at_ hw k hlt
          obtain ⟨b2, o2, a2, c2, rfl, g3, g4, h4⟩ := hq.at_ hw k hlq
          have IH := fun w v u => ih l[k] (List.getElem_mem hlt) q[k] w v u
          have q5 := T.cmpL_drop l q k hlt hlq
          have k0 : (0 : Int) ≤ (k : Int) := by omega
          have k1 : (k : Int) < (l.length : Int) := by omega
          have k2 : (k : Int) < (q.length : Int) := by omega
          have r0 := cell_regrown s1
          have r1 := cell_regrown t1
          have r2 := cell_regrown g1
          have r3 := cell_regrown g2
          have r4 := cell_regrown g3
          have r5 := cell_regrown g4
          have Hh3 := Lib.hid h3
          have Hh4 := Lib.hid h4
          have HhB1 := Lib.hid hB1
          have HhB2 := Lib.hid hB2
          have Hhw := Lib.hid hw
          have Hq5 := Lib.hid q5
          have Hhx := Lib.hid hx
          clear h3 h4 hB1 hB2 hw q5 hx
          clear ih hl hq
          by_cases hz : T.cmp l[k] q[k] = 0
          · rw [hz] at IH
            have Hz := Lib.hid hz
            clear hz
            go_wp2_with fail
            refine wp_region_quiet_below (by kernel_rfl) (by kernel_rfl) ?_
            repeat (quiet_step (exact Calls.regrown_of (IH _ _ _ (Hh3.out.below (below_regrown _ _ _)) (Hh4.out.below (below_regrown _ _ _)))))
            refine wpQuiet_nil ?_
            intro _ hw'
            obtain ⟨⟨dq, osq⟩, hw''⟩ := hw'
            subst hw''
            have hbq := below_regrown wr dq osq
            generalize grow (redrawn wr dq) osq = wq at hbq ⊢
            go_wp2_with fail
            go_roundw
            case rel => exact ⟨k + 1, by omega, by omega, by go_num, by unfold Hid; rw [Hhx.out, Hq5.out, if_pos Hz.out], bstep Hhw.out hbq, HhB1.out.below hbq, HhB2.out.below hbq⟩
            case measure => simp [intOf]; omega
          · have hzb : (T.cmp l[k] q[k] != 0) = true := by simpa using hz
            have Hz := Lib.hid hz
            clear hz
            go_wp2_with fail
            refine wp_region_quiet_below (by kernel_rfl) (by kernel_rfl) ?_
            repeat (quiet_step (exact Calls.regrown_of (IH _ _ _ (Hh3.out.below (below_regrown _ _ _)) (Hh4.out.below (below_regrown _ _ _)))))
            refine wpQuiet_nil ?_
            intro _ hw'
            obtain ⟨⟨dq, osq⟩, hw''⟩ := hw'
            subst hw''
            have hbq := below_regrown wr dq osq
            generalize grow (redrawn wr dq) osq = wq at hbq ⊢
            go_wp2_with fail
            go_ret
            exact ⟨rint (by rw [E.out, Hhx.out, Hq5.out, if_neg Hz.out]), bstep Hhw.out hbq⟩
        · have Q := Lib.hid (show T.cmpL (l.drop k) (q.drop k) = 1 from T.cmpL_long l q k hlt (by omega))
          have Hhw := Lib.hid hw
          have Hhx := Lib.hid hx
          clear hw hx
          clear ih hl hq
          go_wp2_with fail
          go_ret
          exact ⟨rint (by rw [E.out, Hhx.out, Q.out]), Hhw.out⟩
      · obtain rfl : k = l.length := by omega
        by_cases hlq : l.length < q.length
        · have Q := Lib.hid (show T.cmpL (l.drop l.length) (q.drop l.length) = -1 from T.cmpL_short l q hlq)
          have Hhw := Lib.hid hw
          have Hhx := Lib.hid hx
          clear hw hx
          clear ih hl hq
          go_wp2_with fail
          go_ret
          exact ⟨rint (by rw [E.out, Hhx.out, Q.out]), Hhw.out⟩
        · have Q := Lib.hid (show T.cmpL (l.drop l.length) (q.drop l.length) = 0 from T.cmpL_end l q (by omega))
          have Hhw := Lib.hid hw
          have Hhx := Lib.hid hx
          clear hw hx
          clear ih hl hq
          go_wp2_with fail
          go_ret
          exact ⟨rint (by rw [E.out, Hhx.out, Q.out]), Hhw.out⟩
  · have hne : (f != g) = true := by simpa using hfg
    by_cases hf : f < 0
    · by_cases hg : g < 0
      · by_cases hlt : g < f
        · have E := Lib.hid (show T.cmp (.mk f l) (.mk g q) = -1 by rw [T.cmp, if_pos hfg, if_pos ⟨hf, hg⟩, if_pos hlt])
          go_enter Try.func30, Try.ntmps30
          go_wp2_with fail
          go_ret
          exact ⟨rint E.out, balloc2 _ _ _⟩
        · have E := Lib.hid (show T.cmp (.mk f l) (.mk g q) = 1 by rw [T.cmp, if_pos hfg, if_pos ⟨hf, hg⟩, if_neg hlt])
          go_enter Try.func30, Try.ntmps30
          go_wp2_with fail
          go_ret
          exact ⟨rint E.out, balloc2 _ _ _⟩
      · have hlt : f < g := by omega
        have E := Lib.hid (show T.cmp (.mk f l) (.mk g q) = -1 by rw [T.cmp, if_pos hfg, if_neg (by omega), if_pos hlt])
        go_enter Try.func30, Try.ntmps30
        go_wp2_with fail
        go_ret
        exact ⟨rint E.out, balloc2 _ _ _⟩
    · by_cases hlt : f < g
      · have E := Lib.hid (show T.cmp (.mk f l) (.mk g q) = -1 by rw [T.cmp, if_pos hfg, if_neg (by omega), if_pos hlt])
        go_enter Try.func30, Try.ntmps30
        go_wp2_with fail
        go_ret
        exact ⟨rint E.out, balloc2 _ _ _⟩
      · have E := Lib.hid (show T.cmp (.mk f l) (.mk g q) = 1 by rw [T.cmp, if_pos hfg, if_neg (by omega), if_neg hlt])
        go_enter Try.func30, Try.ntmps30
        go_wp2_with fail
        go_ret
        exact ⟨rint E.out, balloc2 _ _ _⟩

theorem rsame_any (s t : T) (w : World) (v u : Value) (hv : IsT w s v) (hu : IsT w t u) :
    Calls Try.prog 15 #[v, u] w fun e w' => e = .returned (.bool (T.same s t)) ∧ Below w.heap.size w w' := by
  obtain ⟨_, a, c, rfl, hc, hm, _⟩ := hv.form
  obtain ⟨_, a', c', rfl, hc', hm', _⟩ := hu.form
  unfold maxLen at hm hm'
  have E := T.cmp_same s t
  have C := fun w v u => compare_any s t w v u
  cases hs : T.same s t with
  | true =>
    rw [hs, if_pos rfl] at E
    rw [E] at C
    have Hhv := Lib.hid hv
    have Hhu := Lib.hid hu
    clear hv hu
    clear hs E
    go_enter Try.func15, Try.ntmps15
    go_wp2_with (go_at_call 30; refine (C _ _ _ (Hhv.out.below (balloc2 _ _ _)) (Hhu.out.below (balloc2 _ _ _))).mono ?_; rintro e w' ⟨rfl, hb'⟩)
    go_ret
    exact ⟨rfl, bstep (balloc2 _ _ _) hb'⟩
  | false =>
    rw [hs] at E
    have E' : (T.cmp s t == 0) = false := by simpa using E
    have Hhv := Lib.hid hv
    have Hhu := Lib.hid hu
    clear hv hu
    clear hs E
    go_enter Try.func15, Try.ntmps15
    go_wp2_with (go_at_call 30; refine (C _ _ _ (Hhv.out.below (balloc2 _ _ _)) (Hhu.out.below (balloc2 _ _ _))).mono ?_; rintro e w' ⟨rfl, hb'⟩)
    go_ret
    exact ⟨rfl, bstep (balloc2 _ _ _) hb'⟩

end Go.Proofs.Ytlkiabgpnboicaa

/- The walk through the law LpoOrders. -/
namespace Go.Proofs.Ytlkiabgpnboicaa
open Go.RowKit Go

set_option maxRecDepth 100000 in
theorem orders_any (sg : List Sy) (o : Od) (s t u : T) (w : World) (vs vo v1 v2 v3 : Value) (zs : s.size ≤ 4294967296) (zt : t.size ≤ 4294967296) (zu : u.size ≤ 4294967296) (hst : IsSig w sg vs) (hot : IsOd w o vo) (hs : IsT w s v1) (ht : IsT w t v2) (hu : IsT w u v3) :
    Calls Try.prog 4 #[vs, vo, v1, v2, v3] w (Ret fun v' w' => v' = .bool true ∧ Below w.heap.size w w') := by
  have h0 := hst
  have h1 := hot
  obtain ⟨p1, p2, k1, k2, rfl, _, _, _, _, hp, _, _⟩ := h1
  obtain ⟨a, c, rfl, _, _, _⟩ := h0
  obtain ⟨_, es, ds, rfl, _, _, _⟩ := hs.form
  obtain ⟨_, et, dt, rfl, _, _, _⟩ := ht.form
  obtain ⟨_, eu, du, rfl, _, _, _⟩ := hu.form
  refine Calls.walk (l := [.agg #[.slice a sg.length c], .agg #[.bool o.lpo, .slice p1 o.prec.length k1, .slice p2 o.weights.length k2, .int .i64 o.var], .agg #[.int .i64 s.f, .slice es s.args.length ds], .agg #[.int .i64 t.f, .slice et t.args.length dt], .agg #[.int .i64 u.f, .slice eu u.args.length du]]) Try.func4 rfl (by kernel_rfl) ?_
  refine WC.sub (K' := [(0, .agg #[.slice a sg.length c]), (1, .agg #[.bool o.lpo, .slice p1 o.prec.length k1, .slice p2 o.weights.length k2, .int .i64 o.var]), (2, .agg #[.int .i64 s.f, .slice es s.args.length ds]), (3, .agg #[.int .i64 t.f, .slice et t.args.length dt]), (4, .agg #[.int .i64 u.f, .slice eu u.args.length du])]) ⟨rfl, rfl, rfl, rfl, rfl, trivial⟩ ?_
  refine WC.seq ?_
  refine WC.region ?_
  refine WL.step (post := NewBlk w 35 #[.slice a sg.length c]) rfl rfl rfl (fun za zC zh zk => box_35 rfl (zh.ev rfl) (zk _ _ (newBlk _ _ _))) ?_
  rintro _ w1 ⟨g2, rfl, hg3, hB4, hb5, hz6⟩
  have hl7 : w.heap.size ≤ g2 := by omega
  refine WL.step (post := NewBlk w1 24 #[.bool o.lpo, .slice p1 o.prec.length k1, .slice p2 o.weights.length k2, .int .i64 o.var]) rfl rfl rfl (fun za zC zh zk => box_24 rfl (zh.ev rfl) (zk _ _ (newBlk _ _ _))) ?_
  rintro _ w8 ⟨g9, rfl, hg10, hB11, hb12, hz13⟩
  have hl14 : g2 < g9 := by have z1 := hB4.lt; omega
  have hl15 : w.heap.size ≤ g9 := by have z2 := (hb5).size; omega
  refine WL.step (post := NewBlk w8 27 #[.int .i64 s.f, .slice es s.args.length ds]) rfl rfl rfl (fun za zC zh zk => box_27 rfl (zh.ev rfl) (zk _ _ (newBlk _ _ _))) ?_
  rintro _ w16 ⟨g17, rfl, hg18, hB19, hb20, hz21⟩
  have hl22 : g2 < g17 := by have z1 := hB4.lt; have z2 := (hb12).size; omega
  have hl23 : g9 < g17 := by have z1 := hB11.lt; omega
  have hb24 : Below w.heap.size w w8 := (bstep hb5 hb12)
  have hl25 : w.heap.size ≤ g17 := by have z2 := (hb24).size; omega
  refine WL.step (post := NewBlk w16 27 #[.int .i64 t.f, .slice et t.args.length dt]) rfl rfl rfl (fun za zC zh zk => box_27 rfl (zh.ev rfl) (zk _ _ (newBlk _ _ _))) ?_
  rintro _ w26 ⟨g27, rfl, hg28, hB29, hb30, hz31⟩
  have hb32 : Below w1.heap.size w1 w16 := (bstep hb12 hb20)
  have hl33 : g2 < g27 := by have z1 := hB4.lt; have z2 := (hb32).size; omega
  have hl34 : g9 < g27 := by have z1 := hB11.lt; have z2 := (hb20).size; omega
  have hl35 : g17 < g27 := by have z1 := hB19.lt; omega
  have hb36 : Below w.heap.size w w16 := (bstep hb5 hb32)
  have hl37 : w.heap.size ≤ g27 := by have z2 := (hb36).size; omega
  refine WL.step (post := NewBlk w26 27 #[.int .i64 u.f, .slice eu u.args.length du]) rfl rfl rfl (fun za zC zh zk => box_27 rfl (zh.ev rfl) (zk _ _ (newBlk _ _ _))) ?_
  rintro _ w38 ⟨g39, rfl, hg40, hB41, hb42, hz43⟩
  have hb44 : Below w1.heap.size w1 w26 := (bstep hb32 hb30)
  have hl45 : g2 < g39 := by have z1 := hB4.lt; have z2 := (hb44).size; omega
  have hb46 : Below w8.heap.size w8 w26 := (bstep hb20 hb30)
  have hl47 : g9 < g39 := by have z1 := hB11.lt; have z2 := (hb46).size; omega
  have hl48 : g17 < g39 := by have z1 := hB19.lt; have z2 := (hb30).size; omega
  have hl49 : g27 < g39 := by have z1 := hB29.lt; omega
  have hb50 : Below w.heap.size w w26 := (bstep hb5 hb44)
  have hl51 : w.heap.size ≤ g39 := by have z2 := (hb50).size; omega
  refine WL.val (.bool false) rfl rfl rfl (fun za zC zh zk => wp_assign rfl (zh.ev rfl) zk) ?_
  refine WL.nil (WE.sub (K' := [(0, .agg #[.slice a sg.length c]), (1, .agg #[.bool o.lpo, .slice p1 o.prec.length k1, .slice p2 o.weights.length k2, .int .i64 o.var]), (2, .agg #[.int .i64 s.f, .slice es s.args.length ds]), (3, .agg #[.int .i64 t.f, .slice et t.args.length dt]), (4, .agg #[.int .i64 u.f, .slice eu u.args.length du]), (5, .pointer (some ⟨g2, 0, none⟩)), (6, .pointer (some ⟨g9, 0, none⟩)), (7, .pointer (some ⟨g17, 0, none⟩)), (8, .pointer (some ⟨g27, 0, none⟩)), (9, .pointer (some ⟨g39, 0, none⟩)), (10, .bool false)]) ⟨rfl, rfl, rfl, rfl, rfl, rfl, rfl, rfl, rfl, rfl, rfl, trivial⟩ ?_)
  refine WE.next ?_
  refine WC.seq ?_
  refine WC.seq ?_
  have hb53 : Below w16.heap.size w16 w38 := (bstep hb30 hb42)
  have hB52 := hB19.below hb53
  have hB54 := hB29.below hb42
  have hb55 : Below w.heap.size w w38 := (bstep hb36 hb53)
  have hb57 : Below w1.heap.size w1 w38 := (bstep hb32 hb53)
  have hB56 := hB4.below hb57
  have hb59 : Below w8.heap.size w8 w38 := (bstep hb20 hb53)
  have hB58 := hB11.below hb59
  refine WC.opt [(true, .val (.agg #[.int .i64 s.f, .slice es s.args.length ds])), (true, .val (.agg #[.int .i64 t.f, .slice et t.args.length dt])), (true, .val (.agg #[.int .i64 u.f, .slice eu u.args.length du])), (true, .mem (TsOf [s, t, u]) (fun v w w' hb h => TsOf.bel h hb)), (true, .val (.bool ((greatB [s, t, u])))), (true, .val (.bool ((greatB [s, t, u])))), ((true && !(greatB [s, t, u])), .val (.agg #[.slice a sg.length c])), ((true && !(greatB [s, t, u])), .val (.agg #[.bool o.lpo, .slice p1 o.prec.length k1, .slice p2 o.weights.length k2, .int .i64 o.var])), ((true && !(greatB [s, t, u])), .val (.agg #[.int .i64 s.f, .slice es s.args.length ds])), ((true && !(greatB [s, t, u])), .val (.agg #[.int .i64 t.f, .slice et t.args.length dt])), ((true && !(greatB [s, t, u])), .val (.agg #[.int .i64 u.f, .slice eu u.args.length du])), ((true && !(greatB [s, t, u])), .mem (TsOf [s, t, u]) (fun v w w' hb h => TsOf.bel h hb)), ((true && !(greatB [s, t, u])), .val (.bool ((fitsB sg o [s, t, u])))), ((true && !(greatB [s, t, u])), .val (.bool ((!(fitsB sg o [s, t, u]))))), (true, .val (.bool (((greatB [s, t, u]) || (!(fitsB sg o [s, t, u]))))))] [(0, .agg #[.slice a sg.length c]), (1, .agg #[.bool o.lpo, .slice p1 o.prec.length k1, .slice p2 o.weights.length k2, .int .i64 o.var]), (2, .agg #[.int .i64 s.f, .slice es s.args.length ds]), (3, .agg #[.int .i64 t.f, .slice et t.args.length dt]), (4, .agg #[.int .i64 u.f, .slice eu u.args.length du]), (5, .pointer (some ⟨g2, 0, none⟩)), (6, .pointer (some ⟨g9, 0, none⟩)), (7, .pointer (some ⟨g17, 0, none⟩)), (8, .pointer (some ⟨g27, 0, none⟩)), (9, .pointer (some ⟨g39, 0, none⟩)), (10, .bool false)] ⟨rfl, rfl, rfl, rfl, rfl, rfl, rfl, rfl, rfl, rfl, rfl, trivial⟩ (by kernel_rfl) (by kernel_rfl) (by kernel_rfl) ?_ ?_
  · refine ⟨⟨true, .none rfl, fun h w => optUndef h, fun zβ za zw zc => ?_⟩, ?_⟩
    · exact ld_27 rfl (zc.kn.ev rfl) (bkeeps zc.below _ _ ((hB52.cell 0).trans rfl)) (bkeeps zc.below _ _ ((hB52.cell 1).trans rfl)) ⟨_, rfl, Below.refl _ _, optDef zβ rfl⟩
    refine ⟨⟨true, .none rfl, fun h w => optUndef h, fun zβ za zw zc => ?_⟩, ?_⟩
    · exact ld_27 rfl (zc.kn.ev rfl) (bkeeps zc.below _ _ ((hB54.cell 0).trans rfl)) (bkeeps zc.below _ _ ((hB54.cell 1).trans rfl)) ⟨_, rfl, Below.refl _ _, optDef zβ rfl⟩
    refine ⟨⟨true, .none rfl, fun h w => optUndef h, fun zβ za zw zc => ?_⟩, ?_⟩
    · exact ld_27 rfl (zc.kn.ev rfl) (bkeeps zc.below _ _ ((hB41.cell 0).trans rfl)) (bkeeps zc.below _ _ ((hB41.cell 1).trans rfl)) ⟨_, rfl, Below.refl _ _, optDef zβ rfl⟩
    refine ⟨⟨true, .none rfl, fun h w => optUndef h, fun zβ za zw zc => ?_⟩, ?_⟩
    · exact row_25_3 rfl ((show za.eval (.tmp 11) = za.tmps.getD 11 undef from rfl).trans (optVal (zc.dep 0 11 (by kernel_rfl)) rfl rfl)) ((show za.eval (.tmp 12) = za.tmps.getD 12 undef from rfl).trans (optVal (zc.dep 1 12 (by kernel_rfl)) rfl rfl)) ((show za.eval (.tmp 13) = za.tmps.getD 13 undef from rfl).trans (optVal (zc.dep 2 13 (by kernel_rfl)) rfl rfl)) ⟨_, rfl, balloc _ _, optDef zβ (ts3 (IsT.below (bstep hb55 zc.below) hs) (IsT.below (bstep hb55 zc.below) ht) (IsT.below (bstep hb55 zc.below) hu))⟩
    refine ⟨⟨true, .none rfl, fun h w => optUndef h, fun zβ za zw zc => ?_⟩, ?_⟩
    · exact wp_call (by kernel_rfl) rfl (hv1 (show za.eval (.tmp 14) = za.tmps.getD 14 undef from rfl)) (great_ts (optMem (zc.dep 3 14 (by kernel_rfl)) rfl rfl)) (fun v w' h => ⟨v, rfl, h.2, optDef zβ h.1⟩)
    refine ⟨⟨true, .none rfl, fun h w => optUndef h, fun zβ za zw zc => ?_⟩, ?_⟩
    · exact wp_move rfl ((show za.eval (.tmp 15) = za.tmps.getD 15 undef from rfl).trans (optVal (zc.dep 4 15 (by kernel_rfl)) rfl rfl)) ⟨_, rfl, Below.refl _ _, optDef zβ rfl⟩
    refine ⟨⟨(true && !(greatB [s, t, u])), .no (c := (greatB [s, t, u])) (d := true) rfl (fun v w h => h), fun h w => optUndef h, fun zβ za zw zc => ?_⟩, ?_⟩
    · exact ld_35 rfl (zc.kn.ev rfl) (bkeeps zc.below _ _ ((hB56.cell 0).trans rfl)) ⟨_, rfl, Below.refl _ _, optDef zβ rfl⟩
    refine ⟨⟨(true && !(greatB [s, t, u])), .no (c := (greatB [s, t, u])) (d := true) rfl (fun v w h => h), fun h w => optUndef h, fun zβ za zw zc => ?_⟩, ?_⟩
    · exact ld_24 rfl (zc.kn.ev rfl) (bkeeps zc.below _ _ ((hB58.cell 0).trans rfl)) (bkeeps zc.below _ _ ((hB58.cell 1).trans rfl)) (bkeeps zc.below _ _ ((hB58.cell 2).trans rfl)) (bkeeps zc.below _ _ ((hB58.cell 3).trans rfl)) ⟨_, rfl, Below.refl _ _, optDef zβ rfl⟩
    refine ⟨⟨(true && !(greatB [s, t, u])), .no (c := (greatB [s, t, u])) (d := true) rfl (fun v w h => h), fun h w => optUndef h, fun zβ za zw zc => ?_⟩, ?_⟩
    · exact ld_27 rfl (zc.kn.ev rfl) (bkeeps zc.below _ _ ((hB52.cell 0).trans rfl)) (bkeeps zc.below _ _ ((hB52.cell 1).trans rfl)) ⟨_, rfl, Below.refl _ _, optDef zβ rfl⟩
    refine ⟨⟨(true && !(greatB [s, t, u])), .no (c := (greatB [s, t, u])) (d := true) rfl (fun v w h => h), fun h w => optUndef h, fun zβ za zw zc => ?_⟩, ?_⟩
    · exact ld_27 rfl (zc.kn.ev rfl) (bkeeps zc.below _ _ ((hB54.cell 0).trans rfl)) (bkeeps zc.below _ _ ((hB54.cell 1).trans rfl)) ⟨_, rfl, Below.refl _ _, optDef zβ rfl⟩
    refine ⟨⟨(true && !(greatB [s, t, u])), .no (c := (greatB [s, t, u])) (d := true) rfl (fun v w h => h), fun h w => optUndef h, fun zβ za zw zc => ?_⟩, ?_⟩
    · exact ld_27 rfl (zc.kn.ev rfl) (bkeeps zc.below _ _ ((hB41.cell 0).trans rfl)) (bkeeps zc.below _ _ ((hB41.cell 1).trans rfl)) ⟨_, rfl, Below.refl _ _, optDef zβ rfl⟩
    refine ⟨⟨(true && !(greatB [s, t, u])), .no (c := (greatB [s, t, u])) (d := true) rfl (fun v w h => h), fun h w => optUndef h, fun zβ za zw zc => ?_⟩, ?_⟩
    · exact row_25_3 rfl ((show za.eval (.tmp 19) = za.tmps.getD 19 undef from rfl).trans (optVal (zc.dep 8 19 (by kernel_rfl)) rfl zβ)) ((show za.eval (.tmp 20) = za.tmps.getD 20 undef from rfl).trans (optVal (zc.dep 9 20 (by kernel_rfl)) rfl zβ)) ((show za.eval (.tmp 21) = za.tmps.getD 21 undef from rfl).trans (optVal (zc.dep 10 21 (by kernel_rfl)) rfl zβ)) ⟨_, rfl, balloc _ _, optDef zβ (ts3 (IsT.below (bstep hb55 zc.below) hs) (IsT.below (bstep hb55 zc.below) ht) (IsT.below (bstep hb55 zc.below) hu))⟩
    refine ⟨⟨(true && !(greatB [s, t, u])), .no (c := (greatB [s, t, u])) (d := true) rfl (fun v w h => h), fun h w => optUndef h, fun zβ za zw zc => ?_⟩, ?_⟩
    · exact wp_call (by kernel_rfl) rfl (hv3 ((show za.eval (.tmp 17) = za.tmps.getD 17 undef from rfl).trans (optVal (zc.dep 6 17 (by kernel_rfl)) rfl zβ)) ((show za.eval (.tmp 18) = za.tmps.getD 18 undef from rfl).trans (optVal (zc.dep 7 18 (by kernel_rfl)) rfl zβ)) (show za.eval (.tmp 22) = za.tmps.getD 22 undef from rfl)) (fits_ts (by intro x hx; simp only [List.mem_cons, List.not_mem_nil, or_false] at hx; rcases hx with rfl | rfl | rfl; exact zs; exact zt; exact zu) (IsSig.below (bstep hb55 zc.below) hst) (hot.below (bstep hb55 zc.below)) (optMem (zc.dep 11 22 (by kernel_rfl)) rfl zβ)) (fun v w' h => ⟨v, rfl, h.2, optDef zβ h.1⟩)
    refine ⟨⟨(true && !(greatB [s, t, u])), .no (c := (greatB [s, t, u])) (d := true) rfl (fun v w h => h), fun h w => optUndef h, fun zβ za zw zc => ?_⟩, ?_⟩
    · exact wp_not rfl ((show za.eval (.tmp 23) = za.tmps.getD 23 undef from rfl).trans (optVal (zc.dep 12 23 (by kernel_rfl)) rfl zβ)) ⟨_, rfl, Below.refl _ _, optDef zβ rfl⟩
    refine ⟨⟨true, .none rfl, fun h w => optUndef h, fun zβ za zw zc => ?_⟩, ?_⟩
    · exact wp_or rfl ((show za.eval (.tmp 16) = za.tmps.getD 16 undef from rfl).trans (optVal (zc.dep 5 16 (by kernel_rfl)) rfl rfl)) (fun hp => ((show za.eval (.tmp 24) = za.tmps.getD 24 undef from rfl).trans (optVal (zc.dep 13 24 (by kernel_rfl)) rfl (bMkN zβ hp)))) ⟨_, rfl, Below.refl _ _, optDef zβ rfl⟩
    exact trivial
  · intro za w60 zh hb61 zu
    have zh := zh.cons (d := 25) (v := .bool (((greatB [s, t, u]) || (!(fitsB sg o [s, t, u]))))) (optVal (zu 14 25 (by kernel_rfl)) rfl rfl)
    clear zu
    refine (show WE _ [(0, .agg #[.slice a sg.length c]), (1, .agg #[.bool o.lpo, .slice p1 o.prec.length k1, .slice p2 o.weights.length k2, .int .i64 o.var]), (2, .agg #[.int .i64 s.f, .slice es s.args.length ds]), (3, .agg #[.int .i64 t.f, .slice et t.args.length dt]), (4, .agg #[.int .i64 u.f, .slice eu u.args.length du]), (5, .pointer (some ⟨g2, 0, none⟩)), (6, .pointer (some ⟨g9, 0, none⟩)), (7, .pointer (some ⟨g17, 0, none⟩)), (8, .pointer (some ⟨g27, 0, none⟩)), (9, .pointer (some ⟨g39, 0, none⟩)), (10, .bool false), (25, .bool (((greatB [s, t, u]) || (!(fitsB sg o [s, t, u])))))] w60 _ .normal from ?_) za (zh.sub ⟨rfl, rfl, rfl, rfl, rfl, rfl, rfl, rfl, rfl, rfl, rfl, rfl, trivial⟩)
    refine WE.next ?_
    refine WC.cond rfl (fun h62 => ?_) (fun h62 => ?_)
    · have h62 : ((greatB [s, t, u]) = true) ∨ (¬ ((fitsB sg o [s, t, u]) = true)) := by simpa using h62
      refine WC.seq ?_
      refine WC.region ?_
      refine WL.call rfl rfl rfl (fun za zh zC => wp_call (by kernel_rfl) rfl (hv0)) (wakes_any _) ?_
      rintro _ w63 ⟨rfl, hbw⟩
      refine WL.val (.bool true) rfl rfl rfl (fun za zC zh zk => wp_assign rfl (zh.ev rfl) zk) ?_
      refine WL.nil (WE.sub (K' := [(0, .agg #[.slice a sg.length c]), (1, .agg #[.bool o.lpo, .slice p1 o.prec.length k1, .slice p2 o.weights.length k2, .int .i64 o.var]), (2, .agg #[.int .i64 s.f, .slice es s.args.length ds]), (3, .agg #[.int .i64 t.f, .slice et t.args.length dt]), (4, .agg #[.int .i64 u.f, .slice eu u.args.length du]), (5, .pointer (some ⟨g2, 0, none⟩)), (6, .pointer (some ⟨g9, 0, none⟩)), (7, .pointer (some ⟨g17, 0, none⟩)), (8, .pointer (some ⟨g27, 0, none⟩)), (9, .pointer (some ⟨g39, 0, none⟩)), (10, .bool true), (25, .bool (((greatB [s, t, u]) || (!(fitsB sg o [s, t, u])))))]) ⟨rfl, rfl, rfl, rfl, rfl, rfl, rfl, rfl, rfl, rfl, rfl, rfl, trivial⟩ ?_)
      refine WE.next ?_
      refine WC.ret ?_
      refine WE.thenRet ?_
      refine WE.ret1 rfl rfl ?_
      have hb64 : Below w.heap.size w w63 := (bstep (bstep hb55 hb61) hbw)
      exact ⟨_, rfl, congrArg Value.bool (rfl), hb64⟩
    · have h62 : ¬ (((greatB [s, t, u]) = true) ∨ (¬ ((fitsB sg o [s, t, u]) = true))) := by simpa using h62
      have hF := fitsB_of (sg := sg) (o := o) (l := [s, t, u]) (by have z := h62; simp at z; exact z.2)
      have ks := Od.lknown hF.2.1 (hF.2.2 s (by simp))
      have kt := Od.lknown hF.2.1 (hF.2.2 t (by simp))
      have ku := Od.lknown hF.2.1 (hF.2.2 u (by simp))
      refine WC.skip ?_
      refine WE.next ?_
      refine WC.seq ?_
      refine WC.seq ?_
      have hB65 := hB58.below hb61
      have hB66 := hB52.below hb61
      have hb67 : Below w.heap.size w w60 := (bstep hb55 hb61)
      have hB68 := hB54.below hb61
      refine WC.opt [(true, .val (.agg #[.bool o.lpo, .slice p1 o.prec.length k1, .slice p2 o.weights.length k2, .int .i64 o.var])), (true, .val (.agg #[.int .i64 s.f, .slice es s.args.length ds])), (true, .val (.agg #[.int .i64 s.f, .slice es s.args.length ds])), (true, .val (.int .i64 ((o.lcmp s s)))), (true, .val (.bool ((((o.lcmp s s) : Int) != (2 : Int))))), (true, .val (.bool ((((o.lcmp s s) : Int) != (2 : Int))))), ((true && !(((o.lcmp s s) : Int) != (2 : Int))), .val (.agg #[.bool o.lpo, .slice p1 o.prec.length k1, .slice p2 o.weights.length k2, .int .i64 o.var])), ((true && !(((o.lcmp s s) : Int) != (2 : Int))), .val (.agg #[.int .i64 t.f, .slice et t.args.length dt])), ((true && !(((o.lcmp s s) : Int) != (2 : Int))), .val (.agg #[.int .i64 s.f, .slice es s.args.length ds])), ((true && !(((o.lcmp s s) : Int) != (2 : Int))), .val (.int .i64 ((o.lcmp t s)))), ((true && !(((o.lcmp s s) : Int) != (2 : Int))), .val (.agg #[.bool o.lpo, .slice p1 o.prec.length k1, .slice p2 o.weights.length k2, .int .i64 o.var])), ((true && !(((o.lcmp s s) : Int) != (2 : Int))), .val (.agg #[.int .i64 s.f, .slice es s.args.length ds])), ((true && !(((o.lcmp s s) : Int) != (2 : Int))), .val (.agg #[.int .i64 t.f, .slice et t.args.length dt])), ((true && !(((o.lcmp s s) : Int) != (2 : Int))), .val (.int .i64 ((o.lcmp s t)))), ((true && !(((o.lcmp s s) : Int) != (2 : Int))), .val (.int .i64 ((turned (o.lcmp s t))))), ((true && !(((o.lcmp s s) : Int) != (2 : Int))), .val (.bool ((((o.lcmp t s) : Int) != ((turned (o.lcmp s t)) : Int))))), (true, .val (.bool (((((o.lcmp s s) : Int) != (2 : Int)) || (((o.lcmp t s) : Int) != ((turned (o.lcmp s t)) : Int)))))), (true, .val (.bool (((((o.lcmp s s) : Int) != (2 : Int)) || (((o.lcmp t s) : Int) != ((turned (o.lcmp s t)) : Int)))))), ((true && !((((o.lcmp s s) : Int) != (2 : Int)) || (((o.lcmp t s) : Int) != ((turned (o.lcmp s t)) : Int)))), .val (.agg #[.bool o.lpo, .slice p1 o.prec.length k1, .slice p2 o.weights.length k2, .int .i64 o.var])), ((true && !((((o.lcmp s s) : Int) != (2 : Int)) || (((o.lcmp t s) : Int) != ((turned (o.lcmp s t)) : Int)))), .val (.agg #[.int .i64 s.f, .slice es s.args.length ds])), ((true && !((((o.lcmp s s) : Int) != (2 : Int)) || (((o.lcmp t s) : Int) != ((turned (o.lcmp s t)) : Int)))), .val (.agg #[.int .i64 t.f, .slice et t.args.length dt])), ((true && !((((o.lcmp s s) : Int) != (2 : Int)) || (((o.lcmp t s) : Int) != ((turned (o.lcmp s t)) : Int)))), .val (.int .i64 ((o.lcmp s t)))), ((true && !((((o.lcmp s s) : Int) != (2 : Int)) || (((o.lcmp t s) : Int) != ((turned (o.lcmp s t)) : Int)))), .val (.bool ((((o.lcmp s t) : Int) == (2 : Int))))), ((true && !((((o.lcmp s s) : Int) != (2 : Int)) || (((o.lcmp t s) : Int) != ((turned (o.lcmp s t)) : Int)))), .val (.agg #[.int .i64 s.f, .slice es s.args.length ds])), ((true && !((((o.lcmp s s) : Int) != (2 : Int)) || (((o.lcmp t s) : Int) != ((turned (o.lcmp s t)) : Int)))), .val (.agg #[.int .i64 t.f, .slice et t.args.length dt])), ((true && !((((o.lcmp s s) : Int) != (2 : Int)) || (((o.lcmp t s) : Int) != ((turned (o.lcmp s t)) : Int)))), .val (.bool ((T.same s t)))), ((true && !((((o.lcmp s s) : Int) != (2 : Int)) || (((o.lcmp t s) : Int) != ((turned (o.lcmp s t)) : Int)))), .val (.bool (((((o.lcmp s t) : Int) == (2 : Int)) != (T.same s t))))), (true, .val (.bool ((((((o.lcmp s s) : Int) != (2 : Int)) || (((o.lcmp t s) : Int) != ((turned (o.lcmp s t)) : Int))) || ((((o.lcmp s t) : Int) == (2 : Int)) != (T.same s t))))))] [(0, .agg #[.slice a sg.length c]), (1, .agg #[.bool o.lpo, .slice p1 o.prec.length k1, .slice p2 o.weights.length k2, .int .i64 o.var]), (2, .agg #[.int .i64 s.f, .slice es s.args.length ds]), (3, .agg #[.int .i64 t.f, .slice et t.args.length dt]), (4, .agg #[.int .i64 u.f, .slice eu u.args.length du]), (5, .pointer (some ⟨g2, 0, none⟩)), (6, .pointer (some ⟨g9, 0, none⟩)), (7, .pointer (some ⟨g17, 0, none⟩)), (8, .pointer (some ⟨g27, 0, none⟩)), (9, .pointer (some ⟨g39, 0, none⟩)), (10, .bool false), (25, .bool (((greatB [s, t, u]) || (!(fitsB sg o [s, t, u])))))] ⟨rfl, rfl, rfl, rfl, rfl, rfl, rfl, rfl, rfl, rfl, rfl, rfl, trivial⟩ (by kernel_rfl) (by kernel_rfl) (by kernel_rfl) ?_ ?_
      · refine ⟨⟨true, .none rfl, fun h w => optUndef h, fun zβ za zw zc => ?_⟩, ?_⟩
        · exact ld_24 rfl (zc.kn.ev rfl) (bkeeps zc.below _ _ ((hB65.cell 0).trans rfl)) (bkeeps zc.below _ _ ((hB65.cell 1).trans rfl)) (bkeeps zc.below _ _ ((hB65.cell 2).trans rfl)) (bkeeps zc.below _ _ ((hB65.cell 3).trans rfl)) ⟨_, rfl, Below.refl _ _, optDef zβ rfl⟩
        refine ⟨⟨true, .none rfl, fun h w => optUndef h, fun zβ za zw zc => ?_⟩, ?_⟩
        · exact ld_27 rfl (zc.kn.ev rfl) (bkeeps zc.below _ _ ((hB66.cell 0).trans rfl)) (bkeeps zc.below _ _ ((hB66.cell 1).trans rfl)) ⟨_, rfl, Below.refl _ _, optDef zβ rfl⟩
        refine ⟨⟨true, .none rfl, fun h w => optUndef h, fun zβ za zw zc => ?_⟩, ?_⟩
        · exact ld_27 rfl (zc.kn.ev rfl) (bkeeps zc.below _ _ ((hB66.cell 0).trans rfl)) (bkeeps zc.below _ _ ((hB66.cell 1).trans rfl)) ⟨_, rfl, Below.refl _ _, optDef zβ rfl⟩
        refine ⟨⟨true, .none rfl, fun h w => optUndef h, fun zβ za zw zc => ?_⟩, ?_⟩
        · exact wp_call (by kernel_rfl) rfl (hv3 ((show za.eval (.tmp 27) = za.tmps.getD 27 undef from rfl).trans (optVal (zc.dep 0 27 (by kernel_rfl)) rfl rfl)) ((show za.eval (.tmp 28) = za.tmps.getD 28 undef from rfl).trans (optVal (zc.dep 1 28 (by kernel_rfl)) rfl rfl)) ((show za.eval (.tmp 29) = za.tmps.getD 29 undef from rfl).trans (optVal (zc.dep 2 29 (by kernel_rfl)) rfl rfl))) (lcmp_any o s s _ _ _ _ zs zs (hot.below (bstep hb67 zc.below)) (IsT.below (bstep hb67 zc.below) hs) (IsT.below (bstep hb67 zc.below) hs)) (fun v w' h => ⟨v, rfl, h.2, optDef zβ h.1⟩)
        refine ⟨⟨true, .none rfl, fun h w => optUndef h, fun zβ za zw zc => ?_⟩, ?_⟩
        · exact neq_30 rfl ((show za.eval (.tmp 30) = za.tmps.getD 30 undef from rfl).trans (optVal (zc.dep 3 30 (by kernel_rfl)) rfl rfl)) (zc.kn.ev rfl) ⟨_, rfl, Below.refl _ _, optDef zβ rfl⟩
        refine ⟨⟨true, .none rfl, fun h w => optUndef h, fun zβ za zw zc => ?_⟩, ?_⟩
        · exact wp_move rfl ((show za.eval (.tmp 31) = za.tmps.getD 31 undef from rfl).trans (optVal (zc.dep 4 31 (by kernel_rfl)) rfl rfl)) ⟨_, rfl, Below.refl _ _, optDef zβ rfl⟩
        refine ⟨⟨(true && !(((o.lcmp s s) : Int) != (2 : Int))), .no (c := (((o.lcmp s s) : Int) != (2 : Int))) (d := true) rfl (fun v w h => h), fun h w => optUndef h, fun zβ za zw zc => ?_⟩, ?_⟩
        · exact ld_24 rfl (zc.kn.ev rfl) (bkeeps zc.below _ _ ((hB65.cell 0).trans rfl)) (bkeeps zc.below _ _ ((hB65.cell 1).trans rfl)) (bkeeps zc.below _ _ ((hB65.cell 2).trans rfl)) (bkeeps zc.below _ _ ((hB65.cell 3).trans rfl)) ⟨_, rfl, Below.refl _ _, optDef zβ rfl⟩
        refine ⟨⟨(true && !(((o.lcmp s s) : Int) != (2 : Int))), .no (c := (((o.lcmp s s) : Int) != (2 : Int))) (d := true) rfl (fun v w h => h), fun h w => optUndef h, fun zβ za zw zc => ?_⟩, ?_⟩
        · exact ld_27 rfl (zc.kn.ev rfl) (bkeeps zc.below _ _ ((hB68.cell 0).trans rfl)) (bkeeps zc.below _ _ ((hB68.cell 1).trans rfl)) ⟨_, rfl, Below.refl _ _, optDef zβ rfl⟩
        refine ⟨⟨(true && !(((o.lcmp s s) : Int) != (2 : Int))), .no (c := (((o.lcmp s s) : Int) != (2 : Int))) (d := true) rfl (fun v w h => h), fun h w => optUndef h, fun zβ za zw zc => ?_⟩, ?_⟩
        · exact ld_27 rfl (zc.kn.ev rfl) (bkeeps zc.below _ _ ((hB66.cell 0).trans rfl)) (bkeeps zc.below _ _ ((hB66.cell 1).trans rfl)) ⟨_, rfl, Below.refl _ _, optDef zβ rfl⟩
        refine ⟨⟨(true && !(((o.lcmp s s) : Int) != (2 : Int))), .no (c := (((o.lcmp s s) : Int) != (2 : Int))) (d := true) rfl (fun v w h => h), fun h w => optUndef h, fun zβ za zw zc => ?_⟩, ?_⟩
        · exact wp_call (by kernel_rfl) rfl (hv3 ((show za.eval (.tmp 33) = za.tmps.getD 33 undef from rfl).trans (optVal (zc.dep 6 33 (by kernel_rfl)) rfl zβ)) ((show za.eval (.tmp 34) = za.tmps.getD 34 undef from rfl).trans (optVal (zc.dep 7 34 (by kernel_rfl)) rfl zβ)) ((show za.eval (.tmp 35) = za.tmps.getD 35 undef from rfl).trans (optVal (zc.dep 8 35 (by kernel_rfl)) rfl zβ))) (lcmp_any o t s _ _ _ _ zt zs (hot.below (bstep hb67 zc.below)) (IsT.below (bstep hb67 zc.below) ht) (IsT.below (bstep hb67 zc.below) hs)) (fun v w' h => ⟨v, rfl, h.2, optDef zβ h.1⟩)
        refine ⟨⟨(true && !(((o.lcmp s s) : Int) != (2 : Int))), .no (c := (((o.lcmp s s) : Int) != (2 : Int))) (d := true) rfl (fun v w h => h), fun h w => optUndef h, fun zβ za zw zc => ?_⟩, ?_⟩
        · exact ld_24 rfl (zc.kn.ev rfl) (bkeeps zc.below _ _ ((hB65.cell 0).trans rfl)) (bkeeps zc.below _ _ ((hB65.cell 1).trans rfl)) (bkeeps zc.below _ _ ((hB65.cell 2).trans rfl)) (bkeeps zc.below _ _ ((hB65.cell 3).trans rfl)) ⟨_, rfl, Below.refl _ _, optDef zβ rfl⟩
        refine ⟨⟨(true && !(((o.lcmp s s) : Int) != (2 : Int))), .no (c := (((o.lcmp s s) : Int) != (2 : Int))) (d := true) rfl (fun v w h => h), fun h w => optUndef h, fun zβ za zw zc => ?_⟩, ?_⟩
        · exact ld_27 rfl (zc.kn.ev rfl) (bkeeps zc.below _ _ ((hB66.cell 0).trans rfl)) (bkeeps zc.below _ _ ((hB66.cell 1).trans rfl)) ⟨_, rfl, Below.refl _ _, optDef zβ rfl⟩
        refine ⟨⟨(true && !(((o.lcmp s s) : Int) != (2 : Int))), .no (c := (((o.lcmp s s) : Int) != (2 : Int))) (d := true) rfl (fun v w h => h), fun h w => optUndef h, fun zβ za zw zc => ?_⟩, ?_⟩
        · exact ld_27 rfl (zc.kn.ev rfl) (bkeeps zc.below _ _ ((hB68.cell 0).trans rfl)) (bkeeps zc.below _ _ ((hB68.cell 1).trans rfl)) ⟨_, rfl, Below.refl _ _, optDef zβ rfl⟩
        refine ⟨⟨(true && !(((o.lcmp s s) : Int) != (2 : Int))), .no (c := (((o.lcmp s s) : Int) != (2 : Int))) (d := true) rfl (fun v w h => h), fun h w => optUndef h, fun zβ za zw zc => ?_⟩, ?_⟩
        · exact wp_call (by kernel_rfl) rfl (hv3 ((show za.eval (.tmp 37) = za.tmps.getD 37 undef from rfl).trans (optVal (zc.dep 10 37 (by kernel_rfl)) rfl zβ)) ((show za.eval (.tmp 38) = za.tmps.getD 38 undef from rfl).trans (optVal (zc.dep 11 38 (by kernel_rfl)) rfl zβ)) ((show za.eval (.tmp 39) = za.tmps.getD 39 undef from rfl).trans (optVal (zc.dep 12 39 (by kernel_rfl)) rfl zβ))) (lcmp_any o s t _ _ _ _ zs zt (hot.below (bstep hb67 zc.below)) (IsT.below (bstep hb67 zc.below) hs) (IsT.below (bstep hb67 zc.below) ht)) (fun v w' h => ⟨v, rfl, h.2, optDef zβ h.1⟩)
        refine ⟨⟨(true && !(((o.lcmp s s) : Int) != (2 : Int))), .no (c := (((o.lcmp s s) : Int) != (2 : Int))) (d := true) rfl (fun v w h => h), fun h w => optUndef h, fun zβ za zw zc => ?_⟩, ?_⟩
        · exact wp_call (by kernel_rfl) rfl (hv1 ((show za.eval (.tmp 40) = za.tmps.getD 40 undef from rfl).trans (optVal (zc.dep 13 40 (by kernel_rfl)) rfl zβ))) (turned_any (o.lcmp s t) _) (fun v w' h => ⟨v, rfl, h.2, optDef zβ h.1⟩)
        refine ⟨⟨(true && !(((o.lcmp s s) : Int) != (2 : Int))), .no (c := (((o.lcmp s s) : Int) != (2 : Int))) (d := true) rfl (fun v w h => h), fun h w => optUndef h, fun zβ za zw zc => ?_⟩, ?_⟩
        · exact neq_30 rfl ((show za.eval (.tmp 36) = za.tmps.getD 36 undef from rfl).trans (optVal (zc.dep 9 36 (by kernel_rfl)) rfl zβ)) ((show za.eval (.tmp 41) = za.tmps.getD 41 undef from rfl).trans (optVal (zc.dep 14 41 (by kernel_rfl)) rfl zβ)) ⟨_, rfl, Below.refl _ _, optDef zβ rfl⟩
        refine ⟨⟨true, .none rfl, fun h w => optUndef h, fun zβ za zw zc => ?_⟩, ?_⟩
        · exact wp_or rfl ((show za.eval (.tmp 32) = za.tmps.getD 32 undef from rfl).trans (optVal (zc.dep 5 32 (by kernel_rfl)) rfl rfl)) (fun hp => ((show za.eval (.tmp 42) = za.tmps.getD 42 undef from rfl).trans (optVal (zc.dep 15 42 (by kernel_rfl)) rfl (bMkN zβ hp)))) ⟨_, rfl, Below.refl _ _, optDef zβ rfl⟩
        refine ⟨⟨true, .none rfl, fun h w => optUndef h, fun zβ za zw zc => ?_⟩, ?_⟩
        · exact wp_move rfl ((show za.eval (.tmp 43) = za.tmps.getD 43 undef from rfl).trans (optVal (zc.dep 16 43 (by kernel_rfl)) rfl rfl)) ⟨_, rfl, Below.refl _ _, optDef zβ rfl⟩
        refine ⟨⟨(true && !((((o.lcmp s s) : Int) != (2 : Int)) || (((o.lcmp t s) : Int) != ((turned (o.lcmp s t)) : Int)))), .no (c := ((((o.lcmp s s) : Int) != (2 : Int)) || (((o.lcmp t s) : Int) != ((turned (o.lcmp s t)) : Int)))) (d := true) rfl (fun v w h => h), fun h w => optUndef h, fun zβ za zw zc => ?_⟩, ?_⟩
        · exact ld_24 rfl (zc.kn.ev rfl) (bkeeps zc.below _ _ ((hB65.cell 0).trans rfl)) (bkeeps zc.below _ _ ((hB65.cell 1).trans rfl)) (bkeeps zc.below _ _ ((hB65.cell 2).trans rfl)) (bkeeps zc.below _ _ ((hB65.cell 3).trans rfl)) ⟨_, rfl, Below.refl _ _, optDef zβ rfl⟩
        refine ⟨⟨(true && !((((o.lcmp s s) : Int) != (2 : Int)) || (((o.lcmp t s) : Int) != ((turned (o.lcmp s t)) : Int)))), .no (c := ((((o.lcmp s s) : Int) != (2 : Int)) || (((o.lcmp t s) : Int) != ((turned (o.lcmp s t)) : Int)))) (d := true) rfl (fun v w h => h), fun h w => optUndef h, fun zβ za zw zc => ?_⟩, ?_⟩
        · exact ld_27 rfl (zc.kn.ev rfl) (bkeeps zc.below _ _ ((hB66.cell 0).trans rfl)) (bkeeps zc.below _ _ ((hB66.cell 1).trans rfl)) ⟨_, rfl, Below.refl _ _, optDef zβ rfl⟩
        refine ⟨⟨(true && !((((o.lcmp s s) : Int) != (2 : Int)) || (((o.lcmp t s) : Int) != ((turned (o.lcmp s t)) : Int)))), .no (c := ((((o.lcmp s s) : Int) != (2 : Int)) || (((o.lcmp t s) : Int) != ((turned (o.lcmp s t)) : Int)))) (d := true) rfl (fun v w h => h), fun h w => optUndef h, fun zβ za zw zc => ?_⟩, ?_⟩
        · exact ld_27 rfl (zc.kn.ev rfl) (bkeeps zc.below _ _ ((hB68.cell 0).trans rfl)) (bkeeps zc.below _ _ ((hB68.cell 1).trans rfl)) ⟨_, rfl, Below.refl _ _, optDef zβ rfl⟩
        refine ⟨⟨(true && !((((o.lcmp s s) : Int) != (2 : Int)) || (((o.lcmp t s) : Int) != ((turned (o.lcmp s t)) : Int)))), .no (c := ((((o.lcmp s s) : Int) != (2 : Int)) || (((o.lcmp t s) : Int) != ((turned (o.lcmp s t)) : Int)))) (d := true) rfl (fun v w h => h), fun h w => optUndef h, fun zβ za zw zc => ?_⟩, ?_⟩
        · exact wp_call (by kernel_rfl) rfl (hv3 ((show za.eval (.tmp 45) = za.tmps.getD 45 undef from rfl).trans (optVal (zc.dep 18 45 (by kernel_rfl)) rfl zβ)) ((show za.eval (.tmp 46) = za.tmps.getD 46 undef from rfl).trans (optVal (zc.dep 19 46 (by kernel_rfl)) rfl zβ)) ((show za.eval (.tmp 47) = za.tmps.getD 47 undef from rfl).trans (optVal (zc.dep 20 47 (by kernel_rfl)) rfl zβ))) (lcmp_any o s t _ _ _ _ zs zt (hot.below (bstep hb67 zc.below)) (IsT.below (bstep hb67 zc.below) hs) (IsT.below (bstep hb67 zc.below) ht)) (fun v w' h => ⟨v, rfl, h.2, optDef zβ h.1⟩)
        refine ⟨⟨(true && !((((o.lcmp s s) : Int) != (2 : Int)) || (((o.lcmp t s) : Int) != ((turned (o.lcmp s t)) : Int)))), .no (c := ((((o.lcmp s s) : Int) != (2 : Int)) || (((o.lcmp t s) : Int) != ((turned (o.lcmp s t)) : Int)))) (d := true) rfl (fun v w h => h), fun h w => optUndef h, fun zβ za zw zc => ?_⟩, ?_⟩
        · exact eql_30 rfl ((show za.eval (.tmp 48) = za.tmps.getD 48 undef from rfl).trans (optVal (zc.dep 21 48 (by kernel_rfl)) rfl zβ)) (zc.kn.ev rfl) ⟨_, rfl, Below.refl _ _, optDef zβ rfl⟩
        refine ⟨⟨(true && !((((o.lcmp s s) : Int) != (2 : Int)) || (((o.lcmp t s) : Int) != ((turned (o.lcmp s t)) : Int)))), .no (c := ((((o.lcmp s s) : Int) != (2 : Int)) || (((o.lcmp t s) : Int) != ((turned (o.lcmp s t)) : Int)))) (d := true) rfl (fun v w h => h), fun h w => optUndef h, fun zβ za zw zc => ?_⟩, ?_⟩
        · exact ld_27 rfl (zc.kn.ev rfl) (bkeeps zc.below _ _ ((hB66.cell 0).trans rfl)) (bkeeps zc.below _ _ ((hB66.cell 1).trans rfl)) ⟨_, rfl, Below.refl _ _, optDef zβ rfl⟩
        refine ⟨⟨(true && !((((o.lcmp s s) : Int) != (2 : Int)) || (((o.lcmp t s) : Int) != ((turned (o.lcmp s t)) : Int)))), .no (c := ((((o.lcmp s s) : Int) != (2 : Int)) || (((o.lcmp t s) : Int) != ((turned (o.lcmp s t)) : Int)))) (d := true) rfl (fun v w h => h), fun h w => optUndef h, fun zβ za zw zc => ?_⟩, ?_⟩
        · exact ld_27 rfl (zc.kn.ev rfl) (bkeeps zc.below _ _ ((hB68.cell 0).trans rfl)) (bkeeps zc.below _ _ ((hB68.cell 1).trans rfl)) ⟨_, rfl, Below.refl _ _, optDef zβ rfl⟩
        refine ⟨⟨(true && !((((o.lcmp s s) : Int) != (2 : Int)) || (((o.lcmp t s) : Int) != ((turned (o.lcmp s t)) : Int)))), .no (c := ((((o.lcmp s s) : Int) != (2 : Int)) || (((o.lcmp t s) : Int) != ((turned (o.lcmp s t)) : Int)))) (d := true) rfl (fun v w h => h), fun h w => optUndef h, fun zβ za zw zc => ?_⟩, ?_⟩
        · exact wp_call (by kernel_rfl) rfl (hv2 ((show za.eval (.tmp 50) = za.tmps.getD 50 undef from rfl).trans (optVal (zc.dep 23 50 (by kernel_rfl)) rfl zβ)) ((show za.eval (.tmp 51) = za.tmps.getD 51 undef from rfl).trans (optVal (zc.dep 24 51 (by kernel_rfl)) rfl zβ))) (ret_of (rsame_any s t _ _ _ (IsT.below (bstep hb67 zc.below) hs) (IsT.below (bstep hb67 zc.below) ht))) (fun v w' h => ⟨v, rfl, h.2, optDef zβ h.1⟩)
        refine ⟨⟨(true && !((((o.lcmp s s) : Int) != (2 : Int)) || (((o.lcmp t s) : Int) != ((turned (o.lcmp s t)) : Int)))), .no (c := ((((o.lcmp s s) : Int) != (2 : Int)) || (((o.lcmp t s) : Int) != ((turned (o.lcmp s t)) : Int)))) (d := true) rfl (fun v w h => h), fun h w => optUndef h, fun zβ za zw zc => ?_⟩, ?_⟩
        · exact neq_4 rfl ((show za.eval (.tmp 49) = za.tmps.getD 49 undef from rfl).trans (optVal (zc.dep 22 49 (by kernel_rfl)) rfl zβ)) ((show za.eval (.tmp 52) = za.tmps.getD 52 undef from rfl).trans (optVal (zc.dep 25 52 (by kernel_rfl)) rfl zβ)) ⟨_, rfl, Below.refl _ _, optDef zβ rfl⟩
        refine ⟨⟨true, .none rfl, fun h w => optUndef h, fun zβ za zw zc => ?_⟩, ?_⟩
        · exact wp_or rfl ((show za.eval (.tmp 44) = za.tmps.getD 44 undef from rfl).trans (optVal (zc.dep 17 44 (by kernel_rfl)) rfl rfl)) (fun hp => ((show za.eval (.tmp 53) = za.tmps.getD 53 undef from rfl).trans (optVal (zc.dep 26 53 (by kernel_rfl)) rfl (bMkN zβ hp)))) ⟨_, rfl, Below.refl _ _, optDef zβ rfl⟩
        exact trivial
      · intro za w69 zh hb70 zu
        have zh := zh.cons (d := 54) (v := .bool ((((((o.lcmp s s) : Int) != (2 : Int)) || (((o.lcmp t s) : Int) != ((turned (o.lcmp s t)) : Int))) || ((((o.lcmp s t) : Int) == (2 : Int)) != (T.same s t))))) (optVal (zu 27 54 (by kernel_rfl)) rfl rfl)
        clear zu
        refine (show WE _ [(0, .agg #[.slice a sg.length c]), (1, .agg #[.bool o.lpo, .slice p1 o.prec.length k1, .slice p2 o.weights.length k2, .int .i64 o.var]), (2, .agg #[.int .i64 s.f, .slice es s.args.length ds]), (3, .agg #[.int .i64 t.f, .slice et t.args.length dt]), (4, .agg #[.int .i64 u.f, .slice eu u.args.length du]), (5, .pointer (some ⟨g2, 0, none⟩)), (6, .pointer (some ⟨g9, 0, none⟩)), (7, .pointer (some ⟨g17, 0, none⟩)), (8, .pointer (some ⟨g27, 0, none⟩)), (9, .pointer (some ⟨g39, 0, none⟩)), (10, .bool false), (25, .bool (((greatB [s, t, u]) || (!(fitsB sg o [s, t, u]))))), (54, .bool ((((((o.lcmp s s) : Int) != (2 : Int)) || (((o.lcmp t s) : Int) != ((turned (o.lcmp s t)) : Int))) || ((((o.lcmp s t) : Int) == (2 : Int)) != (T.same s t)))))] w69 _ .normal from ?_) za (zh.sub ⟨rfl, rfl, rfl, rfl, rfl, rfl, rfl, rfl, rfl, rfl, rfl, rfl, rfl, trivial⟩)
        refine WE.next ?_
        refine WC.cond rfl (fun h71 => ?_) (fun h71 => ?_)
        · have h71 : ((((o.lcmp s s) : Int) ≠ (2 : Int)) ∨ (((o.lcmp t s) : Int) ≠ ((turned (o.lcmp s t)) : Int))) ∨ ((((o.lcmp s t) : Int) == (2 : Int)) ≠ (T.same s t)) := by simpa using h71
          exact absurd h71 (by rintro ((z | z) | z); exact z (Od.lcmp_self ks); exact z (Od.lcmp_turn ks kt); exact z (Od.lcmp_same ks kt))
        · have h71 : ¬ (((((o.lcmp s s) : Int) ≠ (2 : Int)) ∨ (((o.lcmp t s) : Int) ≠ ((turned (o.lcmp s t)) : Int))) ∨ ((((o.lcmp s t) : Int) == (2 : Int)) ≠ (T.same s t))) := by simpa using h71
          refine WC.skip ?_
          refine WE.next ?_
          refine WC.seq ?_
          have hB72 := hB65.below hb70
          have hB73 := hB66.below hb70
          have hB74 := hB68.below hb70
          have hb75 : Below w.heap.size w w69 := (bstep hb67 hb70)
          have hb77 : Below w38.heap.size w38 w69 := (bstep hb61 hb70)
          have hB76 := hB41.below hb77
          refine WC.opt [(true, .val (.agg #[.bool o.lpo, .slice p1 o.prec.length k1, .slice p2 o.weights.length k2, .int .i64 o.var])), (true, .val (.agg #[.int .i64 s.f, .slice es s.args.length ds])), (true, .val (.agg #[.int .i64 t.f, .slice et t.args.length dt])), (true, .val (.bool ((o.lcmp s t == 3)))), (true, .val (.bool ((!(o.lcmp s t == 3))))), (true, .val (.bool ((!(o.lcmp s t == 3))))), ((true && !(!(o.lcmp s t == 3))), .val (.agg #[.bool o.lpo, .slice p1 o.prec.length k1, .slice p2 o.weights.length k2, .int .i64 o.var])), ((true && !(!(o.lcmp s t == 3))), .val (.agg #[.int .i64 t.f, .slice et t.args.length dt])), ((true && !(!(o.lcmp s t == 3))), .val (.agg #[.int .i64 u.f, .slice eu u.args.length du])), ((true && !(!(o.lcmp s t == 3))), .val (.bool ((o.lcmp t u == 3)))), ((true && !(!(o.lcmp s t == 3))), .val (.bool ((!(o.lcmp t u == 3))))), (true, .val (.bool (((!(o.lcmp s t == 3)) || (!(o.lcmp t u == 3)))))), (true, .val (.bool (((!(o.lcmp s t == 3)) || (!(o.lcmp t u == 3)))))), ((true && !((!(o.lcmp s t == 3)) || (!(o.lcmp t u == 3)))), .val (.agg #[.bool o.lpo, .slice p1 o.prec.length k1, .slice p2 o.weights.length k2, .int .i64 o.var])), ((true && !((!(o.lcmp s t == 3)) || (!(o.lcmp t u == 3)))), .val (.agg #[.int .i64 s.f, .slice es s.args.length ds])), ((true && !((!(o.lcmp s t == 3)) || (!(o.lcmp t u == 3)))), .val (.agg #[.int .i64 u.f, .slice eu u.args.length du])), ((true && !((!(o.lcmp s t == 3)) || (!(o.lcmp t u == 3)))), .val (.bool ((o.lcmp s u == 3)))), (true, .val (.bool ((((!(o.lcmp s t == 3)) || (!(o.lcmp t u == 3))) || (o.lcmp s u == 3))))), (true, .val (.bool ((((!(o.lcmp s t == 3)) || (!(o.lcmp t u == 3))) || (o.lcmp s u == 3))))), ((true && (((!(o.lcmp s t == 3)) || (!(o.lcmp t u == 3))) || (o.lcmp s u == 3))), .val (.bool true)), (true, .val (.bool (((((!(o.lcmp s t == 3)) || (!(o.lcmp t u == 3))) || (o.lcmp s u == 3)) && true)))), (true, .val (.bool (((((!(o.lcmp s t == 3)) || (!(o.lcmp t u == 3))) || (o.lcmp s u == 3)) && true))))] [(0, .agg #[.slice a sg.length c]), (1, .agg #[.bool o.lpo, .slice p1 o.prec.length k1, .slice p2 o.weights.length k2, .int .i64 o.var]), (2, .agg #[.int .i64 s.f, .slice es s.args.length ds]), (3, .agg #[.int .i64 t.f, .slice et t.args.length dt]), (4, .agg #[.int .i64 u.f, .slice eu u.args.length du]), (5, .pointer (some ⟨g2, 0, none⟩)), (6, .pointer (some ⟨g9, 0, none⟩)), (7, .pointer (some ⟨g17, 0, none⟩)), (8, .pointer (some ⟨g27, 0, none⟩)), (9, .pointer (some ⟨g39, 0, none⟩)), (25, .bool (((greatB [s, t, u]) || (!(fitsB sg o [s, t, u]))))), (54, .bool ((((((o.lcmp s s) : Int) != (2 : Int)) || (((o.lcmp t s) : Int) != ((turned (o.lcmp s t)) : Int))) || ((((o.lcmp s t) : Int) == (2 : Int)) != (T.same s t)))))] ⟨rfl, rfl, rfl, rfl, rfl, rfl, rfl, rfl, rfl, rfl, rfl, rfl, trivial⟩ (by kernel_rfl) (by kernel_rfl) (by kernel_rfl) ?_ ?_
          · refine ⟨⟨true, .none rfl, fun h w => optUndef h, fun zβ za zw zc => ?_⟩, ?_⟩
            · exact ld_24 rfl (zc.kn.ev rfl) (bkeeps zc.below _ _ ((hB72.cell 0).trans rfl)) (bkeeps zc.below _ _ ((hB72.cell 1).trans rfl)) (bkeeps zc.below _ _ ((hB72.cell 2).trans rfl)) (bkeeps zc.below _ _ ((hB72.cell 3).trans rfl)) ⟨_, rfl, Below.refl _ _, optDef zβ rfl⟩
            refine ⟨⟨true, .none rfl, fun h w => optUndef h, fun zβ za zw zc => ?_⟩, ?_⟩
            · exact ld_27 rfl (zc.kn.ev rfl) (bkeeps zc.below _ _ ((hB73.cell 0).trans rfl)) (bkeeps zc.below _ _ ((hB73.cell 1).trans rfl)) ⟨_, rfl, Below.refl _ _, optDef zβ rfl⟩
            refine ⟨⟨true, .none rfl, fun h w => optUndef h, fun zβ za zw zc => ?_⟩, ?_⟩
            · exact ld_27 rfl (zc.kn.ev rfl) (bkeeps zc.below _ _ ((hB74.cell 0).trans rfl)) (bkeeps zc.below _ _ ((hB74.cell 1).trans rfl)) ⟨_, rfl, Below.refl _ _, optDef zβ rfl⟩
            refine ⟨⟨true, .none rfl, fun h w => optUndef h, fun zβ za zw zc => ?_⟩, ?_⟩
            · exact wp_call (by kernel_rfl) rfl (hv3 ((show za.eval (.tmp 55) = za.tmps.getD 55 undef from rfl).trans (optVal (zc.dep 0 55 (by kernel_rfl)) rfl rfl)) ((show za.eval (.tmp 56) = za.tmps.getD 56 undef from rfl).trans (optVal (zc.dep 1 56 (by kernel_rfl)) rfl rfl)) ((show za.eval (.tmp 57) = za.tmps.getD 57 undef from rfl).trans (optVal (zc.dep 2 57 (by kernel_rfl)) rfl rfl))) (lpoAbove_any o s t _ _ _ _ zs zt (hot.below (bstep hb75 zc.below)) (IsT.below (bstep hb75 zc.below) hs) (IsT.below (bstep hb75 zc.below) ht)) (fun v w' h => ⟨v, rfl, h.2, optDef zβ h.1⟩)
            refine ⟨⟨true, .none rfl, fun h w => optUndef h, fun zβ za zw zc => ?_⟩, ?_⟩
            · exact wp_not rfl ((show za.eval (.tmp 58) = za.tmps.getD 58 undef from rfl).trans (optVal (zc.dep 3 58 (by kernel_rfl)) rfl rfl)) ⟨_, rfl, Below.refl _ _, optDef zβ rfl⟩
            refine ⟨⟨true, .none rfl, fun h w => optUndef h, fun zβ za zw zc => ?_⟩, ?_⟩
            · exact wp_move rfl ((show za.eval (.tmp 59) = za.tmps.getD 59 undef from rfl).trans (optVal (zc.dep 4 59 (by kernel_rfl)) rfl rfl)) ⟨_, rfl, Below.refl _ _, optDef zβ rfl⟩
            refine ⟨⟨(true && !(!(o.lcmp s t == 3))), .no (c := (!(o.lcmp s t == 3))) (d := true) rfl (fun v w h => h), fun h w => optUndef h, fun zβ za zw zc => ?_⟩, ?_⟩
            · exact ld_24 rfl (zc.kn.ev rfl) (bkeeps zc.below _ _ ((hB72.cell 0).trans rfl)) (bkeeps zc.below _ _ ((hB72.cell 1).trans rfl)) (bkeeps zc.below _ _ ((hB72.cell 2).trans rfl)) (bkeeps zc.below _ _ ((hB72.cell 3).trans rfl)) ⟨_, rfl, Below.refl _ _, optDef zβ rfl⟩
            refine ⟨⟨(true && !(!(o.lcmp s t == 3))), .no (c := (!(o.lcmp s t == 3))) (d := true) rfl (fun v w h => h), fun h w => optUndef h, fun zβ za zw zc => ?_⟩, ?_⟩
            · exact ld_27 rfl (zc.kn.ev rfl) (bkeeps zc.below _ _ ((hB74.cell 0).trans rfl)) (bkeeps zc.below _ _ ((hB74.cell 1).trans rfl)) ⟨_, rfl, Below.refl _ _, optDef zβ rfl⟩
            refine ⟨⟨(true && !(!(o.lcmp s t == 3))), .no (c := (!(o.lcmp s t == 3))) (d := true) rfl (fun v w h => h), fun h w => optUndef h, fun zβ za zw zc => ?_⟩, ?_⟩
            · exact ld_27 rfl (zc.kn.ev rfl) (bkeeps zc.below _ _ ((hB76.cell 0).trans rfl)) (bkeeps zc.below _ _ ((hB76.cell 1).trans rfl)) ⟨_, rfl, Below.refl _ _, optDef zβ rfl⟩
            refine ⟨⟨(true && !(!(o.lcmp s t == 3))), .no (c := (!(o.lcmp s t == 3))) (d := true) rfl (fun v w h => h), fun h w => optUndef h, fun zβ za zw zc => ?_⟩, ?_⟩
            · exact wp_call (by kernel_rfl) rfl (hv3 ((show za.eval (.tmp 61) = za.tmps.getD 61 undef from rfl).trans (optVal (zc.dep 6 61 (by kernel_rfl)) rfl zβ)) ((show za.eval (.tmp 62) = za.tmps.getD 62 undef from rfl).trans (optVal (zc.dep 7 62 (by kernel_rfl)) rfl zβ)) ((show za.eval (.tmp 63) = za.tmps.getD 63 undef from rfl).trans (optVal (zc.dep 8 63 (by kernel_rfl)) rfl zβ))) (lpoAbove_any o t u _ _ _ _ zt zu (hot.below (bstep hb75 zc.below)) (IsT.below (bstep hb75 zc.below) ht) (IsT.below (bstep hb75 zc.below) hu)) (fun v w' h => ⟨v, rfl, h.2, optDef zβ h.1⟩)
            refine ⟨⟨(true && !(!(o.lcmp s t == 3))), .no (c := (!(o.lcmp s t == 3))) (d := true) rfl (fun v w h => h), fun h w => optUndef h, fun zβ za zw zc => ?_⟩, ?_⟩
            · exact wp_not rfl ((show za.eval (.tmp 64) = za.tmps.getD 64 undef from rfl).trans (optVal (zc.dep 9 64 (by kernel_rfl)) rfl zβ)) ⟨_, rfl, Below.refl _ _, optDef zβ rfl⟩
            refine ⟨⟨true, .none rfl, fun h w => optUndef h, fun zβ za zw zc => ?_⟩, ?_⟩
            · exact wp_or rfl ((show za.eval (.tmp 60) = za.tmps.getD 60 undef from rfl).trans (optVal (zc.dep 5 60 (by kernel_rfl)) rfl rfl)) (fun hp => ((show za.eval (.tmp 65) = za.tmps.getD 65 undef from rfl).trans (optVal (zc.dep 10 65 (by kernel_rfl)) rfl (bMkN zβ hp)))) ⟨_, rfl, Below.refl _ _, optDef zβ rfl⟩
            refine ⟨⟨true, .none rfl, fun h w => optUndef h, fun zβ za zw zc => ?_⟩, ?_⟩
            · exact wp_move rfl ((show za.eval (.tmp 66) = za.tmps.getD 66 undef from rfl).trans (optVal (zc.dep 11 66 (by kernel_rfl)) rfl rfl)) ⟨_, rfl, Below.refl _ _, optDef zβ rfl⟩
            refine ⟨⟨(true && !((!(o.lcmp s t == 3)) || (!(o.lcmp t u == 3)))), .no (c := ((!(o.lcmp s t == 3)) || (!(o.lcmp t u == 3)))) (d := true) rfl (fun v w h => h), fun h w => optUndef h, fun zβ za zw zc => ?_⟩, ?_⟩
            · exact ld_24 rfl (zc.kn.ev rfl) (bkeeps zc.below _ _ ((hB72.cell 0).trans rfl)) (bkeeps zc.below _ _ ((hB72.cell 1).trans rfl)) (bkeeps zc.below _ _ ((hB72.cell 2).trans rfl)) (bkeeps zc.below _ _ ((hB72.cell 3).trans rfl)) ⟨_, rfl, Below.refl _ _, optDef zβ rfl⟩
            refine ⟨⟨(true && !((!(o.lcmp s t == 3)) || (!(o.lcmp t u == 3)))), .no (c := ((!(o.lcmp s t == 3)) || (!(o.lcmp t u == 3)))) (d := true) rfl (fun v w h => h), fun h w => optUndef h, fun zβ za zw zc => ?_⟩, ?_⟩
            · exact ld_27 rfl (zc.kn.ev rfl) (bkeeps zc.below _ _ ((hB73.cell 0).trans rfl)) (bkeeps zc.below _ _ ((hB73.cell 1).trans rfl)) ⟨_, rfl, Below.refl _ _, optDef zβ rfl⟩
            refine ⟨⟨(true && !((!(o.lcmp s t == 3)) || (!(o.lcmp t u == 3)))), .no (c := ((!(o.lcmp s t == 3)) || (!(o.lcmp t u == 3)))) (d := true) rfl (fun v w h => h), fun h w => optUndef h, fun zβ za zw zc => ?_⟩, ?_⟩
            · exact ld_27 rfl (zc.kn.ev rfl) (bkeeps zc.below _ _ ((hB76.cell 0).trans rfl)) (bkeeps zc.below _ _ ((hB76.cell 1).trans rfl)) ⟨_, rfl, Below.refl _ _, optDef zβ rfl⟩
            refine ⟨⟨(true && !((!(o.lcmp s t == 3)) || (!(o.lcmp t u == 3)))), .no (c := ((!(o.lcmp s t == 3)) || (!(o.lcmp t u == 3)))) (d := true) rfl (fun v w h => h), fun h w => optUndef h, fun zβ za zw zc => ?_⟩, ?_⟩
            · exact wp_call (by kernel_rfl) rfl (hv3 ((show za.eval (.tmp 68) = za.tmps.getD 68 undef from rfl).trans (optVal (zc.dep 13 68 (by kernel_rfl)) rfl zβ)) ((show za.eval (.tmp 69) = za.tmps.getD 69 undef from rfl).trans (optVal (zc.dep 14 69 (by kernel_rfl)) rfl zβ)) ((show za.eval (.tmp 70) = za.tmps.getD 70 undef from rfl).trans (optVal (zc.dep 15 70 (by kernel_rfl)) rfl zβ))) (lpoAbove_any o s u _ _ _ _ zs zu (hot.below (bstep hb75 zc.below)) (IsT.below (bstep hb75 zc.below) hs) (IsT.below (bstep hb75 zc.below) hu)) (fun v w' h => ⟨v, rfl, h.2, optDef zβ h.1⟩)
            refine ⟨⟨true, .none rfl, fun h w => optUndef h, fun zβ za zw zc => ?_⟩, ?_⟩
            · exact wp_or rfl ((show za.eval (.tmp 67) = za.tmps.getD 67 undef from rfl).trans (optVal (zc.dep 12 67 (by kernel_rfl)) rfl rfl)) (fun hp => ((show za.eval (.tmp 71) = za.tmps.getD 71 undef from rfl).trans (optVal (zc.dep 16 71 (by kernel_rfl)) rfl (bMkN zβ hp)))) ⟨_, rfl, Below.refl _ _, optDef zβ rfl⟩
            refine ⟨⟨true, .none rfl, fun h w => optUndef h, fun zβ za zw zc => ?_⟩, ?_⟩
            · exact wp_move rfl ((show za.eval (.tmp 72) = za.tmps.getD 72 undef from rfl).trans (optVal (zc.dep 17 72 (by kernel_rfl)) rfl rfl)) ⟨_, rfl, Below.refl _ _, optDef zβ rfl⟩
            refine ⟨⟨(true && (((!(o.lcmp s t == 3)) || (!(o.lcmp t u == 3))) || (o.lcmp s u == 3))), .yes (c := (((!(o.lcmp s t == 3)) || (!(o.lcmp t u == 3))) || (o.lcmp s u == 3))) (d := true) rfl (fun v w h => h), fun h w => optUndef h, fun zβ za zw zc => ?_⟩, ?_⟩
            · exact wp_call (by kernel_rfl) rfl (hv0) (wakes_any _) (fun v w' h => ⟨v, rfl, h.2, optDef zβ h.1⟩)
            refine ⟨⟨true, .none rfl, fun h w => optUndef h, fun zβ za zw zc => ?_⟩, ?_⟩
            · exact wp_and rfl ((show za.eval (.tmp 73) = za.tmps.getD 73 undef from rfl).trans (optVal (zc.dep 18 73 (by kernel_rfl)) rfl rfl)) (fun hp => ((show za.eval (.tmp 74) = za.tmps.getD 74 undef from rfl).trans (optVal (zc.dep 19 74 (by kernel_rfl)) rfl (bMk zβ hp)))) ⟨_, rfl, Below.refl _ _, optDef zβ rfl⟩
            refine ⟨⟨true, .none rfl, fun h w => optUndef h, fun zβ za zw zc => ?_⟩, ?_⟩
            · exact wp_assign rfl ((show za.eval (.tmp 75) = za.tmps.getD 75 undef from rfl).trans (optVal (zc.dep 20 75 (by kernel_rfl)) rfl rfl)) ⟨_, rfl, Below.refl _ _, optDef zβ rfl⟩
            exact trivial
          · intro za w78 zh hb79 zu
            have zh := zh.cons (d := 10) (v := .bool (((((!(o.lcmp s t == 3)) || (!(o.lcmp t u == 3))) || (o.lcmp s u == 3)) && true))) (optVal (zu 21 10 (by kernel_rfl)) rfl rfl)
            clear zu
            refine (show WE _ [(0, .agg #[.slice a sg.length c]), (1, .agg #[.bool o.lpo, .slice p1 o.prec.length k1, .slice p2 o.weights.length k2, .int .i64 o.var]), (2, .agg #[.int .i64 s.f, .slice es s.args.length ds]), (3, .agg #[.int .i64 t.f, .slice et t.args.length dt]), (4, .agg #[.int .i64 u.f, .slice eu u.args.length du]), (5, .pointer (some ⟨g2, 0, none⟩)), (6, .pointer (some ⟨g9, 0, none⟩)), (7, .pointer (some ⟨g17, 0, none⟩)), (8, .pointer (some ⟨g27, 0, none⟩)), (9, .pointer (some ⟨g39, 0, none⟩)), (10, .bool (((((!(o.lcmp s t == 3)) || (!(o.lcmp t u == 3))) || (o.lcmp s u == 3)) && true))), (25, .bool (((greatB [s, t, u]) || (!(fitsB sg o [s, t, u]))))), (54, .bool ((((((o.lcmp s s) : Int) != (2 : Int)) || (((o.lcmp t s) : Int) != ((turned (o.lcmp s t)) : Int))) || ((((o.lcmp s t) : Int) == (2 : Int)) != (T.same s t)))))] w78 _ .normal from ?_) za (zh.sub ⟨rfl, rfl, rfl, rfl, rfl, rfl, rfl, rfl, rfl, rfl, rfl, rfl, rfl, trivial⟩)
            refine WE.next ?_
            refine WC.ret ?_
            refine WE.ret1 rfl rfl ?_
            have hb80 : Below w.heap.size w w78 := (bstep hb75 hb79)
            exact ⟨_, rfl, congrArg Value.bool (by have z := Od.lcmp_trans ks kt ku; simpa [or_assoc] using z), hb80⟩

end Go.Proofs.Ytlkiabgpnboicaa

namespace Go.Proofs.Ytlkiabgpnboicaa
open Go.RowKit Go.ChangeShapes Go.WideShapes Go.ChangeAt

set_option maxRecDepth 100000 in
theorem lpoOrders_contract (H : Type) (enc : TypeId × Value → H) (W : World) (base : Nat) (args : Array Value) (ds gs : List (DataW H)) (before : List MemPlace)
    (hval : ∀ (j : Nat) t v, Try.f4.params[j]? = some t → args[j]? = some v → Value.okWide Try.prog W .any base t v)
    (hW : DataW.Whole enc Try.prog Try.f4.params.toList Rows.lpoOrdersSpec.vars false W args.toList ds gs before) (hk : Rows.uptoSmall H (ds ++ gs) = true) :
    Calls Try.prog 4 args W fun e W' => ∃ v, e = .returned v ∧ Rows.lpoOrdersSpec.post enc Try.prog Try.f4 false true false false W args v W' := by
  have hW' := hW
  obtain ⟨p, q, hA0, hV, rfl, hfz, hnd⟩ := hW
  have hA : DataW.TrodAll enc Try.prog W 0 (fun _ => true) true Try.f4.params.toList args.toList ds p := hA0
  rw [Try.params4] at hA hval
  obtain ⟨v0, vs0, d0, ds0, p0, q0, hargs, rfl, rfl, h0, r0⟩ := trodAll_cons hA
  obtain ⟨v1, vs1, d1, ds1, p1, q1, rfl, rfl, rfl, h1, r1⟩ := trodAll_cons r0
  obtain ⟨v2, vs2, d2, ds2, p2, q2, rfl, rfl, rfl, h2, r2⟩ := trodAll_cons r1
  obtain ⟨v3, vs3, d3, ds3, p3, q3, rfl, rfl, rfl, h3, r3⟩ := trodAll_cons r2
  obtain ⟨v4, vs4, d4, ds4, p4, q4, rfl, rfl, rfl, h4, r4⟩ := trodAll_cons r3
  obtain ⟨rfl, rfl, rfl⟩ := trodAll_nil r4
  obtain rfl : args = #[v0, v1, v2, v3, v4] := by cases args; simp_all
  obtain ⟨x0, y0⟩ := arg_Sig (hval 0 35 v0 rfl rfl) h0
  have b0 := bulk_mem hk (d := d0) (by simp)
  obtain ⟨x1, y1⟩ := arg_Od (hval 1 24 v1 rfl rfl) h1
  have b1 := bulk_mem hk (d := d1) (by simp)
  obtain ⟨x2, y2, z2⟩ := arg_T (hval 2 27 v2 rfl rfl) h2
  have b2 := bulk_mem hk (d := d2) (by simp)
  obtain ⟨x3, y3, z3⟩ := arg_T (hval 3 27 v3 rfl rfl) h3
  have b3 := bulk_mem hk (d := d3) (by simp)
  obtain ⟨x4, y4, z4⟩ := arg_T (hval 4 27 v4 rfl rfl) h4
  have b4 := bulk_mem hk (d := d4) (by simp)
  refine (orders_any x0 x1 x2 x3 x4 W v0 v1 v2 v3 v4 (by omega) (by omega) (by omega) y0 y1 y2 y3 y4).mono fun e W' ⟨v, he, hv, hg⟩ => ?_
  subst he hv
  exact ⟨_, rfl, law_post (by kernel_rfl) (readable_all (by kernel_rfl)) Try.underlying4 rfl rfl rfl hW' hg⟩

set_option maxRecDepth 100000 in
theorem lpoOrders_lifted (os : Os) (started : os.Started) (H : Type) (enc : TypeId × Value → H) (F : Stop.Interp) :
    ReturnsInHanded {} Try.checked os 4 .any ((Rows.OpenSpec.upto Rows.lpoOrdersSpec).pre6 enc Try.prog Try.f4 Rows.lpoOrdersUptoRow.domain false) (((Rows.OpenSpec.upto Rows.lpoOrdersSpec).at F).post enc Try.prog Try.f4 false true false false) := by
  refine returnsInHanded_of_cond (C := Try.checked) (s := Rows.OpenSpec.upto Rows.lpoOrdersSpec) (k := Rows.uptoSmall) rfl own started (by kernel_rfl) Try.func4
    (OpenSpec.witness (enc := enc) (C := Try.checked) (s := Rows.OpenSpec.upto Rows.lpoOrdersSpec) (k := Rows.uptoSmall) rfl false ⟨#[], #[.agg #[.slice none 0 0], .agg #[.bool false, .slice none 0 0, .slice none 0 0, .int .i64 0], .agg #[.int .i64 0, .slice none 0 0], .agg #[.int .i64 0, .slice none 0 0], .agg #[.int .i64 0, .slice none 0 0]], []⟩ 8 (by kernel_rfl) (by kernel_rfl) (by kernel_rfl)
      (x := ([.agg [.nil], .agg [.lit (.bool false), .nil, .nil, .lit (.int .i64 0)], .agg [.lit (.int .i64 0), .nil], .agg [.lit (.int .i64 0), .nil], .agg [.lit (.int .i64 0), .nil]], [], [])) (by kernel_rfl) rfl (by kernel_rfl)) ?_
  intro W base args ds gs before hval hW _ hk _
  exact lpoOrders_contract H enc W base args ds gs before hval hW hk

theorem lpoOrders_proved : Rows.LpoOrdersUptoSaid :=
  OpenClaim.holds_of_cond 4 Try.f4 rfl rfl rfl rfl rfl rfl rfl ⟨rfl, rfl, rfl, rfl, rfl⟩ rfl rfl rfl rfl rfl (by kernel_rfl) Try.func4 (by kernel_rfl)
    (of_decide_eq_true (by kernel_rfl)) (by unfold Func.isWrapper; first | (rw [if_pos (by decide +kernel)]; kernel_rfl) | (rw [if_neg (by decide +kernel)]; exact ⟨rfl, rfl⟩))
    (fun os started H enc _ F => lpoOrders_lifted os started H enc F)

end Go.Proofs.Ytlkiabgpnboicaa
