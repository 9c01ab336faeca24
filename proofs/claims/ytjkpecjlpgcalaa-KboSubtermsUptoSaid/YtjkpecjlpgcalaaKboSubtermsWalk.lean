/- The walk through KboSubterms: it answers true. -/
import Derived.Test.YtjkpecjlpgcalaaLawRows
import Derived.Test.YtjkpecjlpgcalaaKboLaws
import Derived.Test.YtjkpecjlpgcalaaPlaces
import Derived.Test.YtjkpecjlpgcalaaOpsPl
import Derived.Test.YtjkpecjlpgcalaaWakes
namespace Go.Proofs.Ytjkpecjlpgcalaa
open Go.RowKit Go.Sort Go

def subSp (w : World) (o : Od) (t : T) (Q : List Pl1) (a3 a4 e1 : Option Addr) (c3 c4 d1 b2 o2 qc k : Nat) (xu xv : Value) (rr : Bool) : List (Bool × Sp) := [(true, .val ((.agg #[.bool o.lpo, .slice a3 o.prec.length c3, .slice a4 o.weights.length c4, .int .i64 o.var]))), (true, .val ((.agg #[.int .i64 t.f, .slice e1 t.args.length d1]))), (true, .val (.slice (some ⟨b2, o2, none⟩) Q.length qc)), (true, .val (.int .i64 k)), (true, .val (.pointer (some ⟨b2, o2 + k * 3, none⟩))), (true, .val (.pointer (some ⟨b2, o2 + k * 3 + 1, none⟩))), (true, .val ((.agg #[xu, xv]))), (true, .val (.bool rr)), (true, .val (.bool (!rr)))]

theorem T.Part.size {s t : T} (h : T.Part s t) : s.size ≤ t.size := by
  induction h with
  | arg h => rw [T.size]; have := T.size_le_sizeL h; omega
  | deep h _ ih => rw [T.size]; have := T.size_le_sizeL h; omega

theorem places_tail (t : T) (k : Nat) (h : k + 1 < t.places.length) : T.Part t.places[k + 1].2 t := by
  obtain ⟨f, l⟩ := t
  have hk : k < (T.placesL 0 l).length := by rw [T.places] at h; simpa using h
  have e : (T.mk f l).places[k + 1] = (T.placesL 0 l)[k] := by simp only [T.places, List.getElem_cons_succ]
  rw [e]
  exact T.placesL_part l 0 f l (fun a h => h) _ (List.getElem_mem hk)

set_option maxRecDepth 100000 in
set_option maxHeartbeats 8000000 in
theorem subterms_any (sg : List Sy) (o : Od) (t : T) (w : World) (vs vo v1 : Value) (zt : t.size ≤ 1048576) (hs : IsSig w sg vs) (ho : IsOd w o vo) (h1 : IsT w t v1) :
    Calls Try.prog 5 #[vs, vo, v1] w fun e w' => e = .returned (.bool true) ∧ Below w.heap.size w w' := by
  have WK := fun w => wakes_any w
  have hz : ∀ x ∈ [t], x.size ≤ 4294967296 := by intro x hx; simp at hx; subst hx; omega
  have Hhs := Lib.hid hs
  have Hho := Lib.hid ho
  have Hh1 := Lib.hid h1
  obtain ⟨a, c, rfl, _, _, _⟩ := hs
  obtain ⟨a3, a4, c3, c4, rfl, n1, n2, n3, n4, _, _, _⟩ := ho
  obtain ⟨_, e1, d1, rfl, _, _, _⟩ := h1.form
  have Hhz := Lib.hid hz
  have Hzt := Lib.hid zt
  clear hz n1 n2 n3 n4 h1 zt
  go_enter Try.func5, Try.ntmps5
  go_wp2_with fail
  refine (great_row (w := ((w.alloc _).alloc _).alloc _) (by simp) (terms1 (t := t) (Hh1.out.below ?b1))).mono ?_
  case b1 => exact bstep (balloc2 _ _ _) (balloc _ _)
  rintro e w1 ⟨⟨b, rfl⟩, hb1⟩
  obtain ⟨B0, B1, B2, hw⟩ := box3 hb1
  clear hb1
  have Hhw := Lib.hid hw
  have HB0 := Lib.hid B0
  have HB1 := Lib.hid B1
  have HB2 := Lib.hid B2
  clear hw B0 B1 B2
  have k0 := HB0.out 0 _ rfl
  obtain ⟨u0, u1, u2, u3⟩ := HB1.out.four
  obtain ⟨s0, s1⟩ := HB2.out.two
  cases b with
  | true =>
    go_wp2_with fail
    refine (WK _).mono ?_
    rintro e w9 ⟨rfl, hb9⟩
    go_wp2_with fail
    go_ret
    exact ⟨rfl, bstep Hhw.out hb9⟩
  | false =>
    go_wp2_with fail
    refine (fits_row (w := w1) Hhz.out rfl (Hhs.out.below Hhw.out) (Hho.out.below Hhw.out) (terms1 (t := t) (Hh1.out.below Hhw.out))).mono ?_
    rintro e w2 ⟨⟨b, rfl, hb⟩, hb2⟩
    clear k0 u0 u1 u2 u3 s0 s1
    have hw := Lib.hid (bstep Hhw.out hb2)
    have B0 := HB0.out.below hb2
    have B1 := HB1.out.below hb2
    have B2 := HB2.out.below hb2
    clear Hhw HB0 HB1 HB2
    have Hhw := hw
    clear hw
    have HB0 := Lib.hid B0
    have HB1 := Lib.hid B1
    have HB2 := Lib.hid B2
    clear B0 B1 B2
    clear hb2
    have k0 := HB0.out 0 _ rfl
    obtain ⟨u0, u1, u2, u3⟩ := HB1.out.four
    obtain ⟨s0, s1⟩ := HB2.out.two
    cases b with
    | false =>
      clear hb
      go_wp2_with fail
      refine (WK _).mono ?_
      rintro e w9 ⟨rfl, hb9⟩
      go_wp2_with fail
      go_ret
      exact ⟨rfl, bstep Hhw.out hb9⟩
    | true =>
      have Hf := Lib.hid (hb rfl)
      clear hb
      have PL := places_any w.heap.size t w2 _ (by have := Hzt.out; omega) (InT.old Hhw.out (Nat.le_refl _) Hh1.out.inT) Hhw.out.size
      obtain ⟨Q, hQ⟩ : ∃ Q, Q = T.places t := ⟨_, rfl⟩
      have hQ1 : 1 ≤ Q.length := by rw [hQ, T.places_size, T.size_eq]; omega
      have HQ := Lib.hid hQ
      rw [← hQ] at PL
      clear hQ
      go_wp2_with fail
      refine PL.mono ?_
      rintro e w3 ⟨qa, qc, rfl, hq1, hq2, hq3, hb3⟩
      clear k0 u0 u1 u2 u3 s0 s1
      have hw := Lib.hid (bstep Hhw.out hb3)
      have B0 := HB0.out.below hb3
      have B1 := HB1.out.below hb3
      have B2 := HB2.out.below hb3
      clear Hhw HB0 HB1 HB2
      have Hhw := hw
      clear hw
      have HB0 := Lib.hid B0
      have HB1 := Lib.hid B1
      have HB2 := Lib.hid B2
      clear B0 B1 B2
      have HI := Lib.hid hq3
      unfold maxLen at hq2
      have Hq12 := Lib.hid (And.intro hq1 hq2)
      clear PL hb3 hq3
      go_wp2_with fail
      go_loopw [8] (fun kv wr => ∃ (k : Nat), 1 ≤ k ∧ k ≤ Q.length ∧ kv = .int .i64 k ∧ Below w.heap.size w wr ∧ Box wr w.heap.size [.slice a sg.length c] ∧ Box wr (w.heap.size + 1) [.bool o.lpo, .slice a3 o.prec.length c3, .slice a4 o.weights.length c4, .int .i64 o.var] ∧ Box wr (w.heap.size + 2) [.int .i64 t.f, .slice e1 t.args.length d1] ∧ Hid (InPls (New w.heap.size w2.heap.size) wr Q qa)) (fun kv _ => Q.length - (intOf kv).toNat)
      case atStart => exact ⟨1, Nat.le_refl _, hQ1, rfl, Hhw.out, HB0.out, HB1.out, HB2.out, HI.out⟩
      case round =>
        clear Hhw HB0 HB1 HB2 HI
        obtain ⟨k, hk1, hk2, rfl, hw, B0, B1, B2, HI⟩ := hrel
        have Hhw := Lib.hid hw
        have HB0 := Lib.hid B0
        have HB1 := Lib.hid B1
        have HB2 := Lib.hid B2
        clear hw B0 B1 B2
        have k0 := HB0.out 0 _ rfl
        obtain ⟨u0, u1, u2, u3⟩ := HB1.out.four
        obtain ⟨s0, s1⟩ := HB2.out.two
        by_cases hkt : k < Q.length
        · obtain ⟨b2, o2, q, xu, xv, rfl, hS, c0, c1, c2, hp1, ht1⟩ := HI.out k hkt
          have Hx := Lib.hid ht1.isT
          have hpart : T.Part Q[k].2 t := by
            obtain ⟨k', rfl⟩ : ∃ k', k = k' + 1 := ⟨k - 1, by omega⟩
            have := places_tail t k' (by rw [← HQ.out]; exact hkt)
            simpa only [← HQ.out] using this
          have hkey : (o.Cmp t Q[k].2 == 3) = true := by
            have hf := Od.fit_of Hf.out
            have Ft := hf.2 t (by simp)
            obtain ⟨hkb, hok⟩ := hf.1.kb_part hpart Ft.ok
            rw [hf.1.Cmp_above Ft ⟨hok, by have := hpart.size; have := Ft.size; omega⟩]
            exact hkb
          have KA := fun (w : World) (vo v x : Value) => kAbove_any o t Q[k].2 w vo v x (by have := Hzt.out; omega) (by have := Hzt.out; have := hpart.size; omega)
          generalize (o.Cmp t Q[k].2 == 3) = rr at *
          have Hkey := Lib.hid hkey
          have KA := Lib.hid KA
          have Hho2 := Lib.hid (Hho.out.below Hhw.out)
          have Hht2 := Lib.hid (Hh1.out.below Hhw.out)
          have hq2 := Hq12.out.2
          have z1 : (k : Int) < (Q.length : Int) := by omega
          clear hkey hpart hS c0 hp1 ht1
          have Hu0 := Lib.hid u0
          have Hu1 := Lib.hid u1
          have Hu2 := Lib.hid u2
          have Hu3 := Lib.hid u3
          have Hs0 := Lib.hid s0
          have Hs1 := Lib.hid s1
          have Hc1 := Lib.hid c1
          have Hc2 := Lib.hid c2
          clear u0 u1 u2 u3 s0 s1 c1 c2
          go_wp2_with (with_reducible refine stop_region ?_)
          refine Stop.mk ?_
          refine wp_region_lit (optR (subSp w o t Q a3 a4 e1 c3 c4 d1 b2 o2 qc k xu xv rr)) [false, false, false, false, false, false, false, false, false, false, false, false, false, false, false, false, false, false, false, false, false, false, false, false, false, false, false, false, false, true, true, true, true, true, true, true, true, true, false] (by kernel_rfl) (by kernel_rfl) (by kernel_rfl) (optKeep _) ?_ ?_
          · refine ⟨⟨true, .none rfl, fun h w => optUndef h, fun hβ fx wx hwx hn hd => ?_⟩, ?_⟩
            · exact wp_ld_apiOrder rfl ((rel_eval (by kernel_rfl)).trans (show fx 4 = .pointer (some ⟨(w.heap.size + 1), 0, none⟩) from hn 4 (by kernel_rfl))) (bkeeps hwx _ _ (Hu0.out)) (bkeeps hwx _ _ (Hu1.out)) (bkeeps hwx _ _ (Hu2.out)) (bkeeps hwx _ _ (Hu3.out)) ⟨_, rfl, Below.refl _ _, optDef hβ rfl⟩
            refine ⟨⟨true, .none rfl, fun h w => optUndef h, fun hβ fx wx hwx hn hd => ?_⟩, ?_⟩
            · exact wp_ld_apiTerm rfl ((rel_eval (by kernel_rfl)).trans (show fx 5 = .pointer (some ⟨(w.heap.size + 2), 0, none⟩) from hn 5 (by kernel_rfl))) (bkeeps hwx _ _ (Hs0.out)) (bkeeps hwx _ _ (Hs1.out)) ⟨_, rfl, Below.refl _ _, optDef hβ rfl⟩
            refine ⟨⟨true, .none rfl, fun h w => optUndef h, fun hβ fx wx hwx hn hd => ?_⟩, ?_⟩
            · exact wp_move rfl ((rel_eval (by kernel_rfl)).trans (show fx 7 = .slice (some ⟨b2, o2, none⟩) Q.length qc from hn 7 (by kernel_rfl))) ⟨_, rfl, Below.refl _ _, optDef hβ rfl⟩
            refine ⟨⟨true, .none rfl, fun h w => optUndef h, fun hβ fx wx hwx hn hd => ?_⟩, ?_⟩
            · exact wp_move rfl ((rel_eval (by kernel_rfl)).trans (show fx 8 = .int .i64 k from hn 8 (by kernel_rfl))) ⟨_, rfl, Below.refl _ _, optDef hβ rfl⟩
            refine ⟨⟨true, .none rfl, fun h w => optUndef h, fun hβ fx wx hwx hn hd => ?_⟩, ?_⟩
            · exact wp_ix_Lsyllogismref02Place rfl ((rel_eval (by kernel_rfl)).trans (optVal (x := .slice (some ⟨b2, o2, none⟩) Q.length qc) (β := true) (hd 2 31 (by kernel_rfl)) rfl rfl)) ((rel_eval (by kernel_rfl)).trans (optVal (x := .int .i64 k) (β := true) (hd 3 32 (by kernel_rfl)) rfl rfl)) (hkt) ⟨_, rfl, Below.refl _ _, optDef hβ rfl⟩
            refine ⟨⟨true, .none rfl, fun h w => optUndef h, fun hβ fx wx hwx hn hd => ?_⟩, ?_⟩
            · exact wp_fld_syllogismref02Place_1 rfl ((rel_eval (by kernel_rfl)).trans (optVal (x := .pointer (some ⟨b2, o2 + k * 3, none⟩)) (β := true) (hd 4 33 (by kernel_rfl)) rfl rfl)) ⟨_, rfl, Below.refl _ _, optDef hβ rfl⟩
            refine ⟨⟨true, .none rfl, fun h w => optUndef h, fun hβ fx wx hwx hn hd => ?_⟩, ?_⟩
            · exact wp_ld_apiTerm rfl ((rel_eval (by kernel_rfl)).trans (optVal (x := .pointer (some ⟨b2, o2 + k * 3 + 1, none⟩)) (β := true) (hd 5 34 (by kernel_rfl)) rfl rfl)) (bkeeps hwx _ _ (Hc1.out)) (bkeeps hwx _ _ (Hc2.out)) ⟨_, rfl, Below.refl _ _, optDef hβ rfl⟩
            refine ⟨⟨true, .none rfl, fun h w => optUndef h, fun hβ fx wx hwx hn hd => ?_⟩, ?_⟩
            · exact wp_call (by kernel_rfl) rfl (hv3 ((rel_eval (by kernel_rfl)).trans (optVal (x := (.agg #[.bool o.lpo, .slice a3 o.prec.length c3, .slice a4 o.weights.length c4, .int .i64 o.var])) (β := true) (hd 0 29 (by kernel_rfl)) rfl rfl)) ((rel_eval (by kernel_rfl)).trans (optVal (x := (.agg #[.int .i64 t.f, .slice e1 t.args.length d1])) (β := true) (hd 1 30 (by kernel_rfl)) rfl rfl)) ((rel_eval (by kernel_rfl)).trans (optVal (x := (.agg #[xu, xv])) (β := true) (hd 6 35 (by kernel_rfl)) rfl rfl))) (spec_of2 (KA.out _ _ _ _ (Hho2.out.below hwx) (Hht2.out.below hwx) (Hx.out.below hwx))) (fun v w' h => ⟨v, rfl, h.1, optDef hβ h.2⟩)
            refine ⟨⟨true, .none rfl, fun h w => optUndef h, fun hβ fx wx hwx hn hd => ?_⟩, ?_⟩
            · exact wp_not rfl ((rel_eval (by kernel_rfl)).trans (optVal (x := .bool rr) (β := true) (hd 7 36 (by kernel_rfl)) rfl rfl)) ⟨_, rfl, Below.refl _ _, optDef hβ rfl⟩
            exact trivial
          intro ux w3 hb3 hu
          have eu := optVal (x := .bool (!rr)) (β := true) (hu 8 37 (by kernel_rfl)) rfl rfl
          simp only [finM]
          rw [eu]
          clear hu eu
          obtain rfl : rr = true := Hkey.out
          have hw := Lib.hid (bstep Hhw.out hb3)
          have B0 := HB0.out.below hb3
          have B1 := HB1.out.below hb3
          have B2 := HB2.out.below hb3
          clear Hhw HB0 HB1 HB2
          have Hhw := hw
          clear hw
          have HB0 := Lib.hid B0
          have HB1 := Lib.hid B1
          have HB2 := Lib.hid B2
          clear B0 B1 B2
          go_wp2_with fail
          go_roundw
          case rel => exact ⟨k + 1, by omega, by omega, by go_num, Hhw.out, HB0.out, HB1.out, HB2.out, HI.out.below hb3⟩
          case measure => simp [intOf]; omega
        · go_wp2_with fail
          refine (WK _).mono ?_
          rintro e w9 ⟨rfl, hb9⟩
          go_wp2_with fail
          go_ret
          exact ⟨rfl, bstep Hhw.out hb9⟩

end Go.Proofs.Ytjkpecjlpgcalaa
