/- The walk through KboStable: it answers true. -/
import Derived.Test.YtjkpecjlpgcalaaLawRows
import Derived.Test.YtjkpecjlpgcalaaKboLaws
import Derived.Test.YtjkpecjlpgcalaaPut
import Derived.Test.YtjkpecjlpgcalaaTwo
import Derived.Test.YtjkpecjlpgcalaaWakes
namespace Go.Proofs.Ytjkpecjlpgcalaa
open Go.RowKit Go.Sort Go

def stableSp (w : World) (s t : T) (ls : List T) (al e1 e2 : Option Addr) (cl d1 d2 : Nat) : List (Bool × Value) := [(true, (.agg #[.int .i64 s.f, .slice e1 s.args.length d1])), (true, .slice al ls.length cl), (true, undef), (true, (.agg #[.int .i64 t.f, .slice e2 t.args.length d2])), (true, .slice al ls.length cl), (true, undef), (true, undef), (true, undef), (true, undef), (true, undef)]

namespace T
mutual
theorem put_size {M : Nat} (hM : 1 ≤ M) {ls : List T} (h : ∀ x ∈ ls, size x ≤ M) : ∀ t : T, size (put ls t) ≤ size t * M
  | .mk f l => by
    rw [put]
    split
    · rw [List.getD_eq_getElem?_getD]
      cases hx : ls[(-1 - f).toNat]? with
      | none => simp only [Option.getD_none]; exact Nat.le_mul_of_pos_right _ (by omega)
      | some x =>
        have := h x (List.mem_of_getElem? hx)
        have h1 : 1 ≤ size (.mk f l) := by rw [size]; omega
        simp only [Option.getD_some]
        exact Nat.le_trans this (Nat.le_mul_of_pos_left _ (by omega))
    · rw [size, size, Nat.add_mul]
      have := putL_size hM h l
      omega
theorem putL_size {M : Nat} (hM : 1 ≤ M) {ls : List T} (h : ∀ x ∈ ls, size x ≤ M) : ∀ l : List T, sizeL (putL ls l) ≤ sizeL l * M
  | [] => by simp [putL, sizeL]
  | a :: r => by
    rw [putL, sizeL, sizeL, Nat.add_mul]
    have := put_size hM h a
    have := putL_size hM h r
    omega
end
end T

set_option maxRecDepth 100000 in
set_option maxHeartbeats 8000000 in
theorem stable_any (sg : List Sy) (o : Od) (s t : T) (ls : List T) (w : World) (vs vo v1 v2 : Value) (al : Option Addr) (cl : Nat) (zs : s.size ≤ 1048576) (zt : t.size ≤ 1048576) (zl : T.sizeL ls ≤ 1048576) (hs : IsSig w sg vs) (ho : IsOd w o vo) (h1 : IsT w s v1) (h2 : IsT w t v2) (hlc : ls.length ≤ cl) (hlm : cl ≤ maxLen) (hl : IsTs w ls al 0) :
    Calls Try.prog 6 #[vs, vo, v1, v2, .slice al ls.length cl] w fun e w' => e = .returned (.bool true) ∧ Below w.heap.size w w' := by
  have WK := fun w => wakes_any w
  have hz : ∀ x ∈ [s, t], x.size ≤ 4294967296 := by intro x hx; simp at hx; rcases hx with rfl | rfl <;> omega
  have Hhs := Lib.hid hs
  have Hho := Lib.hid ho
  have Hh1 := Lib.hid h1
  have Hh2 := Lib.hid h2
  have Hhl := Lib.hid hl
  have Hlc := Lib.hid (And.intro hlc hlm)
  obtain ⟨a, c, rfl, _, _, _⟩ := hs
  obtain ⟨a3, a4, c3, c4, rfl, n1, n2, n3, n4, _, _, _⟩ := ho
  obtain ⟨_, e1, d1, rfl, _, _, _⟩ := h1.form
  obtain ⟨_, e2, d2, rfl, _, _, _⟩ := h2.form
  have Hhz := Lib.hid hz
  have Hzz := Lib.hid (And.intro zs (And.intro zt zl))
  have GL := fun w h => great_any ls w al cl hlc hlm h
  clear hz n1 n2 n3 n4 h1 h2 hl hlc hlm zs zt zl
  go_enter Try.func6, Try.ntmps6
  go_wp2_with fail
  refine (great_row (w := (((w.alloc _).alloc _).alloc _).alloc _) (by simp) (terms2 (t := s) (s := t) (Hh1.out.below ?b1) (Hh2.out.below ?b1))).mono ?_
  case b1 => exact bstep (balloc2 _ _ _) (balloc2 _ _ _)
  rintro e w1 ⟨⟨b, rfl⟩, hb1⟩
  obtain ⟨B0, B1, B2, B3, hw⟩ := box4 hb1
  clear hb1
  have Hhw := Lib.hid hw
  have HB0 := Lib.hid B0
  have HB1 := Lib.hid B1
  have HB2 := Lib.hid B2
  have HB3 := Lib.hid B3
  clear hw B0 B1 B2 B3
  have k0 := HB0.out 0 _ rfl
  obtain ⟨u0, u1, u2, u3⟩ := HB1.out.four
  obtain ⟨s0, s1⟩ := HB2.out.two
  obtain ⟨t0, t1⟩ := HB3.out.two
  cases b with
  | true =>
    go_wp2_with fail
    refine (WK _).mono ?_
    rintro e w9 ⟨rfl, hb9⟩
    go_wp2_with fail
    go_ret
    exact ⟨rfl, bstep Hhw.out hb9⟩
  | false =>
    by_cases h8 : 8 < ls.length
    · have h8' : (8 : Int) < (ls.length : Int) := by omega
      clear h8
      go_wp2_with fail
      refine (WK _).mono ?_
      rintro e w9 ⟨rfl, hb9⟩
      go_wp2_with fail
      go_ret
      exact ⟨rfl, bstep Hhw.out hb9⟩
    · have h8' : ¬ (8 : Int) < (ls.length : Int) := by omega
      clear h8
      go_wp2_with fail
      refine (GL _ (Hhl.out.below Hhw.out)).mono ?_
      rintro e w3 ⟨⟨b, rfl⟩, hb3⟩
      clear k0 u0 u1 u2 u3 s0 s1 t0 t1
      have hw := Lib.hid (bstep Hhw.out hb3)
      have B0 := HB0.out.below hb3
      have B1 := HB1.out.below hb3
      have B2 := HB2.out.below hb3
      have B3 := HB3.out.below hb3
      clear Hhw HB0 HB1 HB2 HB3
      have Hhw := hw
      clear hw
      have HB0 := Lib.hid B0
      have HB1 := Lib.hid B1
      have HB2 := Lib.hid B2
      have HB3 := Lib.hid B3
      clear B0 B1 B2 B3
      clear hb3
      have k0 := HB0.out 0 _ rfl
      obtain ⟨u0, u1, u2, u3⟩ := HB1.out.four
      obtain ⟨s0, s1⟩ := HB2.out.two
      obtain ⟨t0, t1⟩ := HB3.out.two
      clear GL
      cases b with
      | true =>
        go_wp2_with fail
        refine (WK _).mono ?_
        rintro e w9 ⟨rfl, hb9⟩
        go_wp2_with fail
        go_ret
        exact ⟨rfl, bstep Hhw.out hb9⟩
      | false =>
        go_wp2_with fail
        refine (fits_row (w := w3) Hhz.out rfl (Hhs.out.below Hhw.out) (Hho.out.below Hhw.out) (terms2 (t := s) (s := t) (Hh1.out.below Hhw.out) (Hh2.out.below Hhw.out))).mono ?_
        rintro e w2 ⟨⟨b, rfl, hb⟩, hb2⟩
        clear k0 u0 u1 u2 u3 s0 s1 t0 t1
        have hw := Lib.hid (bstep Hhw.out hb2)
        have B0 := HB0.out.below hb2
        have B1 := HB1.out.below hb2
        have B2 := HB2.out.below hb2
        have B3 := HB3.out.below hb2
        clear Hhw HB0 HB1 HB2 HB3
        have Hhw := hw
        clear hw
        have HB0 := Lib.hid B0
        have HB1 := Lib.hid B1
        have HB2 := Lib.hid B2
        have HB3 := Lib.hid B3
        clear B0 B1 B2 B3
        clear hb2
        have k0 := HB0.out 0 _ rfl
        obtain ⟨u0, u1, u2, u3⟩ := HB1.out.four
        obtain ⟨s0, s1⟩ := HB2.out.two
        obtain ⟨t0, t1⟩ := HB3.out.two
        cases b with
        | false =>
          clear hb
          go_wp2_with fail
          refine (WK _).mono ?_
          rintro e w9 ⟨rfl, hb9⟩
          go_wp2_with fail
          go_ret
          exact ⟨rfl, bstep Hhw.out hb9⟩
        | true =>
          have hf := Lib.hid (hb rfl)
          clear hb
          have P1 := Lib.hid (fun (W : World) (hW : Below w.heap.size w W) (hB : w.heap.size ≤ W.heap.size) => put_any w.heap.size ls s W _ al cl (by have := Hzz.out; omega) (InT.old hW (Nat.le_refl _) Hh1.out.inT) (InTs.old hW (Nat.le_refl _) Hhl.out.inTs) Hlc.out.1 Hlc.out.2 hB)
          have P2 := Lib.hid (fun (W : World) (hW : Below w.heap.size w W) (hB : w.heap.size ≤ W.heap.size) => put_any w.heap.size ls t W _ al cl (by have := Hzz.out; omega) (InT.old hW (Nat.le_refl _) Hh2.out.inT) (InTs.old hW (Nat.le_refl _) Hhl.out.inTs) Hlc.out.1 Hlc.out.2 hB)
          have HW := Hhw
          have Hsz := Lib.hid Hhw.out.size
          have za : (s.put ls).size ≤ 4294967296 ∧ (t.put ls).size ≤ 4294967296 := by
            have q := hf.out.2.2
            have qs := (T.check_ok (q s (by simp))).2
            have qt := (T.check_ok (q t (by simp))).2
            have hm : ∀ x ∈ ls, x.size ≤ 1048576 := fun x hx => Nat.le_trans (T.size_le_sizeL hx) Hzz.out.2.2
            have r1 := T.put_size (M := 1048576) (by omega) hm s
            have r2 := T.put_size (M := 1048576) (by omega) hm t
            exact ⟨Nat.le_trans r1 (by omega), Nat.le_trans r2 (by omega)⟩
          have Hza := Lib.hid za
          clear za
          have Hs0 := Lib.hid s0
          have Hs1 := Lib.hid s1
          have Ht0 := Lib.hid t0
          have Ht1 := Lib.hid t1
          clear s0 s1 t0 t1
          go_wp2_with (with_reducible refine stop_region ?_)
          refine Stop.mk ?_
          refine wp_region_mem [2, 5, 6, 7, 8, 9] (optP (stableSp w s t ls al e1 e2 cl d1 d2)) (TwoG w.heap.size w2 (s.put ls) (t.put ls)) [false, false, false, false, false, false, false, false, false, false, false, true, true, false, false, false, false, false, false, false, false, false, false, false, false, false, false, false, false, false, false, false, false, false, false, false, true, true, true, true, true, true, false, false, false, false, false, false, false, false, false, false, false, false, false, false, false, false, false, false, false, false, false, false, false, false, false, false, false, false] (by kernel_rfl) (by kernel_rfl) (by decide) (by kernel_rfl) (by kernel_rfl) (⟨none, none, .start Hsz.out ((Below.refl _ _).drew)⟩) ?_ ?_
          · refine ⟨.inl ⟨by decide, true, .none rfl, fun h => optUndef h, fun hβ fx wx vs C => ?_⟩, ?_⟩
            · exact wp_ld_apiTerm rfl ((rel_eval (by kernel_rfl)).trans (show fx 7 = .pointer (some ⟨(w.heap.size + 2), 0, none⟩) from C.keep 7 (by kernel_rfl))) (bkeeps C.now.below _ _ Hs0.out) (bkeeps C.now.below _ _ Hs1.out) ⟨_, rfl, rfl, optDef hβ rfl⟩
            refine ⟨.inl ⟨by decide, true, .none rfl, fun h => optUndef h, fun hβ fx wx vs C => ?_⟩, ?_⟩
            · exact wp_move rfl ((rel_eval (by kernel_rfl)).trans (show fx 4 = .slice al ls.length cl from C.keep 4 (by kernel_rfl))) ⟨_, rfl, rfl, optDef hβ rfl⟩
            refine ⟨.inr ⟨0, rfl, rfl, fun fx wx vs C hnone => ?_⟩, ?_⟩
            · obtain ⟨c1, c2, a1, a2, s1, s2, g1, g2, rfl, h⟩ := C.now.out
              obtain rfl : c1 = none := by simpa using hnone
              obtain rfl : s1 = none := by simpa using C.most 4 8 rfl (by kernel_rfl)
              exact wp_call (by kernel_rfl) rfl (hv2 ((rel_eval (by kernel_rfl)).trans (optPVal (x := (.agg #[.int .i64 s.f, .slice e1 s.args.length d1])) (β := true) (C.dep 0 36 (by kernel_rfl) (by decide)) rfl rfl)) ((rel_eval (by kernel_rfl)).trans (optPVal (x := .slice al ls.length cl) (β := true) (C.dep 1 37 (by kernel_rfl) (by decide)) rfl rfl))) (P1.out _ (bstep HW.out C.now.below) C.now.le) (fun v w' hv => ⟨v, rfl, ⟨g1, g2, h.call1 hv.1 hv.2⟩⟩)
            refine ⟨.inl ⟨by decide, true, .none rfl, fun h => optUndef h, fun hβ fx wx vs C => ?_⟩, ?_⟩
            · exact wp_ld_apiTerm rfl ((rel_eval (by kernel_rfl)).trans (show fx 8 = .pointer (some ⟨(w.heap.size + 3), 0, none⟩) from C.keep 8 (by kernel_rfl))) (bkeeps C.now.below _ _ Ht0.out) (bkeeps C.now.below _ _ Ht1.out) ⟨_, rfl, rfl, optDef hβ rfl⟩
            refine ⟨.inl ⟨by decide, true, .none rfl, fun h => optUndef h, fun hβ fx wx vs C => ?_⟩, ?_⟩
            · exact wp_move rfl ((rel_eval (by kernel_rfl)).trans (show fx 4 = .slice al ls.length cl from C.keep 4 (by kernel_rfl))) ⟨_, rfl, rfl, optDef hβ rfl⟩
            refine ⟨.inr ⟨1, rfl, rfl, fun fx wx vs C hnone => ?_⟩, ?_⟩
            · obtain ⟨c1, c2, a1, a2, s1, s2, g1, g2, rfl, h⟩ := C.now.out
              obtain rfl : c2 = none := by simpa using hnone
              obtain rfl : s2 = none := by simpa using C.most 5 9 rfl (by kernel_rfl)
              exact wp_call (by kernel_rfl) rfl (hv2 ((rel_eval (by kernel_rfl)).trans (optPVal (x := (.agg #[.int .i64 t.f, .slice e2 t.args.length d2])) (β := true) (C.dep 3 39 (by kernel_rfl) (by decide)) rfl rfl)) ((rel_eval (by kernel_rfl)).trans (optPVal (x := .slice al ls.length cl) (β := true) (C.dep 4 40 (by kernel_rfl) (by decide)) rfl rfl))) (P2.out _ (bstep HW.out C.now.below) C.now.le) (fun v w' hv => ⟨v, rfl, ⟨g1, g2, h.call2 hv.1 hv.2⟩⟩)
            refine ⟨.inr ⟨2, rfl, rfl, fun fx wx vs C hnone => ?_⟩, ?_⟩
            · obtain ⟨c1, c2, a1, a2, s1, s2, g1, g2, rfl, h⟩ := C.now.out
              obtain rfl : a1 = none := by simpa using hnone
              obtain rfl : s1 = none := by simpa using C.most 4 8 rfl (by kernel_rfl)
              exact wp_allocT rfl ⟨_, rfl, ⟨_, g2, h.alloc1⟩⟩
            refine ⟨.inr ⟨3, rfl, rfl, fun fx wx vs C hnone => ?_⟩, ?_⟩
            · obtain ⟨c1, c2, a1, a2, s1, s2, g1, g2, rfl, h⟩ := C.now.out
              obtain rfl : a2 = none := by simpa using hnone
              obtain rfl : s2 = none := by simpa using C.most 5 9 rfl (by kernel_rfl)
              exact wp_allocT rfl ⟨_, rfl, ⟨g1, _, h.alloc2⟩⟩
            refine ⟨.inr ⟨4, rfl, rfl, fun fx wx vs C hnone => ?_⟩, ?_⟩
            · obtain ⟨c1, c2, a1, a2, s1, s2, g1, g2, rfl, h⟩ := C.now.out
              obtain rfl : s1 = none := by simpa using hnone
              have l0 := C.link 2 6 11 rfl (by kernel_rfl)
              have l1 := C.link 0 2 38 rfl (by kernel_rfl)
              exact h.store1_op rfl (by simpa using l1) (by simpa using l0) (rel_eval (by kernel_rfl)) (rel_eval (by kernel_rfl)) (fun q w' hq => ⟨q, rfl, hq⟩)
            refine ⟨.inr ⟨5, rfl, rfl, fun fx wx vs C hnone => ?_⟩, ?_⟩
            · obtain ⟨c1, c2, a1, a2, s1, s2, g1, g2, rfl, h⟩ := C.now.out
              obtain rfl : s2 = none := by simpa using hnone
              have l0 := C.link 3 7 12 rfl (by kernel_rfl)
              have l1 := C.link 1 5 41 rfl (by kernel_rfl)
              exact h.store2_op rfl (by simpa using l1) (by simpa using l0) (rel_eval (by kernel_rfl)) (rel_eval (by kernel_rfl)) (fun q w' hq => ⟨q, rfl, hq⟩)
            exact trivial
          intro ux w3 vs hlen hall hG hu hch
          obtain ⟨c1, c2, a1, a2, s1, s2, g1, g2, rfl, hS⟩ := hG.out
          clear hG
          obtain ⟨y1, hy1⟩ := hall 0 (by decide)
          obtain ⟨y2, hy2⟩ := hall 1 (by decide)
          obtain ⟨y3, hy3⟩ := hall 2 (by decide)
          obtain ⟨y4, hy4⟩ := hall 3 (by decide)
          obtain ⟨y5, hy5⟩ := hall 4 (by decide)
          obtain ⟨y6, hy6⟩ := hall 5 (by decide)
          simp only [List.getElem?_cons_zero, List.getElem?_cons_succ, Option.some.injEq] at hy1 hy2 hy3 hy4 hy5 hy6
          subst hy1 hy2 hy3 hy4 hy5 hy6
          have l11 := hch 2 6 11 rfl (by kernel_rfl)
          have l12 := hch 3 7 12 rfl (by kernel_rfl)
          simp only [List.getElem?_cons_zero, List.getElem?_cons_succ, Option.some.injEq] at l11 l12
          have hbW := hS.below
          obtain ⟨ga, gb, x0, x1, z0, z1, r1, r2, A0, A1, ta, tb⟩ := hS.end_
          have e11 := l11.symm.trans r1
          have e12 := l12.symm.trans r2
          clear l11 l12 r1 r2 hS hch hu hall P1 P2 HW Hsz Hs0 Hs1 Ht0 Ht1 hlen k0 u0 u1 u2 u3
          simp only [finM]
          rw [e11, e12]
          obtain ⟨_, ea, da, hx, _, _, _⟩ := id ta.form
          obtain ⟨_, eb, db, hz, _, _, _⟩ := id tb.form
          simp only [Value.agg.injEq, Array.mk.injEq, List.cons.injEq, and_true] at hx hz
          obtain ⟨rfl, rfl⟩ := hx
          obtain ⟨rfl, rfl⟩ := hz
          clear e11 e12
          have hw := Lib.hid (bstep Hhw.out hbW)
          have B0 := HB0.out.below hbW
          have B1 := HB1.out.below hbW
          have B2 := HB2.out.below hbW
          have B3 := HB3.out.below hbW
          clear Hhw HB0 HB1 HB2 HB3
          have Hhw := hw
          clear hw
          have HB0 := Lib.hid B0
          have HB1 := Lib.hid B1
          have HB2 := Lib.hid B2
          have HB3 := Lib.hid B3
          clear B0 B1 B2 B3
          have HA0 := Lib.hid A0
          have HA1 := Lib.hid A1
          have Hta := Lib.hid ta
          have Htb := Lib.hid tb
          clear A0 A1 ta tb
          clear hbW
          have k0 := HB0.out 0 _ rfl
          obtain ⟨u0, u1, u2, u3⟩ := HB1.out.four
          obtain ⟨s0, s1⟩ := HB2.out.two
          obtain ⟨t0, t1⟩ := HB3.out.two
          obtain ⟨p0, p1⟩ := HA0.out.two
          obtain ⟨q0, q1⟩ := HA1.out.two
          have KA := fun w vo v x a b c => kAbove_any o s t w vo v x (by have := Hzz.out; omega) (by have := Hzz.out; omega) a b c
          have KB := fun w vo v x a b c => kAbove_any o (s.put ls) (t.put ls) w vo v x Hza.out.1 Hza.out.2 a b c
          have Hz2 := Lib.hid (show ∀ x ∈ [s.put ls, t.put ls], x.size ≤ 4294967296 by intro x hx; simp at hx; rcases hx with rfl | rfl; exact Hza.out.1; exact Hza.out.2)
          go_wp2_with fail
          refine (great_row (w := w3) rfl (terms2 (t := s.put ls) (s := t.put ls) Hta.out Htb.out)).mono ?_
          rintro e w4 ⟨⟨b, rfl⟩, hb4⟩
          clear k0 u0 u1 u2 u3 s0 s1 t0 t1
          clear p0 p1 q0 q1
          have hw := Lib.hid (bstep Hhw.out hb4)
          have B0 := HB0.out.below hb4
          have B1 := HB1.out.below hb4
          have B2 := HB2.out.below hb4
          have B3 := HB3.out.below hb4
          clear Hhw HB0 HB1 HB2 HB3
          have Hhw := hw
          clear hw
          have HB0 := Lib.hid B0
          have HB1 := Lib.hid B1
          have HB2 := Lib.hid B2
          have HB3 := Lib.hid B3
          clear B0 B1 B2 B3
          have A0 := HA0.out.below hb4
          have A1 := HA1.out.below hb4
          have ta := Hta.out.below hb4
          have tb := Htb.out.below hb4
          clear HA0 HA1 Hta Htb
          have HA0 := Lib.hid A0
          have HA1 := Lib.hid A1
          have Hta := Lib.hid ta
          have Htb := Lib.hid tb
          clear A0 A1 ta tb
          clear hb4
          have k0 := HB0.out 0 _ rfl
          obtain ⟨u0, u1, u2, u3⟩ := HB1.out.four
          obtain ⟨s0, s1⟩ := HB2.out.two
          obtain ⟨t0, t1⟩ := HB3.out.two
          obtain ⟨p0, p1⟩ := HA0.out.two
          obtain ⟨q0, q1⟩ := HA1.out.two
          cases b with
          | true =>
            go_wp2_with fail
            refine (WK _).mono ?_
            rintro e w9 ⟨rfl, hb9⟩
            go_wp2_with fail
            go_ret
            exact ⟨rfl, bstep Hhw.out hb9⟩
          | false =>
            go_wp2_with fail
            refine (fits_row (w := w4) Hz2.out rfl (Hhs.out.below Hhw.out) (Hho.out.below Hhw.out) (terms2 (t := s.put ls) (s := t.put ls) Hta.out Htb.out)).mono ?_
            rintro e w5 ⟨⟨b, rfl, hb⟩, hb5⟩
            clear k0 u0 u1 u2 u3 s0 s1 t0 t1
            clear p0 p1 q0 q1
            have hw := Lib.hid (bstep Hhw.out hb5)
            have B0 := HB0.out.below hb5
            have B1 := HB1.out.below hb5
            have B2 := HB2.out.below hb5
            have B3 := HB3.out.below hb5
            clear Hhw HB0 HB1 HB2 HB3
            have Hhw := hw
            clear hw
            have HB0 := Lib.hid B0
            have HB1 := Lib.hid B1
            have HB2 := Lib.hid B2
            have HB3 := Lib.hid B3
            clear B0 B1 B2 B3
            have A0 := HA0.out.below hb5
            have A1 := HA1.out.below hb5
            have ta := Hta.out.below hb5
            have tb := Htb.out.below hb5
            clear HA0 HA1 Hta Htb
            have HA0 := Lib.hid A0
            have HA1 := Lib.hid A1
            have Hta := Lib.hid ta
            have Htb := Lib.hid tb
            clear A0 A1 ta tb
            clear hb5
            have k0 := HB0.out 0 _ rfl
            obtain ⟨u0, u1, u2, u3⟩ := HB1.out.four
            obtain ⟨s0, s1⟩ := HB2.out.two
            obtain ⟨t0, t1⟩ := HB3.out.two
            obtain ⟨p0, p1⟩ := HA0.out.two
            obtain ⟨q0, q1⟩ := HA1.out.two
            cases b with
            | false =>
              clear hb
              go_wp2_with fail
              refine (WK _).mono ?_
              rintro e w9 ⟨rfl, hb9⟩
              go_wp2_with fail
              go_ret
              exact ⟨rfl, bstep Hhw.out hb9⟩
            | true =>
              have hkey : (o.Cmp s t == 3) = true → (o.Cmp (s.put ls) (t.put ls) == 3) = true := by
                have hf1 := Od.fit_of hf.out
                have hf2 := Od.fit_of (hb rfl)
                have G := hf1.1
                have Fs := hf1.2 s (by simp)
                have Ft := hf1.2 t (by simp)
                have Fa := hf2.2 (s.put ls) (by simp)
                have Fb := hf2.2 (t.put ls) (by simp)
                rw [G.Cmp_above Fs Ft, G.Cmp_above Fa Fb]
                exact G.kb_put ls s t Fs.ok Ft.ok Fa.ok Fb.ok
              have Hkey := Lib.hid hkey
              clear hb hkey
              generalize (o.Cmp s t == 3) = k1 at *
              generalize (o.Cmp (s.put ls) (t.put ls) == 3) = k2 at *
              go_wp2_with fail
              refine (KA _ _ _ _ (Hho.out.below Hhw.out) (Hh1.out.below Hhw.out) (Hh2.out.below Hhw.out)).mono ?_
              rintro e w6 ⟨rfl, hb6⟩
              clear k0 u0 u1 u2 u3 s0 s1 t0 t1
              clear p0 p1 q0 q1
              have hw := Lib.hid (bstep Hhw.out hb6)
              have B0 := HB0.out.below hb6
              have B1 := HB1.out.below hb6
              have B2 := HB2.out.below hb6
              have B3 := HB3.out.below hb6
              clear Hhw HB0 HB1 HB2 HB3
              have Hhw := hw
              clear hw
              have HB0 := Lib.hid B0
              have HB1 := Lib.hid B1
              have HB2 := Lib.hid B2
              have HB3 := Lib.hid B3
              clear B0 B1 B2 B3
              have A0 := HA0.out.below hb6
              have A1 := HA1.out.below hb6
              have ta := Hta.out.below hb6
              have tb := Htb.out.below hb6
              clear HA0 HA1 Hta Htb
              have HA0 := Lib.hid A0
              have HA1 := Lib.hid A1
              have Hta := Lib.hid ta
              have Htb := Lib.hid tb
              clear A0 A1 ta tb
              clear hb6
              have k0 := HB0.out 0 _ rfl
              obtain ⟨u0, u1, u2, u3⟩ := HB1.out.four
              obtain ⟨s0, s1⟩ := HB2.out.two
              obtain ⟨t0, t1⟩ := HB3.out.two
              obtain ⟨p0, p1⟩ := HA0.out.two
              obtain ⟨q0, q1⟩ := HA1.out.two
              cases k1 with
              | false =>
                go_wp2_with fail
                refine (WK _).mono ?_
                rintro e w9 ⟨rfl, hb9⟩
                go_wp2_with fail
                go_ret
                exact ⟨rfl, bstep Hhw.out hb9⟩
              | true =>
                obtain rfl : k2 = true := Hkey.out rfl
                go_wp2_with fail
                refine (KB _ _ _ _ (Hho.out.below Hhw.out) Hta.out Htb.out).mono ?_
                rintro e w7 ⟨rfl, hb7⟩
                clear k0 u0 u1 u2 u3 s0 s1 t0 t1
                clear p0 p1 q0 q1
                have hw := Lib.hid (bstep Hhw.out hb7)
                have B0 := HB0.out.below hb7
                have B1 := HB1.out.below hb7
                have B2 := HB2.out.below hb7
                have B3 := HB3.out.below hb7
                clear Hhw HB0 HB1 HB2 HB3
                have Hhw := hw
                clear hw
                have HB0 := Lib.hid B0
                have HB1 := Lib.hid B1
                have HB2 := Lib.hid B2
                have HB3 := Lib.hid B3
                clear B0 B1 B2 B3
                clear hb7
                go_wp2_with fail
                refine (WK _).mono ?_
                rintro e w9 ⟨rfl, hb9⟩
                go_wp2_with fail
                go_ret
                exact ⟨rfl, bstep Hhw.out hb9⟩

end Go.Proofs.Ytjkpecjlpgcalaa
