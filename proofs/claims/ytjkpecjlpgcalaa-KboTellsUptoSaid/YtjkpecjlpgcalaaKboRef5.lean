/- The document's order of Knuth and Bendix: how two terms stand. -/
import Derived.Test.YtjkpecjlpgcalaaKboRef4
namespace Go.Proofs.Ytjkpecjlpgcalaa
open Go.RowKit Go.Sort Go


set_option maxRecDepth 100000 in
theorem rCmp_any (o : Od) (s t : T) (w : World) (vo v u : Value) (zs : s.size ≤ 4294967296) (zt : t.size ≤ 4294967296) (ho : IsOd w o vo) (hs : IsT w s v) (ht : IsT w t u) :
    Calls Try.prog 10 #[vo, v, u] w fun e w' => e = .returned (.int .i64 (o.Cmp s t)) ∧ Below w.heap.size w w' := by
  have K1 := fun w vo v => rknows_any o s w vo v
  have K2 := fun w vo v => rknows_any o t w vo v
  have SM := fun w v u => rsame_any s t w v u
  have A1 := fun w vo v u => above_any o s t w vo v u zs zt
  have A2 := fun w vo v u => above_any o t s w vo v u zt zs
  have ho0 := ho
  obtain ⟨a3, a4, c3, c4, rfl, n1, n2, n3, n4, p1, p2, _⟩ := ho0
  obtain ⟨_, a1, c1, rfl, _, _, _⟩ := hs.form
  obtain ⟨_, a2, c2, rfl, _, _, _⟩ := ht.form
  have E : o.Cmp s t = if o.knows s && o.knows t then o.cmp s t else 0 := rfl
  clear p1 p2
  cases k1 : o.knows s with
  | false =>
    rw [k1] at K1 E
    have HE := Lib.hid (show o.Cmp s t = 0 by rw [E]; rfl)
    have Hho := Lib.hid ho
    have Hhs := Lib.hid hs
    have Hht := Lib.hid ht
    clear ho hs ht
    clear E k1 K2 SM A1 A2
    go_enter Try.func10, Try.ntmps10
    go_wp2_with fail
    refine (K1 _ _ _ (Hho.out.below (bstep (balloc2 _ _ _) (balloc _ _))) (Hhs.out.below (bstep (balloc2 _ _ _) (balloc _ _)))).mono ?_
    rintro e w1 ⟨rfl, hb1⟩
    obtain ⟨B1, B2, B3, hw1⟩ := box3 hb1
    clear hb1
    obtain ⟨u0, u1, u2, u3⟩ := B1.four
    obtain ⟨s0, s1⟩ := B2.two
    obtain ⟨t0, t1⟩ := B3.two
    have Hhw1 := Lib.hid hw1
    have HB1 := Lib.hid B1
    have HB2 := Lib.hid B2
    have HB3 := Lib.hid B3
    clear hw1 B1 B2 B3
    go_wp2_with fail
    go_ret
    exact ⟨rint HE.out, Hhw1.out⟩
  | true =>
    cases k2 : o.knows t with
    | false =>
      rw [k1] at K1
      rw [k1, k2] at E
      rw [k2] at K2
      have HE := Lib.hid (show o.Cmp s t = 0 by rw [E]; rfl)
      have Hho := Lib.hid ho
      have Hhs := Lib.hid hs
      have Hht := Lib.hid ht
      clear ho hs ht
      clear E k1 k2 SM A1 A2
      go_enter Try.func10, Try.ntmps10
      go_wp2_with fail
      refine (K1 _ _ _ (Hho.out.below (bstep (balloc2 _ _ _) (balloc _ _))) (Hhs.out.below (bstep (balloc2 _ _ _) (balloc _ _)))).mono ?_
      rintro e w1 ⟨rfl, hb1⟩
      obtain ⟨B1, B2, B3, hw1⟩ := box3 hb1
      clear hb1
      obtain ⟨u0, u1, u2, u3⟩ := B1.four
      obtain ⟨s0, s1⟩ := B2.two
      obtain ⟨t0, t1⟩ := B3.two
      have Hhw1 := Lib.hid hw1
      have HB1 := Lib.hid B1
      have HB2 := Lib.hid B2
      have HB3 := Lib.hid B3
      clear hw1 B1 B2 B3
      go_wp2_with fail
      refine (K2 _ _ _ (Hho.out.below Hhw1.out) (Hht.out.below Hhw1.out)).mono ?_
      rintro e w2 ⟨rfl, hb2⟩
      go_wp2_with fail
      go_ret
      exact ⟨rint HE.out, bstep Hhw1.out hb2⟩
    | true =>
      have A1 := fun w vo v u => A1 w vo v u k1 k2
      have A2 := fun w vo v u => A2 w vo v u k2 k1
      rw [k1] at K1
      rw [k1, k2] at E
      rw [k2] at K2
      have E2 : o.Cmp s t = (if T.same s t then 2 else if o.above s t then 3 else if o.above t s then 1 else 0) := by rw [E]; rfl
      clear E k1 k2
      cases hsm : T.same s t with
      | true =>
        rw [hsm] at SM E2
        have HE := Lib.hid (show o.Cmp s t = 2 by rw [E2]; rfl)
        have Hho := Lib.hid ho
        have Hhs := Lib.hid hs
        have Hht := Lib.hid ht
        clear ho hs ht
        clear E2 hsm A1 A2
        go_enter Try.func10, Try.ntmps10
        go_wp2_with fail
        refine (K1 _ _ _ (Hho.out.below (bstep (balloc2 _ _ _) (balloc _ _))) (Hhs.out.below (bstep (balloc2 _ _ _) (balloc _ _)))).mono ?_
        rintro e w1 ⟨rfl, hb1⟩
        obtain ⟨B1, B2, B3, hw1⟩ := box3 hb1
        clear hb1
        obtain ⟨u0, u1, u2, u3⟩ := B1.four
        obtain ⟨s0, s1⟩ := B2.two
        obtain ⟨t0, t1⟩ := B3.two
        have Hhw1 := Lib.hid hw1
        have HB1 := Lib.hid B1
        have HB2 := Lib.hid B2
        have HB3 := Lib.hid B3
        clear hw1 B1 B2 B3
        go_wp2_with fail
        refine (K2 _ _ _ (Hho.out.below Hhw1.out) (Hht.out.below Hhw1.out)).mono ?_
        rintro e w2 ⟨rfl, hb2⟩
        clear u0 u1 u2 u3 s0 s1 t0 t1
        have hw2 := bstep Hhw1.out hb2
        have C1 := HB1.out.below hb2
        have C2 := HB2.out.below hb2
        have C3 := HB3.out.below hb2
        obtain ⟨u0, u1, u2, u3⟩ := C1.four
        obtain ⟨s0, s1⟩ := C2.two
        obtain ⟨t0, t1⟩ := C3.two
        clear hb2 Hhw1 HB1 HB2 HB3
        have Hhw2 := Lib.hid hw2
        have HC1 := Lib.hid C1
        have HC2 := Lib.hid C2
        have HC3 := Lib.hid C3
        clear hw2 C1 C2 C3
        go_wp2_with fail
        refine (SM _ _ _ (Hhs.out.below Hhw2.out) (Hht.out.below Hhw2.out)).mono ?_
        rintro e w3 ⟨rfl, hb3⟩
        go_wp2_with fail
        go_ret
        exact ⟨rint HE.out, bstep Hhw2.out hb3⟩
      | false =>
        rw [hsm] at SM E2
        cases h1 : o.above s t with
        | true =>
          rw [h1] at A1 E2
          have HE := Lib.hid (show o.Cmp s t = 3 by rw [E2]; rfl)
          have Hho := Lib.hid ho
          have Hhs := Lib.hid hs
          have Hht := Lib.hid ht
          clear ho hs ht
          clear E2 hsm A2 h1
          go_enter Try.func10, Try.ntmps10
          go_wp2_with fail
          refine (K1 _ _ _ (Hho.out.below (bstep (balloc2 _ _ _) (balloc _ _))) (Hhs.out.below (bstep (balloc2 _ _ _) (balloc _ _)))).mono ?_
          rintro e w1 ⟨rfl, hb1⟩
          obtain ⟨B1, B2, B3, hw1⟩ := box3 hb1
          clear hb1
          obtain ⟨u0, u1, u2, u3⟩ := B1.four
          obtain ⟨s0, s1⟩ := B2.two
          obtain ⟨t0, t1⟩ := B3.two
          have Hhw1 := Lib.hid hw1
          have HB1 := Lib.hid B1
          have HB2 := Lib.hid B2
          have HB3 := Lib.hid B3
          clear hw1 B1 B2 B3
          go_wp2_with fail
          refine (K2 _ _ _ (Hho.out.below Hhw1.out) (Hht.out.below Hhw1.out)).mono ?_
          rintro e w2 ⟨rfl, hb2⟩
          clear u0 u1 u2 u3 s0 s1 t0 t1
          have hw2 := bstep Hhw1.out hb2
          have C1 := HB1.out.below hb2
          have C2 := HB2.out.below hb2
          have C3 := HB3.out.below hb2
          obtain ⟨u0, u1, u2, u3⟩ := C1.four
          obtain ⟨s0, s1⟩ := C2.two
          obtain ⟨t0, t1⟩ := C3.two
          clear hb2 Hhw1 HB1 HB2 HB3
          have Hhw2 := Lib.hid hw2
          have HC1 := Lib.hid C1
          have HC2 := Lib.hid C2
          have HC3 := Lib.hid C3
          clear hw2 C1 C2 C3
          go_wp2_with fail
          refine (SM _ _ _ (Hhs.out.below Hhw2.out) (Hht.out.below Hhw2.out)).mono ?_
          rintro e w3 ⟨rfl, hb3⟩
          clear u0 u1 u2 u3 s0 s1 t0 t1
          have hw3 := bstep Hhw2.out hb3
          have C1 := HC1.out.below hb3
          have C2 := HC2.out.below hb3
          have C3 := HC3.out.below hb3
          obtain ⟨u0, u1, u2, u3⟩ := C1.four
          obtain ⟨s0, s1⟩ := C2.two
          obtain ⟨t0, t1⟩ := C3.two
          clear hb3 Hhw2 HC1 HC2 HC3
          have Hhw3 := Lib.hid hw3
          have HC1 := Lib.hid C1
          have HC2 := Lib.hid C2
          have HC3 := Lib.hid C3
          clear hw3 C1 C2 C3
          go_wp2_with fail
          refine (A1 _ _ _ _ (Hho.out.below Hhw3.out) (Hhs.out.below Hhw3.out) (Hht.out.below Hhw3.out)).mono ?_
          rintro e w4 ⟨rfl, hb4⟩
          go_wp2_with fail
          go_ret
          exact ⟨rint HE.out, bstep Hhw3.out hb4⟩
        | false =>
          rw [h1] at A1 E2
          have HE := Lib.hid (show o.Cmp s t = if o.above t s then 1 else 0 by rw [E2]; rfl)
          clear E2 hsm h1
          cases h2 : o.above t s with
          | true =>
            have HV := Lib.hid (show o.Cmp s t = 1 by rw [HE.out, h2]; rfl)
            rw [h2] at A2
            have Hho := Lib.hid ho
            have Hhs := Lib.hid hs
            have Hht := Lib.hid ht
            clear ho hs ht
            clear h2
            go_enter Try.func10, Try.ntmps10
            go_wp2_with fail
            refine (K1 _ _ _ (Hho.out.below (bstep (balloc2 _ _ _) (balloc _ _))) (Hhs.out.below (bstep (balloc2 _ _ _) (balloc _ _)))).mono ?_
            rintro e w1 ⟨rfl, hb1⟩
            obtain ⟨B1, B2, B3, hw1⟩ := box3 hb1
            clear hb1
            obtain ⟨u0, u1, u2, u3⟩ := B1.four
            obtain ⟨s0, s1⟩ := B2.two
            obtain ⟨t0, t1⟩ := B3.two
            have Hhw1 := Lib.hid hw1
            have HB1 := Lib.hid B1
            have HB2 := Lib.hid B2
            have HB3 := Lib.hid B3
            clear hw1 B1 B2 B3
            go_wp2_with fail
            refine (K2 _ _ _ (Hho.out.below Hhw1.out) (Hht.out.below Hhw1.out)).mono ?_
            rintro e w2 ⟨rfl, hb2⟩
            clear u0 u1 u2 u3 s0 s1 t0 t1
            have hw2 := bstep Hhw1.out hb2
            have C1 := HB1.out.below hb2
            have C2 := HB2.out.below hb2
            have C3 := HB3.out.below hb2
            obtain ⟨u0, u1, u2, u3⟩ := C1.four
            obtain ⟨s0, s1⟩ := C2.two
            obtain ⟨t0, t1⟩ := C3.two
            clear hb2 Hhw1 HB1 HB2 HB3
            have Hhw2 := Lib.hid hw2
            have HC1 := Lib.hid C1
            have HC2 := Lib.hid C2
            have HC3 := Lib.hid C3
            clear hw2 C1 C2 C3
            go_wp2_with fail
            refine (SM _ _ _ (Hhs.out.below Hhw2.out) (Hht.out.below Hhw2.out)).mono ?_
            rintro e w3 ⟨rfl, hb3⟩
            clear u0 u1 u2 u3 s0 s1 t0 t1
            have hw3 := bstep Hhw2.out hb3
            have C1 := HC1.out.below hb3
            have C2 := HC2.out.below hb3
            have C3 := HC3.out.below hb3
            obtain ⟨u0, u1, u2, u3⟩ := C1.four
            obtain ⟨s0, s1⟩ := C2.two
            obtain ⟨t0, t1⟩ := C3.two
            clear hb3 Hhw2 HC1 HC2 HC3
            have Hhw3 := Lib.hid hw3
            have HC1 := Lib.hid C1
            have HC2 := Lib.hid C2
            have HC3 := Lib.hid C3
            clear hw3 C1 C2 C3
            go_wp2_with fail
            refine (A1 _ _ _ _ (Hho.out.below Hhw3.out) (Hhs.out.below Hhw3.out) (Hht.out.below Hhw3.out)).mono ?_
            rintro e w4 ⟨rfl, hb4⟩
            clear u0 u1 u2 u3 s0 s1 t0 t1
            have hw4 := bstep Hhw3.out hb4
            have C1 := HC1.out.below hb4
            have C2 := HC2.out.below hb4
            have C3 := HC3.out.below hb4
            obtain ⟨u0, u1, u2, u3⟩ := C1.four
            obtain ⟨s0, s1⟩ := C2.two
            obtain ⟨t0, t1⟩ := C3.two
            clear hb4 Hhw3 HC1 HC2 HC3
            have Hhw4 := Lib.hid hw4
            have HC1 := Lib.hid C1
            have HC2 := Lib.hid C2
            have HC3 := Lib.hid C3
            clear hw4 C1 C2 C3
            go_wp2_with fail
            refine (A2 _ _ _ _ (Hho.out.below Hhw4.out) (Hht.out.below Hhw4.out) (Hhs.out.below Hhw4.out)).mono ?_
            rintro e w5 ⟨rfl, hb5⟩
            go_wp2_with fail
            go_ret
            exact ⟨rint HV.out, bstep Hhw4.out hb5⟩
          | false =>
            have HV := Lib.hid (show o.Cmp s t = 0 by rw [HE.out, h2]; rfl)
            rw [h2] at A2
            have Hho := Lib.hid ho
            have Hhs := Lib.hid hs
            have Hht := Lib.hid ht
            clear ho hs ht
            clear h2
            go_enter Try.func10, Try.ntmps10
            go_wp2_with fail
            refine (K1 _ _ _ (Hho.out.below (bstep (balloc2 _ _ _) (balloc _ _))) (Hhs.out.below (bstep (balloc2 _ _ _) (balloc _ _)))).mono ?_
            rintro e w1 ⟨rfl, hb1⟩
            obtain ⟨B1, B2, B3, hw1⟩ := box3 hb1
            clear hb1
            obtain ⟨u0, u1, u2, u3⟩ := B1.four
            obtain ⟨s0, s1⟩ := B2.two
            obtain ⟨t0, t1⟩ := B3.two
            have Hhw1 := Lib.hid hw1
            have HB1 := Lib.hid B1
            have HB2 := Lib.hid B2
            have HB3 := Lib.hid B3
            clear hw1 B1 B2 B3
            go_wp2_with fail
            refine (K2 _ _ _ (Hho.out.below Hhw1.out) (Hht.out.below Hhw1.out)).mono ?_
            rintro e w2 ⟨rfl, hb2⟩
            clear u0 u1 u2 u3 s0 s1 t0 t1
            have hw2 := bstep Hhw1.out hb2
            have C1 := HB1.out.below hb2
            have C2 := HB2.out.below hb2
            have C3 := HB3.out.below hb2
            obtain ⟨u0, u1, u2, u3⟩ := C1.four
            obtain ⟨s0, s1⟩ := C2.two
            obtain ⟨t0, t1⟩ := C3.two
            clear hb2 Hhw1 HB1 HB2 HB3
            have Hhw2 := Lib.hid hw2
            have HC1 := Lib.hid C1
            have HC2 := Lib.hid C2
            have HC3 := Lib.hid C3
            clear hw2 C1 C2 C3
            go_wp2_with fail
            refine (SM _ _ _ (Hhs.out.below Hhw2.out) (Hht.out.below Hhw2.out)).mono ?_
            rintro e w3 ⟨rfl, hb3⟩
            clear u0 u1 u2 u3 s0 s1 t0 t1
            have hw3 := bstep Hhw2.out hb3
            have C1 := HC1.out.below hb3
            have C2 := HC2.out.below hb3
            have C3 := HC3.out.below hb3
            obtain ⟨u0, u1, u2, u3⟩ := C1.four
            obtain ⟨s0, s1⟩ := C2.two
            obtain ⟨t0, t1⟩ := C3.two
            clear hb3 Hhw2 HC1 HC2 HC3
            have Hhw3 := Lib.hid hw3
            have HC1 := Lib.hid C1
            have HC2 := Lib.hid C2
            have HC3 := Lib.hid C3
            clear hw3 C1 C2 C3
            go_wp2_with fail
            refine (A1 _ _ _ _ (Hho.out.below Hhw3.out) (Hhs.out.below Hhw3.out) (Hht.out.below Hhw3.out)).mono ?_
            rintro e w4 ⟨rfl, hb4⟩
            clear u0 u1 u2 u3 s0 s1 t0 t1
            have hw4 := bstep Hhw3.out hb4
            have C1 := HC1.out.below hb4
            have C2 := HC2.out.below hb4
            have C3 := HC3.out.below hb4
            obtain ⟨u0, u1, u2, u3⟩ := C1.four
            obtain ⟨s0, s1⟩ := C2.two
            obtain ⟨t0, t1⟩ := C3.two
            clear hb4 Hhw3 HC1 HC2 HC3
            have Hhw4 := Lib.hid hw4
            have HC1 := Lib.hid C1
            have HC2 := Lib.hid C2
            have HC3 := Lib.hid C3
            clear hw4 C1 C2 C3
            go_wp2_with fail
            refine (A2 _ _ _ _ (Hho.out.below Hhw4.out) (Hht.out.below Hhw4.out) (Hhs.out.below Hhw4.out)).mono ?_
            rintro e w5 ⟨rfl, hb5⟩
            go_wp2_with fail
            go_ret
            exact ⟨rint HV.out, bstep Hhw4.out hb5⟩

end Go.Proofs.Ytjkpecjlpgcalaa
