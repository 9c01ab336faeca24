/- The walks through the program's order of Knuth and Bendix: the exported functions. -/
import Derived.Test.YtjkpecjlpgcalaaKboReason
namespace Go.Proofs.Ytjkpecjlpgcalaa
open Go.RowKit Go.Sort Go


set_option maxRecDepth 100000 in
theorem cmp_ok (o : Od) (s : T) : ∀ t, CmpOk o s t := by
  induction s using T.ind with
  | h f l ih =>
  intro t w vo v u zs zt ks kt ho hv hu
  have R := fun w vo v u h1 h2 h3 => reason_any o (.mk f l) t w vo v u zs zt ks kt h1 h2 h3 (fun a ha b => ih a ha b)
  have SM := fun w v u => same_any (.mk f l) t w v u
  have CT := fun w v u => counts_any o (.mk f l) t w v u zs zt ks kt
  have E := o.cmp_eq (.mk f l) t
  have RR := o.reason_range (.mk f l) t
  clear ih ks kt zs zt
  generalize T.mk f l = s at *
  generalize o.cmp s t = r at *
  generalize hre : o.reason s t = re at *
  clear hre
  obtain ⟨RR1, RR2⟩ := RR
  have ho0 := ho
  have hv0 := hv
  have hu0 := hu
  obtain ⟨a3, a4, c3, c4, rfl, n1, n2, n3, n4, _, _, _⟩ := ho
  obtain ⟨_, a1, c1, rfl, _, _, _⟩ := hv.form
  obtain ⟨_, a2, c2, rfl, _, _, _⟩ := hu.form
  clear hv hu
  cases hsm : T.same s t with
  | true =>
    rw [hsm] at SM E
    have HV := Lib.hid (show r = 2 by rw [E]; rfl)
    have Hho0 := Lib.hid ho0
    have Hhv0 := Lib.hid hv0
    have Hhu0 := Lib.hid hu0
    clear ho0 hv0 hu0
    clear E R CT hsm
    go_enter Try.func28, Try.ntmps28
    go_wp2_with fail
    refine (SM _ _ _ (Hhv0.out.below (bstep (balloc2 _ _ _) (balloc _ _))) (Hhu0.out.below (bstep (balloc2 _ _ _) (balloc _ _)))).mono ?_
    rintro e w1 ⟨rfl, hb1⟩
    go_wp2_with fail
    go_ret
    exact ⟨rint HV.out, bstep (bstep (balloc2 _ _ _) (balloc _ _)) hb1⟩
  | false =>
    rw [hsm] at SM E
    have E2 : r = if re = 3 ∧ Od.covers s t t = true then 3 else if re = 1 ∧ Od.covers t s s = true then 1 else 0 := by rw [E]; rfl
    clear E hsm
    have HE := Lib.hid E2
    clear E2
    have Hho0 := Lib.hid ho0
    have Hhv0 := Lib.hid hv0
    have Hhu0 := Lib.hid hu0
    clear ho0 hv0 hu0
    go_enter Try.func28, Try.ntmps28
    go_wp2_with fail
    refine (SM _ _ _ (Hhv0.out.below (bstep (balloc2 _ _ _) (balloc _ _))) (Hhu0.out.below (bstep (balloc2 _ _ _) (balloc _ _)))).mono ?_
    rintro e w1 ⟨rfl, hb1⟩
    obtain ⟨B1, B2, B3, hw1⟩ := box3 hb1
    clear hb1
    obtain ⟨u0, u1, u2, u3⟩ := B1.four
    obtain ⟨s0, s1⟩ := B2.two
    obtain ⟨t0, t1⟩ := B3.two
    have Hhw1 := Lib.hid hw1
    have HB1 := Lib.hid B1
    have HB2 := Lib.hid B2
    have HB3 := Lib.hid B3
    clear hw1 B1 B2 B3
    go_wp2_with fail
    refine (CT _ _ _ (Hhv0.out.below Hhw1.out) (Hhu0.out.below Hhw1.out)).mono ?_
    rintro e w2 ⟨rfl, hb2⟩
    clear u0 u1 u2 u3 s0 s1 t0 t1
    have hwn := bstep Hhw1.out hb2
    have C1 := HB1.out.below hb2
    have C2 := HB2.out.below hb2
    have C3 := HB3.out.below hb2
    clear hb2 Hhw1 HB1 HB2 HB3
    obtain ⟨u0, u1, u2, u3⟩ := C1.four
    obtain ⟨s0, s1⟩ := C2.two
    obtain ⟨t0, t1⟩ := C3.two
    have hw1 := hwn
    have B1 := C1
    have B2 := C2
    have B3 := C3
    clear hwn C1 C2 C3
    have Hhw1 := Lib.hid hw1
    have HB1 := Lib.hid B1
    have HB2 := Lib.hid B2
    have HB3 := Lib.hid B3
    clear hw1 B1 B2 B3
    go_wp2_with fail
    refine (R _ _ _ _ (Hho0.out.below Hhw1.out) (Hhv0.out.below Hhw1.out) (Hhu0.out.below Hhw1.out)).mono ?_
    rintro e w3 ⟨rfl, hb3⟩
    have hwf := Lib.hid (bstep Hhw1.out hb3)
    clear hb3 R CT SM
    by_cases h3 : re = 3
    · have hb3 : (re == 3) = true := by simpa using h3
      have hb1 : (re == 1) = false := by simp [h3]
      cases hc : Od.covers s t t with
      | true =>
        have HV := Lib.hid (show r = re by rw [HE.out, if_pos ⟨h3, hc⟩, h3])
        clear h3 hc
        go_wp2_with fail
        go_ret
        exact ⟨rint HV.out, hwf.out⟩
      | false =>
        have HV := Lib.hid (show r = 0 by rw [HE.out, if_neg (by rw [hc]; simp), if_neg (by omega)])
        clear h3 hc
        go_wp2_with fail
        go_ret
        exact ⟨rint HV.out, hwf.out⟩
    · have hb3 : (re == 3) = false := by simpa using h3
      by_cases h1 : re = 1
      · have hb1 : (re == 1) = true := by simpa using h1
        cases hc : Od.covers t s s with
        | true =>
          have HV := Lib.hid (show r = re by rw [HE.out, if_neg (by omega), if_pos ⟨h1, hc⟩, h1])
          clear h1 h3 hc
          go_wp2_with fail
          go_ret
          exact ⟨rint HV.out, hwf.out⟩
        | false =>
          have HV := Lib.hid (show r = 0 by rw [HE.out, if_neg (by omega), if_neg (by rw [hc]; simp)])
          clear h1 h3 hc
          go_wp2_with fail
          go_ret
          exact ⟨rint HV.out, hwf.out⟩
      · have hb1 : (re == 1) = false := by simpa using h1
        have HV := Lib.hid (show r = 0 by rw [HE.out, if_neg (by omega), if_neg (by omega)])
        clear h1 h3
        go_wp2_with fail
        go_ret
        exact ⟨rint HV.out, hwf.out⟩

set_option maxRecDepth 100000 in
theorem kCmp_any (o : Od) (s t : T) (w : World) (vo v u : Value) (zs : s.size ≤ 4294967296) (zt : t.size ≤ 4294967296) (ho : IsOd w o vo) (hv : IsT w s v) (hu : IsT w t u) :
    Calls Try.prog 11 #[vo, v, u] w fun e w' => e = .returned (.int .i64 (o.Cmp s t)) ∧ Below w.heap.size w w' := by
  have K1 := fun w vo v => knows_any o s w vo v
  have K2 := fun w vo v => knows_any o t w vo v
  have CC := fun w vo v u => cmp_ok o s t w vo v u zs zt
  have E : o.Cmp s t = if o.knows s && o.knows t then o.cmp s t else 0 := rfl
  have ho0 := ho
  have hv0 := hv
  have hu0 := hu
  obtain ⟨a3, a4, c3, c4, rfl, n1, n2, n3, n4, _, _, _⟩ := ho
  obtain ⟨_, a1, c1, rfl, _, _, _⟩ := hv.form
  obtain ⟨_, a2, c2, rfl, _, _, _⟩ := hu.form
  clear hv hu
  cases k1 : o.knows s with
  | false =>
    rw [k1] at K1 E
    have HE := Lib.hid (show o.Cmp s t = 0 by rw [E]; rfl)
    have Hho0 := Lib.hid ho0
    have Hhv0 := Lib.hid hv0
    have Hhu0 := Lib.hid hu0
    clear ho0 hv0 hu0
    clear E k1 K2 CC
    go_enter Try.func11, Try.ntmps11
    go_wp2_with fail
    refine (K1 _ _ _ (Hho0.out.below (bstep (balloc2 _ _ _) (balloc _ _))) (Hhv0.out.below (bstep (balloc2 _ _ _) (balloc _ _)))).mono ?_
    rintro e w1 ⟨rfl, hb1⟩
    go_wp2_with fail
    go_ret
    exact ⟨rint HE.out, bstep (bstep (balloc2 _ _ _) (balloc _ _)) hb1⟩
  | true =>
    cases k2 : o.knows t with
    | false =>
      rw [k1] at K1
      rw [k1, k2] at E
      rw [k2] at K2
      have HE := Lib.hid (show o.Cmp s t = 0 by rw [E]; rfl)
      have Hho0 := Lib.hid ho0
      have Hhv0 := Lib.hid hv0
      have Hhu0 := Lib.hid hu0
      clear ho0 hv0 hu0
      clear E k1 k2 CC
      go_enter Try.func11, Try.ntmps11
      go_wp2_with fail
      refine (K1 _ _ _ (Hho0.out.below (bstep (balloc2 _ _ _) (balloc _ _))) (Hhv0.out.below (bstep (balloc2 _ _ _) (balloc _ _)))).mono ?_
      rintro e w1 ⟨rfl, hb1⟩
      obtain ⟨B1, B2, B3, hw1⟩ := box3 hb1
      clear hb1
      obtain ⟨u0, u1, u2, u3⟩ := B1.four
      obtain ⟨s0, s1⟩ := B2.two
      obtain ⟨t0, t1⟩ := B3.two
      have Hhw1 := Lib.hid hw1
      have HB1 := Lib.hid B1
      have HB2 := Lib.hid B2
      have HB3 := Lib.hid B3
      clear hw1 B1 B2 B3
      go_wp2_with fail
      refine (K2 _ _ _ (Hho0.out.below Hhw1.out) (Hhu0.out.below Hhw1.out)).mono ?_
      rintro e w2 ⟨rfl, hb2⟩
      go_wp2_with fail
      go_ret
      exact ⟨rint HE.out, bstep Hhw1.out hb2⟩
    | true =>
      have CC := fun w vo v u => CC w vo v u k1 k2
      rw [k1] at K1
      rw [k1, k2] at E
      rw [k2] at K2
      have HE := Lib.hid (show o.Cmp s t = o.cmp s t by rw [E]; rfl)
      have Hho0 := Lib.hid ho0
      have Hhv0 := Lib.hid hv0
      have Hhu0 := Lib.hid hu0
      clear ho0 hv0 hu0
      clear E k1 k2
      go_enter Try.func11, Try.ntmps11
      go_wp2_with fail
      refine (K1 _ _ _ (Hho0.out.below (bstep (balloc2 _ _ _) (balloc _ _))) (Hhv0.out.below (bstep (balloc2 _ _ _) (balloc _ _)))).mono ?_
      rintro e w1 ⟨rfl, hb1⟩
      obtain ⟨B1, B2, B3, hw1⟩ := box3 hb1
      clear hb1
      obtain ⟨u0, u1, u2, u3⟩ := B1.four
      obtain ⟨s0, s1⟩ := B2.two
      obtain ⟨t0, t1⟩ := B3.two
      have Hhw1 := Lib.hid hw1
      have HB1 := Lib.hid B1
      have HB2 := Lib.hid B2
      have HB3 := Lib.hid B3
      clear hw1 B1 B2 B3
      go_wp2_with fail
      refine (K2 _ _ _ (Hho0.out.below Hhw1.out) (Hhu0.out.below Hhw1.out)).mono ?_
      rintro e w2 ⟨rfl, hb2⟩
      clear u0 u1 u2 u3 s0 s1 t0 t1
      have hwn := bstep Hhw1.out hb2
      have C1 := HB1.out.below hb2
      have C2 := HB2.out.below hb2
      have C3 := HB3.out.below hb2
      clear hb2 Hhw1 HB1 HB2 HB3
      obtain ⟨u0, u1, u2, u3⟩ := C1.four
      obtain ⟨s0, s1⟩ := C2.two
      obtain ⟨t0, t1⟩ := C3.two
      have hw1 := hwn
      have B1 := C1
      have B2 := C2
      have B3 := C3
      clear hwn C1 C2 C3
      have Hhw1 := Lib.hid hw1
      have HB1 := Lib.hid B1
      have HB2 := Lib.hid B2
      have HB3 := Lib.hid B3
      clear hw1 B1 B2 B3
      go_wp2_with fail
      refine (CC _ _ _ _ (Hho0.out.below Hhw1.out) (Hhv0.out.below Hhw1.out) (Hhu0.out.below Hhw1.out)).mono ?_
      rintro e w3 ⟨rfl, hb3⟩
      go_wp2_with fail
      go_ret
      exact ⟨rint HE.out, bstep Hhw1.out hb3⟩

theorem kAbove_any (o : Od) (s t : T) (w : World) (vo v u : Value) (zs : s.size ≤ 4294967296) (zt : t.size ≤ 4294967296) (ho : IsOd w o vo) (hv : IsT w s v) (hu : IsT w t u) :
    Calls Try.prog 12 #[vo, v, u] w fun e w' => e = .returned (.bool (o.Cmp s t == 3)) ∧ Below w.heap.size w w' := by
  have CC := fun w vo v u => kCmp_any o s t w vo v u zs zt
  have ho0 := ho
  have hv0 := hv
  have hu0 := hu
  obtain ⟨a3, a4, c3, c4, rfl, n1, n2, n3, n4, _, _, _⟩ := ho
  obtain ⟨_, a1, c1, rfl, _, _, _⟩ := hv.form
  obtain ⟨_, a2, c2, rfl, _, _, _⟩ := hu.form
  clear hv hu
  have Hho0 := Lib.hid ho0
  have Hhv0 := Lib.hid hv0
  have Hhu0 := Lib.hid hu0
  clear ho0 hv0 hu0
  go_enter Try.func12, Try.ntmps12
  go_wp2_with fail
  refine (CC _ _ _ _ (Hho0.out.below (bstep (balloc2 _ _ _) (balloc _ _))) (Hhv0.out.below (bstep (balloc2 _ _ _) (balloc _ _))) (Hhu0.out.below (bstep (balloc2 _ _ _) (balloc _ _)))).mono ?_
  rintro e w1 ⟨rfl, hb1⟩
  go_wp2_with fail
  go_ret
  exact ⟨rbool rfl, bstep (bstep (balloc2 _ _ _) (balloc _ _)) hb1⟩

theorem kWeight_any (o : Od) (t : T) (w : World) (vo v : Value) (ho : IsOd w o vo) (hv : IsT w t v) :
    Calls Try.prog 13 #[vo, v] w fun e w' => e = .returned (.int .i64 (if o.knows t = true then o.weight t else 0)) ∧ Below w.heap.size w w' := by
  have ho0 := ho
  have hv0 := hv
  obtain ⟨a1, a2, c1, c2, rfl, n1, n2, n3, n4, _⟩ := ho
  obtain ⟨_, a, c, rfl, _, _, _⟩ := hv.form
  have C := fun w vo v => knows_any o t w vo v
  cases hk : o.knows t with
  | true =>
    have D := fun w vo v => weigh_any o t w vo v hk
    rw [hk] at C
    have Hho0 := Lib.hid ho0
    have Hhv0 := Lib.hid hv0
    clear ho0 hv0
    clear hk hv
    go_enter Try.func13, Try.ntmps13
    go_wp2_with fail
    refine (C _ _ _ (Hho0.out.below (balloc2 _ _ _)) (Hhv0.out.below (balloc2 _ _ _))).mono ?_
    rintro e w1 ⟨rfl, hb1⟩
    obtain ⟨B1, B2, hw1⟩ := box2 hb1
    obtain ⟨u0, u1, u2, u3⟩ := B1.four
    obtain ⟨t0, t1⟩ := B2.two
    have Hhw1 := Lib.hid hw1
    clear hw1
    clear hb1 B1 B2
    go_wp2_with fail
    refine (D _ _ _ (Hho0.out.below Hhw1.out) (Hhv0.out.below Hhw1.out)).mono ?_
    rintro e w2 ⟨rfl, hb2⟩
    go_wp2_with fail
    go_ret
    exact ⟨rfl, bstep Hhw1.out hb2⟩
  | false =>
    rw [hk] at C
    have Hho0 := Lib.hid ho0
    have Hhv0 := Lib.hid hv0
    clear ho0 hv0
    clear hk hv
    go_enter Try.func13, Try.ntmps13
    go_wp2_with fail
    refine (C _ _ _ (Hho0.out.below (balloc2 _ _ _)) (Hhv0.out.below (balloc2 _ _ _))).mono ?_
    rintro e w1 ⟨rfl, hb1⟩
    have hw1 := bstep (balloc2 _ _ _) hb1
    have Hhw1 := Lib.hid hw1
    clear hw1
    clear hb1
    go_wp2_with fail
    go_ret
    exact ⟨rfl, Hhw1.out⟩

end Go.Proofs.Ytjkpecjlpgcalaa
