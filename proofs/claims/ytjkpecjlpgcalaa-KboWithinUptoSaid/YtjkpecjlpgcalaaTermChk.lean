/- The walk through the document's check of a term. -/
import Derived.Test.YtjkpecjlpgcalaaFitsPlain
namespace Go.Proofs.Ytjkpecjlpgcalaa
open Go.RowKit Go.Sort Go

set_option maxHeartbeats 2000000 in
theorem tcheck_any (sg : List Sy) (t : T) (w : World) (vs v : Value) (hz : t.size ≤ 4294967296) (hs : IsSig w sg vs) (hv : IsT w t v) :
    Calls Try.prog 32 #[vs, v] w fun e w' => e = .returned (.int .i64 (t.check sg)) ∧ Below w.heap.size w w' := by
  have hs0 := hs
  have hv0 := hv
  obtain ⟨a, c, rfl, hc, hm, hsl⟩ := hs
  obtain ⟨_, a1, c1, rfl, _, _, _⟩ := hv.form
  have E : t.check sg = if sigCheck sg = 0 ∧ t.small 48 = true ∧ t.over sg true = true then 0 else 2 := rfl
  have SC := fun w v h => sigCheck_any sg w v h
  have SM := fun w v h => small_any 48 (by omega) t w v hz h
  have OV := fun w vs v a b => over_any sg t true w vs v a b
  generalize t.check sg = r at *
  generalize sigCheck sg = q at *
  generalize t.small 48 = p at *
  generalize t.over sg true = o at *
  clear hv hsl
  have Hhs0 := Lib.hid hs0
  have Hhv0 := Lib.hid hv0
  have HE := Lib.hid E
  clear hs0 hv0 E
  go_enter Try.func32, Try.ntmps32
  go_wp2_with fail
  refine (SC _ _ (Hhs0.out.below (balloc2 _ _ _))).mono ?_
  rintro e w1 ⟨rfl, hb1⟩
  obtain ⟨B1, B2, hw1⟩ := box2 hb1
  have k0 := B1 0 _ rfl
  obtain ⟨u0, u1⟩ := B2.two
  have Hhw1 := Lib.hid hw1
  have HB1 := Lib.hid B1
  have HB2 := Lib.hid B2
  clear hw1 B1 B2
  clear hb1 SC
  by_cases h1 : q = 0
  · have q0 : (q != 0) = false := by simp [h1]
    have h1 := Lib.hid h1
    go_wp2_with fail
    refine (SM _ _ (Hhv0.out.below Hhw1.out)).mono ?_
    rintro e w2 ⟨rfl, hb2⟩
    have hw2 := bstep Hhw1.out hb2
    have C1 := HB1.out.below hb2
    have C2 := HB2.out.below hb2
    clear k0 u0 u1 hb2 Hhw1 HB1 HB2 SM
    have k0 := C1 0 _ rfl
    obtain ⟨u0, u1⟩ := C2.two
    have Hhw2 := Lib.hid hw2
    have HC1 := Lib.hid C1
    have HC2 := Lib.hid C2
    clear hw2 C1 C2
    cases p with
    | false =>
      go_wp2_with fail
      go_ret
      exact ⟨rint (by rw [HE.out, if_neg (by simp)]), Hhw2.out⟩
    | true =>
      go_wp2_with fail
      refine (OV _ _ _ (Hhs0.out.below Hhw2.out) (Hhv0.out.below Hhw2.out)).mono ?_
      rintro e w3 ⟨rfl, hb3⟩
      have hw3 := bstep Hhw2.out hb3
      clear k0 u0 u1 hb3 Hhw2 HC1 HC2 OV
      have Hhw3 := Lib.hid hw3
      clear hw3
      cases o with
      | false =>
        go_wp2_with fail
        go_ret
        exact ⟨rint (by rw [HE.out, if_neg (by simp)]), Hhw3.out⟩
      | true =>
        go_wp2_with fail
        go_ret
        exact ⟨rint (by rw [HE.out, if_pos ⟨h1.out, by first | rfl | trivial, by first | rfl | trivial⟩]), Hhw3.out⟩
  · have q0 : (q != 0) = true := by simpa using h1
    have h1 := Lib.hid h1
    go_wp2_with fail
    go_ret
    exact ⟨rint (by rw [HE.out, if_neg (fun h => h1.out h.1)]), Hhw1.out⟩

end Go.Proofs.Ytjkpecjlpgcalaa
