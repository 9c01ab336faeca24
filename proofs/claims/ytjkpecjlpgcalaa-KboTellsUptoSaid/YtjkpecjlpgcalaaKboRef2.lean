/- The walks through the document's order of Knuth and Bendix, the rest. -/
import Derived.Test.YtjkpecjlpgcalaaKboRef
import Derived.Test.YtjkpecjlpgcalaaSame
namespace Go.Proofs.Ytjkpecjlpgcalaa
open Go.RowKit Go.Sort Go

theorem Od.coversL_all (s t : T) : ∀ l, Od.coversL s t l = l.all (Od.covers s t)
  | [] => rfl
  | a :: r => by rw [Od.coversL, List.all_cons, Od.coversL_all s t r]

set_option maxRecDepth 100000 in
theorem rknows_any (o : Od) (t : T) : ∀ (w : World) (vo v : Value), IsOd w o vo → IsT w t v →
    Calls Try.prog 25 #[vo, v] w fun e w' => e = .returned (.bool (o.knows t)) ∧ Below w.heap.size w w' := by
  induction t using T.ind with
  | h f l ih =>
  intro w vo v ho hv
  have ho0 := ho
  obtain ⟨a1, a2, c1, c2, rfl, n1, n2, n3, n4, _⟩ := ho
  obtain ⟨hf, a, c, rfl, hc, hm, hl⟩ := hv
  unfold maxLen at hm n2 n4
  obtain ⟨hf1, hf2⟩ := hf
  have HO := Lib.hid ho0
  clear ho0
  by_cases h0 : f < 0
  · have E := Lib.hid (show o.knows (.mk f l) = l.isEmpty by rw [Od.knows, if_pos h0])
    go_enter Try.func25, Try.ntmps25
    go_wp2_with fail
    go_ret
    refine ⟨rbool ?_, balloc2 _ _ _⟩
    rw [E.out]
    cases l <;> simp
    omega
  · by_cases h1 : f < o.prec.length
    · by_cases h2 : f < o.weights.length
      · have E := Lib.hid (show o.knows (.mk f l) = l.all o.knows by rw [Od.knows, if_neg h0, Od.knowsL_all]; simp [h1, h2])
        go_enter Try.func25, Try.ntmps25
        go_wp2_with fail
        go_loopw [5] (fun i wr => ∃ (k : Nat), k ≤ l.length ∧ i = .int .i64 k ∧ (l.take k).all o.knows = true ∧ Below w.heap.size w wr ∧ Box wr w.heap.size [.bool o.lpo, .slice a1 o.prec.length c1, .slice a2 o.weights.length c2, .int .i64 o.var] ∧ Box wr (w.heap.size + 1) [.int .i64 f, .slice a l.length c]) (fun i _ => l.length - (intOf i).toNat)
        case atStart =>
          obtain ⟨B1, B2, hw⟩ := box2 (Below.refl _ ((w.alloc (.cells #[.bool o.lpo, .slice a1 o.prec.length c1, .slice a2 o.weights.length c2, .int .i64 o.var] 24)).alloc (.cells #[.int .i64 f, .slice a l.length c] 27)))
          exact ⟨0, Nat.zero_le _, rfl, rfl, hw, B1, B2⟩
        case round =>
          obtain ⟨k, hk, rfl, hall, hw, hB1, hB2⟩ := hrel
          obtain ⟨u0, u1, u2, u3⟩ := hB1.four
          obtain ⟨t0, t1⟩ := hB2.two
          by_cases hlt : k < l.length
          · obtain ⟨b, oo, a', c', rfl, g1, g2, h3⟩ := hl.at_ hw k hlt
            have IH := fun w vo v => ih l[k] (List.getElem_mem hlt) w vo v
            have k0 : (0 : Int) ≤ (k : Int) := by omega
            have k1 : (k : Int) < (l.length : Int) := by omega
            have r0 := cell_regrown u0
            have r1 := cell_regrown u1
            have r2 := cell_regrown u2
            have r3 := cell_regrown u3
            have r4 := cell_regrown t1
            have r5 := cell_regrown g1
            have r6 := cell_regrown g2
            cases hkk : o.knows l[k] with
            | true =>
              rw [hkk] at IH
              have Hh3 := Lib.hid h3
              have HhB1 := Lib.hid hB1
              have HhB2 := Lib.hid hB2
              have Hhw := Lib.hid hw
              have Hhall := Lib.hid hall
              have Hhkk := Lib.hid hkk
              clear h3 hB1 hB2 hw hall hkk
              clear ih hl
              go_wp2_with fail
              refine wp_region_quiet_below (by kernel_rfl) (by kernel_rfl) ?_
              repeat (quiet_step (exact Calls.regrown_of (IH _ _ _ (HO.out.below (bstep Hhw.out (below_regrown _ _ _))) (Hh3.out.below (below_regrown _ _ _)))))
              refine wpQuiet_nil ?_
              intro _ hw'
              obtain ⟨⟨dq, osq⟩, hw''⟩ := hw'
              subst hw''
              have hbq := below_regrown wr dq osq
              generalize grow (redrawn wr dq) osq = wq at hbq ⊢
              go_wp2_with fail
              go_roundw
              case rel => exact ⟨k + 1, by omega, by go_num, by rw [all_take_succ _ _ _ hlt, Hhall.out, Hhkk.out]; rfl, bstep Hhw.out hbq, HhB1.out.below hbq, HhB2.out.below hbq⟩
              case measure => simp [intOf]; omega
            | false =>
              rw [hkk] at IH
              have Hh3 := Lib.hid h3
              have HhB1 := Lib.hid hB1
              have HhB2 := Lib.hid hB2
              have Hhw := Lib.hid hw
              have Hhall := Lib.hid hall
              have Hhkk := Lib.hid hkk
              clear h3 hB1 hB2 hw hall hkk
              clear ih hl
              go_wp2_with fail
              refine wp_region_quiet_below (by kernel_rfl) (by kernel_rfl) ?_
              repeat (quiet_step (exact Calls.regrown_of (IH _ _ _ (HO.out.below (bstep Hhw.out (below_regrown _ _ _))) (Hh3.out.below (below_regrown _ _ _)))))
              refine wpQuiet_nil ?_
              intro _ hw'
              obtain ⟨⟨dq, osq⟩, hw''⟩ := hw'
              subst hw''
              have hbq := below_regrown wr dq osq
              generalize grow (redrawn wr dq) osq = wq at hbq ⊢
              go_wp2_with fail
              go_ret
              exact ⟨rbool (by rw [E.out, all_of_not _ _ _ hlt Hhkk.out]), bstep Hhw.out hbq⟩
          · go_wp2_with fail
            go_ret
            obtain rfl : k = l.length := by omega
            rw [List.take_length] at hall
            exact ⟨rbool (by rw [E.out, hall]), hw⟩
      · have E := Lib.hid (show o.knows (.mk f l) = false by rw [Od.knows, if_neg h0]; simp [h2])
        go_enter Try.func25, Try.ntmps25
        go_wp2_with fail
        go_ret
        exact ⟨rbool E.out, balloc2 _ _ _⟩
    · have E := Lib.hid (show o.knows (.mk f l) = false by rw [Od.knows, if_neg h0]; simp [h1])
      go_enter Try.func25, Try.ntmps25
      go_wp2_with fail
      go_ret
      exact ⟨rbool E.out, balloc2 _ _ _⟩

theorem rWeight_any (o : Od) (t : T) (w : World) (vo v : Value) (ho : IsOd w o vo) (hv : IsT w t v) :
    Calls Try.prog 14 #[vo, v] w fun e w' => e = .returned (.int .i64 (if o.knows t = true then o.weight t else 0)) ∧ Below w.heap.size w w' := by
  have ho0 := ho
  have hv0 := hv
  obtain ⟨a1, a2, c1, c2, rfl, n1, n2, n3, n4, _⟩ := ho
  obtain ⟨_, a, c, rfl, _, _, _⟩ := hv.form
  have C := fun w vo v => rknows_any o t w vo v
  cases hk : o.knows t with
  | true =>
    have D := fun w vo v => rweight_any o t w vo v hk
    rw [hk] at C
    have Hho0 := Lib.hid ho0
    have Hhv0 := Lib.hid hv0
    clear ho0 hv0
    clear hk hv
    go_enter Try.func14, Try.ntmps14
    go_wp2_with fail
    refine (C _ _ _ (Hho0.out.below (balloc2 _ _ _)) (Hhv0.out.below (balloc2 _ _ _))).mono ?_
    rintro e w1 ⟨rfl, hb1⟩
    obtain ⟨B1, B2, hw1⟩ := box2 hb1
    obtain ⟨u0, u1, u2, u3⟩ := B1.four
    obtain ⟨t0, t1⟩ := B2.two
    have Hhw1 := Lib.hid hw1
    clear hw1
    clear hb1 B1 B2
    go_wp2_with fail
    refine (D _ _ _ (Hho0.out.below Hhw1.out) (Hhv0.out.below Hhw1.out)).mono ?_
    rintro e w2 ⟨rfl, hb2⟩
    go_wp2_with fail
    go_ret
    exact ⟨rfl, bstep Hhw1.out hb2⟩
  | false =>
    rw [hk] at C
    have Hho0 := Lib.hid ho0
    have Hhv0 := Lib.hid hv0
    clear ho0 hv0
    clear hk hv
    go_enter Try.func14, Try.ntmps14
    go_wp2_with fail
    refine (C _ _ _ (Hho0.out.below (balloc2 _ _ _)) (Hhv0.out.below (balloc2 _ _ _))).mono ?_
    rintro e w1 ⟨rfl, hb1⟩
    have hw1 := bstep (balloc2 _ _ _) hb1
    have Hhw1 := Lib.hid hw1
    clear hw1
    clear hb1
    go_wp2_with fail
    go_ret
    exact ⟨rfl, Hhw1.out⟩

end Go.Proofs.Ytjkpecjlpgcalaa
