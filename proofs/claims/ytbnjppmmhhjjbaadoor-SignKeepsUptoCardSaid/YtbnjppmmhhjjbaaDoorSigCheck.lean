/- The walk through the document's check of a signature: the check. -/
import Derived.Test.YtbnjppmmhhjjbaaDoorSigWalk2
namespace Go.Proofs.YtbnjppmmhhjjbaaDoor
open Go.RowKit Go.Sort Go

set_option maxHeartbeats 1000000 in
theorem sigCheck_any (l : List Sy) (w : World) (v : Value) (hv : IsSig w l v) :
    Calls Tryd.prog 18 #[v] w fun e w' => e = .returned (.int .i64 (sigCheck l)) ∧ Below w.heap.size w w' := by
  obtain ⟨a, c, rfl, hc, hm, hl⟩ := hv
  have hm0 := hm
  unfold maxLen at hm
  have E : sigCheck l = if 96 < l.length then 3 else if l.head? ≠ some truth then 110 else symsErr l (l.drop 1) 1 := rfl
  generalize hr : sigCheck l = r at *
  clear hr
  by_cases h1 : 96 < l.length
  · have HE := Lib.hid (show r = 3 by rw [E, if_pos h1])
    clear E
    go_enter Tryd.func18, Tryd.ntmps18
    go_wp2_with fail
    go_ret
    exact ⟨rint HE.out, balloc _ _⟩
  rw [if_neg h1] at E
  by_cases h2 : l.length = 0
  · obtain rfl : l = [] := List.length_eq_zero_iff.1 h2
    have HE := Lib.hid (show r = 110 by rw [E, if_pos (by simp)])
    clear E h1 h2 hl
    simp only [List.length_nil] at *
    go_enter Tryd.func18, Tryd.ntmps18
    go_wp2_with fail
    obtain ⟨B1, hw⟩ := box1 (Below.refl _ (w.alloc (.cells #[.slice a 0 c] 24)))
    generalize w.alloc (.cells #[.slice a 0 c] 24) = W0 at B1 hw ⊢
    have r0 := cell_regrown (B1 0 _ rfl)
    have Hhw := Lib.hid hw
    clear hw
    refine wp_region_quiet_below (by kernel_rfl) (by kernel_rfl) ?_
    repeat (quiet_step (fail))
    refine wpQuiet_nil ?_
    intro _ hw'
    obtain ⟨⟨dq, osq⟩, hw''⟩ := hw'
    subst hw''
    have hbq := below_regrown W0 dq osq
    generalize grow (redrawn W0 dq) osq = wq at hbq ⊢
    go_wp2_with fail
    go_ret
    exact ⟨rint HE.out, bstep Hhw.out hbq⟩
  have hb2 : ((l.length : Int) == 0) = false := by simp only [beq_eq_false_iff_ne, ne_eq]; omega
  have h0 : 0 < l.length := by omega
  have hhd : l.head? = some l[0] := by rw [List.head?_eq_getElem?, List.getElem?_eq_getElem h0]
  rw [hhd] at E
  have TR := fun w => truth_any w
  have GD := guardSy
  by_cases h3 : l[0] = truth
  · rw [if_neg (by rw [h3]; simp)] at E
    have HE := Lib.hid E
    have EQ := fun w => neqSy l[0].name truth.name l[0].ar truth.ar l[0].pred truth.pred w
    rw [decide_eq_true (show (⟨l[0].name, l[0].ar, l[0].pred⟩ : Sy) = ⟨truth.name, truth.ar, truth.pred⟩ from h3)] at EQ
    clear E h3 hhd
    go_enter Tryd.func18, Tryd.ntmps18
    go_wp2_with fail
    obtain ⟨B1, hw⟩ := box1 (Below.refl _ (w.alloc (.cells #[.slice a l.length c] 24)))
    generalize w.alloc (.cells #[.slice a l.length c] 24) = W0 at B1 hw ⊢
    have k0 := B1 0 _ rfl
    obtain ⟨b, o, rfl, g0, g1, g2, _, _⟩ := hl.at_ hw 0 h0
    simp only [Nat.zero_mul, Nat.add_zero] at g0 g1 g2
    have r0 := cell_regrown k0
    have r1 := cell_regrown g0
    have r2 := cell_regrown g1
    have r3 := cell_regrown g2
    have Hhw := Lib.hid hw
    have HB1 := Lib.hid B1
    clear hw B1
    refine wp_region_quiet_below (by kernel_rfl) (by kernel_rfl) ?_
    repeat (quiet_step (exact Calls.regrown_of (TR _)))
    refine wpQuiet_nil ?_
    intro _ hw'
    obtain ⟨⟨dq, osq⟩, hw''⟩ := hw'
    subst hw''
    have hbq := below_regrown W0 dq osq
    generalize grow (redrawn W0 dq) osq = wq at hbq ⊢
    have hw0 := Lib.hid (bstep Hhw.out hbq)
    have hB0 := Lib.hid (HB1.out.below hbq)
    clear r0 r1 r2 r3 k0 g0 g1 g2 hbq Hhw HB1 EQ TR
    go_wp2_with fail
    go_loopw [3] (fun i wr => ∃ (k : Nat), 1 ≤ k ∧ k ≤ l.length ∧ i = .int .i64 k ∧ Hid (r = symsErr l (l.drop k) k) ∧ Below w.heap.size w wr ∧ Box wr w.heap.size [.slice (some ⟨b, o, none⟩) l.length c]) (fun i _ => l.length - (intOf i).toNat)
    case atStart => exact ⟨1, by omega, by omega, rfl, HE.out, hw0.out, hB0.out⟩
    case round =>
      obtain ⟨k, hk0, hk, rfl, hx, hw, hB⟩ := hrel
      have k0 := hB 0 _ rfl
      by_cases hlt : k < l.length
      · obtain ⟨b', o', e', g0, g1, g2, _, hnm⟩ := hl.at_ hw k hlt
        simp only [Option.some.injEq, Addr.mk.injEq, and_true] at e'
        obtain ⟨rfl, rfl⟩ := e'
        have ON := fun w => one_any l[k] w hnm
        have AT := fun w h => at_any l[k] l w (some ⟨b, o, none⟩) c hc hm0 h
        have hd : symsErr l (l.drop k) k = if l[k].one ≠ 0 then l[k].one else if syAt l[k] l 0 < k then 113 else symsErr l (l.drop (k + 1)) (k + 1 : Nat) := by
          rw [List.drop_eq_getElem_cons hlt, symsErr]; rfl
        have hx := hx.out.trans hd
        clear hd
        unfold Sy.val at ON AT
        generalize l[k].one = q at *
        generalize syAt l[k] l 0 = p at *
        by_cases hq : q = 0
        · rw [if_neg (by simp [hq])] at hx
          have hqb : (q == 0) = true := by simpa using hq
          by_cases hp : p < k
          · rw [if_pos hp] at hx
            have Hhw := Lib.hid hw
            have HhB := Lib.hid hB
            have Hhx := Lib.hid hx
            clear hw hB hx
            clear hq
            go_wp2_with fail
            refine (ON _).mono ?_
            rintro e w1 ⟨rfl, hb1⟩
            have r0 := cell_regrown (bkeeps hb1 _ _ k0)
            have r1 := cell_regrown (bkeeps hb1 _ _ g0)
            have r2 := cell_regrown (bkeeps hb1 _ _ g1)
            have r3 := cell_regrown (bkeeps hb1 _ _ g2)
            have z0 : (0 : Int) ≤ (k : Int) := by omega
            have z1 : (k : Int) < (l.length : Int) := by omega
            have hw1 := Lib.hid (bstep Hhw.out hb1)
            have hB1 := Lib.hid (HhB.out.below hb1)
            have hl1 := Lib.hid (hl.below hw1.out)
            clear hb1 Hhw HhB hl
            go_wp2_with fail
            refine wp_region_quiet_below (by kernel_rfl) (by kernel_rfl) ?_
            repeat (quiet_step (exact Calls.regrown_of (AT _ (hl1.out.below (below_regrown _ _ _)))))
            refine wpQuiet_nil ?_
            intro _ hw'
            obtain ⟨⟨dq, osq⟩, hw''⟩ := hw'
            subst hw''
            have hbq := below_regrown w1 dq osq
            generalize grow (redrawn w1 dq) osq = wq at hbq ⊢
            go_wp2_with fail
            go_ret
            exact ⟨rint Hhx.out, bstep hw1.out hbq⟩
          · rw [if_neg hp] at hx
            have Hhw := Lib.hid hw
            have HhB := Lib.hid hB
            have Hhx := Lib.hid hx
            clear hw hB hx
            clear hq
            go_wp2_with fail
            refine (ON _).mono ?_
            rintro e w1 ⟨rfl, hb1⟩
            have r0 := cell_regrown (bkeeps hb1 _ _ k0)
            have r1 := cell_regrown (bkeeps hb1 _ _ g0)
            have r2 := cell_regrown (bkeeps hb1 _ _ g1)
            have r3 := cell_regrown (bkeeps hb1 _ _ g2)
            have z0 : (0 : Int) ≤ (k : Int) := by omega
            have z1 : (k : Int) < (l.length : Int) := by omega
            have hw1 := Lib.hid (bstep Hhw.out hb1)
            have hB1 := Lib.hid (HhB.out.below hb1)
            have hl1 := Lib.hid (hl.below hw1.out)
            clear hb1 Hhw HhB hl
            go_wp2_with fail
            refine wp_region_quiet_below (by kernel_rfl) (by kernel_rfl) ?_
            repeat (quiet_step (exact Calls.regrown_of (AT _ (hl1.out.below (below_regrown _ _ _)))))
            refine wpQuiet_nil ?_
            intro _ hw'
            obtain ⟨⟨dq, osq⟩, hw''⟩ := hw'
            subst hw''
            have hbq := below_regrown w1 dq osq
            generalize grow (redrawn w1 dq) osq = wq at hbq ⊢
            go_wp2_with fail
            go_roundw
            case rel => exact ⟨k + 1, by omega, by omega, by go_num, Hhx.out, bstep hw1.out hbq, hB1.out.below hbq⟩
            case measure => simp [intOf]; omega
        · rw [if_pos hq] at hx
          have hqb : (q == 0) = false := by simpa using hq
          have Hhw := Lib.hid hw
          have HhB := Lib.hid hB
          have Hhx := Lib.hid hx
          clear hw hB hx
          clear hq
          go_wp2_with fail
          refine (ON _).mono ?_
          rintro e w1 ⟨rfl, hb1⟩
          go_wp2_with fail
          go_ret
          exact ⟨rint Hhx.out, bstep Hhw.out hb1⟩
      · have HV := Lib.hid (show r = 0 by rw [hx.out, List.drop_eq_nil_of_le (by omega), symsErr])
        go_wp2_with fail
        go_ret
        exact ⟨rint HV.out, hw⟩
  · rw [if_pos (by simpa using h3)] at E
    have HE := Lib.hid E
    have EQ := fun w => neqSy l[0].name truth.name l[0].ar truth.ar l[0].pred truth.pred w
    rw [decide_eq_false (show ¬ (⟨l[0].name, l[0].ar, l[0].pred⟩ : Sy) = ⟨truth.name, truth.ar, truth.pred⟩ from h3)] at EQ
    clear E h3 hhd
    go_enter Tryd.func18, Tryd.ntmps18
    go_wp2_with fail
    obtain ⟨B1, hw⟩ := box1 (Below.refl _ (w.alloc (.cells #[.slice a l.length c] 24)))
    generalize w.alloc (.cells #[.slice a l.length c] 24) = W0 at B1 hw ⊢
    have k0 := B1 0 _ rfl
    obtain ⟨b, o, rfl, g0, g1, g2, _, _⟩ := hl.at_ hw 0 h0
    simp only [Nat.zero_mul, Nat.add_zero] at g0 g1 g2
    have r0 := cell_regrown k0
    have r1 := cell_regrown g0
    have r2 := cell_regrown g1
    have r3 := cell_regrown g2
    have Hhw := Lib.hid hw
    have HB1 := Lib.hid B1
    clear hw B1
    refine wp_region_quiet_below (by kernel_rfl) (by kernel_rfl) ?_
    repeat (quiet_step (exact Calls.regrown_of (TR _)))
    refine wpQuiet_nil ?_
    intro _ hw'
    obtain ⟨⟨dq, osq⟩, hw''⟩ := hw'
    subst hw''
    have hbq := below_regrown W0 dq osq
    generalize grow (redrawn W0 dq) osq = wq at hbq ⊢
    go_wp2_with fail
    go_ret
    exact ⟨rint HE.out, bstep Hhw.out hbq⟩

end Go.Proofs.YtbnjppmmhhjjbaaDoor
