/- The walks through the document's check of an order: ranks, highest. -/
import Derived.Test.YtjkpecjlpgcalaaOrd
namespace Go.Proofs.Ytjkpecjlpgcalaa
open Go.RowKit Go.Sort Go

/-- Ranks that differ, none but the first one as low as the first one. -/
def Ranks (p : List Int) : Prop := ∀ i (_ : i < p.length), (0 < i → p.getD 0 0 < p.getD i 0) ∧ ∀ k, k < i → p.getD i 0 ≠ p.getD k 0

set_option maxHeartbeats 2000000 in
theorem ranks_any (p : List Int) (n : Int) (w : World) (a : Option Addr) (c : Nat) (hc : p.length ≤ c) (hm : c ≤ maxLen) (hl : IsInts w p a) :
    Calls Try.prog 44 #[.slice a p.length c, .int .i64 n] w fun e w' => (∃ b, e = .returned (.bool b) ∧ (b = true → (p.length : Int) = n ∧ Ranks p)) ∧ Below w.heap.size w w' := by
  unfold maxLen at hm
  by_cases h0 : (p.length : Int) = n
  · have hb0 : ((p.length : Int) == n) = true := by simpa using h0
    subst h0
    go_enter Try.func44, Try.ntmps44
    go_wp2_with fail
    go_loopw [5, 6] (fun i _ wr => ∃ (k : Nat), k ≤ p.length ∧ i = .int .i64 k ∧ Hid (∀ j, j < k → (0 < j → p.getD 0 0 < p.getD j 0) ∧ ∀ m, m < j → p.getD j 0 ≠ p.getD m 0) ∧ Below w.heap.size w wr) (fun i _ _ => p.length - (intOf i).toNat)
    case atStart => exact ⟨0, Nat.zero_le _, rfl, fun j hj => absurd hj (by omega), Below.refl _ _⟩
    case round =>
      obtain ⟨k, hk, rfl, hall, hw⟩ := hrel
      by_cases hlt : k < p.length
      · obtain ⟨b, o, rfl, g0, _⟩ := hl.at_ hw k hlt
        obtain ⟨b', o', e', g1, _⟩ := hl.at_ hw 0 (by omega)
        simp only [Option.some.injEq, Addr.mk.injEq, and_true] at e'
        obtain ⟨rfl, rfl⟩ := e'
        simp only [Nat.add_zero] at g1
        have z0 : (0 : Int) ≤ (k : Int) := by omega
        have z1 : (k : Int) < (p.length : Int) := by omega
        have z2 : (0 : Int) < (p.length : Int) := by omega
        have z3 : 0 < p.length := by omega
        have r0 := cell_regrown g0
        have r1 := cell_regrown g1
        have e0 : p.getD k 0 = p[k] := by simp [hlt]
        have e1 : p.getD 0 0 = p[0] := by simp [show 0 < p.length by omega]
        by_cases hk0 : 0 < k
        · have hk0' : (0 : Int) < (k : Int) := by omega
          by_cases hle : p[k] ≤ p[0]
          · have Hhw := Lib.hid hw
            have Hhall := Lib.hid hall
            have He0 := Lib.hid e0
            have He1 := Lib.hid e1
            clear hw hall e0 e1
            go_wp2_with fail
            refine wp_region_quiet_below (by kernel_rfl) (by kernel_rfl) ?_
            repeat (quiet_step (fail))
            refine wpQuiet_nil ?_
            intro _ hw'
            obtain ⟨⟨dq, osq⟩, hw''⟩ := hw'
            subst hw''
            have hbq := below_regrown wr dq osq
            generalize grow (redrawn wr dq) osq = wq at hbq ⊢
            go_wp2_with fail
            go_ret
            exact ⟨⟨_, rfl, fun h => by cases h⟩, bstep Hhw.out hbq⟩
          · have Hhw := Lib.hid hw
            have Hhall := Lib.hid hall
            have He0 := Lib.hid e0
            have He1 := Lib.hid e1
            clear hw hall e0 e1
            go_wp2_with fail
            refine wp_region_quiet_below (by kernel_rfl) (by kernel_rfl) ?_
            repeat (quiet_step (fail))
            refine wpQuiet_nil ?_
            intro _ hw'
            obtain ⟨⟨dq, osq⟩, hw''⟩ := hw'
            subst hw''
            have hbq := below_regrown wr dq osq
            generalize grow (redrawn wr dq) osq = wq at hbq ⊢
            have hw1 := Lib.hid (bstep Hhw.out hbq)
            clear r0 r1 Hhw
            have g0 := bkeeps hbq _ _ g0
            go_wp2_with fail
            go_loopw [6] (fun j wr => ∃ (m : Nat), m ≤ k ∧ j = .int .i64 m ∧ Hid (∀ x, x < m → p.getD k 0 ≠ p.getD x 0) ∧ Below w.heap.size w wr) (fun j _ => k - (intOf j).toNat)
            case atStart => exact ⟨0, Nat.zero_le _, rfl, fun x hx => absurd hx (by omega), hw1.out⟩
            case round =>
              obtain ⟨m, hm, rfl, hin, hw⟩ := hrel
              by_cases hmk : m < k
              · obtain ⟨b', o', e', g1, _⟩ := hl.at_ hw m (by omega)
                obtain ⟨b2, o2, e2, g2, _⟩ := hl.at_ hw k hlt
                simp only [Option.some.injEq, Addr.mk.injEq, and_true] at e' e2
                obtain ⟨rfl, rfl⟩ := e'
                obtain ⟨rfl, rfl⟩ := e2
                have r0 := cell_regrown g2
                have r1 := cell_regrown g1
                have y0 : (0 : Int) ≤ (m : Int) := by omega
                have y1 : (m : Int) < (p.length : Int) := by omega
                have e3 : p.getD m 0 = p[m]'(by omega) := by simp [show m < p.length by omega]
                by_cases heq : p[k] = p[m]
                · have hbe : (p[k] == p[m]) = true := by simpa using heq
                  have Hhw := Lib.hid hw
                  have Hhin := Lib.hid hin
                  have He3 := Lib.hid e3
                  clear hw hin e3
                  clear heq
                  go_wp2_with fail
                  refine wp_region_quiet_below (by kernel_rfl) (by kernel_rfl) ?_
                  repeat (quiet_step (fail))
                  refine wpQuiet_nil ?_
                  intro _ hw'
                  obtain ⟨⟨dq, osq⟩, hw''⟩ := hw'
                  subst hw''
                  have hbq := below_regrown wr dq osq
                  generalize grow (redrawn wr dq) osq = wq at hbq ⊢
                  go_wp2_with fail
                  go_ret
                  exact ⟨⟨_, rfl, fun h => by cases h⟩, bstep Hhw.out hbq⟩
                · have hbe : (p[k] == p[m]) = false := by simpa using heq
                  have hne := Lib.hid heq
                  have Hhw := Lib.hid hw
                  have Hhin := Lib.hid hin
                  have He3 := Lib.hid e3
                  clear hw hin e3
                  clear heq
                  go_wp2_with fail
                  refine wp_region_quiet_below (by kernel_rfl) (by kernel_rfl) ?_
                  repeat (quiet_step (fail))
                  refine wpQuiet_nil ?_
                  intro _ hw'
                  obtain ⟨⟨dq, osq⟩, hw''⟩ := hw'
                  subst hw''
                  have hbq := below_regrown wr dq osq
                  generalize grow (redrawn wr dq) osq = wq at hbq ⊢
                  go_wp2_with fail
                  go_roundw
                  case rel =>
                    refine ⟨m + 1, by omega, by go_num, fun x hx => ?_, bstep Hhw.out hbq⟩
                    by_cases hxm : x = m
                    · subst hxm; rw [He0.out, He3.out]; exact hne.out
                    · exact Hhin.out x (by omega)
                  case measure => simp [intOf]; omega
              · obtain rfl : m = k := by omega
                have Hhw := Lib.hid hw
                have Hhin := Lib.hid hin
                clear hw hin
                go_wp2_with fail
                go_roundw
                case rel =>
                  refine ⟨m + 1, by omega, by go_num, fun j hj => ?_, Hhw.out⟩
                  by_cases hjm : j = m
                  · subst hjm; exact ⟨(by have h0 := He0.out; have h1 := He1.out; intro _; omega), Hhin.out⟩
                  · exact Hhall.out j (by omega)
                case measure => simp [intOf]; omega
        · obtain rfl : k = 0 := by omega
          clear r0 r1 g0 g1 e0 e1 z0 z1 z2 hk0
          have Hhw := Lib.hid hw
          have Hhall := Lib.hid hall
          clear hw hall
          go_wp2_with fail
          go_region
          go_wp2_with fail
          go_loopw [6] (fun j wr => j = .int .i64 0 ∧ Hid (Below w.heap.size w wr)) (fun _ _ => 0)
          case atStart => exact ⟨by first | rfl | trivial, by first | exact Hhw.out.drew | trivial⟩
          case round =>
            obtain ⟨rfl, hw2⟩ := hrel
            go_wp2_with fail
            go_roundw
            case rel => exact ⟨1, by omega, by go_num, fun j hj => ⟨fun h => absurd h (by omega), fun m hm => absurd hm (by omega)⟩, hw2.out⟩
            case measure => simp [intOf]; omega
      · obtain rfl : k = p.length := by omega
        go_wp2_with fail
        go_ret
        exact ⟨⟨_, rfl, fun _ => ⟨by first | rfl | trivial, fun i hi => hall.out i hi⟩⟩, hw⟩
  · have hb0 : ((p.length : Int) == n) = false := by simpa using h0
    go_enter Try.func44, Try.ntmps44
    go_wp2_with fail
    go_ret
    exact ⟨⟨_, rfl, fun h => by cases h⟩, Below.refl _ _⟩

/-- Has no symbol a higher rank? -/
def high (p : List Int) (i : Nat) : Bool := decide (∀ k, k < p.length → p.getD k 0 ≤ p.getD i 0)

set_option maxHeartbeats 1000000 in
theorem highest_any (p : List Int) (i : Nat) (w : World) (a : Option Addr) (c : Nat) (hi : i < p.length) (hc : p.length ≤ c) (hm : c ≤ maxLen) (hl : IsInts w p a) :
    Calls Try.prog 45 #[.slice a p.length c, .int .i64 i] w fun e w' => e = .returned (.bool (high p i)) ∧ Below w.heap.size w w' := by
  unfold maxLen at hm
  go_enter Try.func45, Try.ntmps45
  go_wp2_with fail
  go_loopw [5] (fun j wr => ∃ (k : Nat), k ≤ p.length ∧ j = .int .i64 k ∧ Hid (∀ x, x < k → p.getD x 0 ≤ p.getD i 0) ∧ Below w.heap.size w wr) (fun j _ => p.length - (intOf j).toNat)
  case atStart => exact ⟨0, Nat.zero_le _, rfl, fun x hx => absurd hx (by omega), Below.refl _ _⟩
  case round =>
    obtain ⟨k, hk, rfl, hall, hw⟩ := hrel
    by_cases hlt : k < p.length
    · obtain ⟨b, o, rfl, g0, _⟩ := hl.at_ hw k hlt
      obtain ⟨b', o', e', g1, _⟩ := hl.at_ hw i hi
      simp only [Option.some.injEq, Addr.mk.injEq, and_true] at e'
      obtain ⟨rfl, rfl⟩ := e'
      have z0 : (0 : Int) ≤ (k : Int) := by omega
      have z1 : (k : Int) < (p.length : Int) := by omega
      have z2 : (0 : Int) ≤ (i : Int) := by omega
      have z3 : (i : Int) < (p.length : Int) := by omega
      have e0 : p.getD k 0 = p[k] := by simp [hlt]
      have e1 : p.getD i 0 = p[i] := by simp [hi]
      by_cases hki : k = i
      · subst hki
        have Hhw := Lib.hid hw
        have Hhall := Lib.hid hall
        clear hw hall
        clear g0 g1 e0 e1
        go_wp2_with fail
        go_region
        go_wp2_with fail
        go_roundw
        case rel =>
          refine ⟨k + 1, by omega, by go_num, fun x hx => ?_, Hhw.out.drew⟩
          by_cases hxk : x = k
          · subst hxk; omega
          · exact Hhall.out x (by omega)
        case measure => simp [intOf]; omega
      · have hb : ((k : Int) == (i : Int)) = false := by simp only [beq_eq_false_iff_ne, ne_eq]; omega
        have hb2 : ¬ (k : Int) = (i : Int) := by omega
        have r0 := cell_regrown g0
        have r1 := cell_regrown g1
        by_cases hgt : p[i] < p[k]
        · have HV := Lib.hid (show high p i = false from decide_eq_false (fun h => by have := h k hlt; omega))
          have Hhw := Lib.hid hw
          have Hhall := Lib.hid hall
          have He0 := Lib.hid e0
          have He1 := Lib.hid e1
          clear hw hall e0 e1
          go_wp2_with fail
          refine wp_region_quiet_below (by kernel_rfl) (by kernel_rfl) ?_
          repeat (quiet_step (fail))
          refine wpQuiet_nil ?_
          intro _ hw'
          obtain ⟨⟨dq, osq⟩, hw''⟩ := hw'
          subst hw''
          have hbq := below_regrown wr dq osq
          generalize grow (redrawn wr dq) osq = wq at hbq ⊢
          go_wp2_with fail
          go_ret
          exact ⟨rbool HV.out, bstep Hhw.out hbq⟩
        · have hle := Lib.hid hgt
          have Hhw := Lib.hid hw
          have Hhall := Lib.hid hall
          have He0 := Lib.hid e0
          have He1 := Lib.hid e1
          clear hw hall e0 e1
          go_wp2_with fail
          refine wp_region_quiet_below (by kernel_rfl) (by kernel_rfl) ?_
          repeat (quiet_step (fail))
          refine wpQuiet_nil ?_
          intro _ hw'
          obtain ⟨⟨dq, osq⟩, hw''⟩ := hw'
          subst hw''
          have hbq := below_regrown wr dq osq
          generalize grow (redrawn wr dq) osq = wq at hbq ⊢
          go_wp2_with fail
          go_roundw
          case rel =>
            refine ⟨k + 1, by omega, by go_num, fun x hx => ?_, bstep Hhw.out hbq⟩
            by_cases hxk : x = k
            · have h0 := He0.out; have h1 := He1.out; have h2 := hle.out; rw [hxk]; omega
            · exact Hhall.out x (by omega)
          case measure => simp [intOf]; omega
    · go_wp2_with fail
      go_ret
      exact ⟨rbool (show high p i = true from decide_eq_true (fun x hx => hall.out x (by omega))), hw⟩

end Go.Proofs.Ytjkpecjlpgcalaa
