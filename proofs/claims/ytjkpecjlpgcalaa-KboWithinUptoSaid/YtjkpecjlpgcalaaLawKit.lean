/- The little functions of the law of the orders: of, Great. -/
import Derived.Test.YtjkpecjlpgcalaaKboCmp
import Derived.Test.YtjkpecjlpgcalaaRel
namespace Go.Proofs.Ytjkpecjlpgcalaa
open Go.RowKit Go.Sort Go

theorem of_any (f : Int) (s : Value) (w : World) (a : Option Addr) (n c : Nat) (hs : s = .slice a n c) :
    Calls Try.prog 24 #[.int .i64 f, s] w fun e w' => e = .returned (.agg #[.int .i64 f, s]) ∧ Below w.heap.size w w' := by
  subst hs
  go_enter Try.func24, Try.ntmps24
  go_wp2_with fail
  refine bodyPost_ret (v := .agg #[.int .i64 f, .slice a n c]) (by simp [results, Try.results24, go_sem]) rfl ?_
  exact ⟨rfl, balloc _ _⟩

theorem great_any (l : List T) (w : World) (a : Option Addr) (c : Nat) (hc : l.length ≤ c) (hm : c ≤ maxLen) (hl : IsTs w l a 0) :
    Calls Try.prog 8 #[.slice a l.length c] w fun e w' => (∃ b, e = .returned (.bool b)) ∧ Below w.heap.size w w' := by
  unfold maxLen at hm
  go_enter Try.func8, Try.ntmps8
  go_wp2
  go_loopw [3, 4] (fun n i wr => ∃ (k : Nat) (m : Int), k ≤ l.length ∧ i = .int .i64 k ∧ n = .int .i64 m ∧ Below w.heap.size w wr) (fun _ i _ => l.length - (intOf i).toNat)
  case atStart => exact ⟨0, 0, Nat.zero_le _, rfl, rfl, Below.refl _ _⟩
  case round =>
    obtain ⟨k, m, hk, rfl, rfl, hw⟩ := hrel
    by_cases hlt : k < l.length
    · obtain ⟨b, o, a', c', rfl, g1, g2, h3⟩ := hl.at_ hw k hlt
      have SZ := fun w v => size_any l[k] w v
      have Hh3 := Lib.hid h3
      have Hhw := Lib.hid hw
      clear h3 hw
      clear hl
      by_cases hgt : 2000 < wrap64 (m + wrap64 l[k].size)
      · go_wp2_with (go_at_call 22; refine (SZ _ _ Hh3.out).mono ?_; rintro e w' ⟨rfl, hb'⟩)
        go_ret
        exact ⟨⟨_, rfl⟩, bstep Hhw.out hb'⟩
      · go_wp2_with (go_at_call 22; refine (SZ _ _ Hh3.out).mono ?_; rintro e w' ⟨rfl, hb'⟩)
        go_roundw
        case rel => exact ⟨k + 1, _, by omega, by go_num, rfl, bstep Hhw.out hb'⟩
        case measure => simp [intOf]; omega
    · go_wp2_with fail
      go_ret
      exact ⟨⟨_, rfl⟩, hw⟩

end Go.Proofs.Ytjkpecjlpgcalaa
