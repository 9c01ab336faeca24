/- The size of a term: the walk. -/
import Derived.Test.YtnblndmjjokepaaTerm
namespace Go.Proofs.Ytnblndmjjokepaa
open Go.RowKit

theorem size_any (t : T) : ∀ (w : World) (v : Value), IsT w t v →
    Calls Try.prog 27 #[v] w fun e w' => e = .returned (.int .i64 (wrap64 t.size)) ∧ Below w.heap.size w w' := by
  induction t using T.ind with
  | h f l ih =>
  intro w v hv
  obtain ⟨_, a, c, rfl, hc, hm, hl⟩ := hv
  unfold maxLen at hm
  go_enter Try.func27, Try.ntmps27
  go_wp2
  go_loopw [3, 4] (fun n i wr => ∃ (k : Nat), k ≤ l.length ∧ i = .int .i64 k ∧ n = .int .i64 (wrap64 (1 + T.sizeL (l.take k) : Nat)) ∧ Below w.heap.size w wr ∧ Box wr w.heap.size [.int .i64 f, .slice a l.length c]) (fun _ i _ => l.length - (intOf i).toNat)
  case atStart => exact ⟨0, Nat.zero_le _, rfl, vint (by simp [T.sizeL, wrap64]), balloc _ _, Box.new _ _ _⟩
  case round =>
    obtain ⟨k, hk, rfl, rfl, hw, hB⟩ := hrel
    obtain ⟨_, b1⟩ := hB.two
    by_cases hlt : k < l.length
    · obtain ⟨b, o, a', c', rfl, g1, g2, h3⟩ := hl.at_ hw k hlt
      have IH := fun w v => ih l[k] (List.getElem_mem hlt) w v
      have Hh3 := Lib.hid h3
      have HhB := Lib.hid hB
      have Hhw := Lib.hid hw
      clear h3 hB hw
      clear ih hl
      go_wp2_with (go_at_call 27; refine (IH _ _ Hh3.out).mono ?_; rintro e w' ⟨rfl, hb'⟩)
      go_roundw
      case rel => exact ⟨k + 1, by omega, by go_num, by rw [wrap64_add, T.sizeL_take_succ l k hlt]; congr 2; omega, bstep Hhw.out hb', HhB.out.below hb'⟩
      case measure => simp [intOf]; omega
    · go_wp2_with fail
      go_ret
      obtain rfl : k = l.length := by omega
      exact ⟨rint (by rw [List.take_length]; rfl), hw⟩

end Go.Proofs.Ytnblndmjjokepaa
