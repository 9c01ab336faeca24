/- The walks through the program's order of Knuth and Bendix: around, turned. -/
import Derived.Test.YtjkpecjlpgcalaaKboCounts2
import Derived.Test.YtjkpecjlpgcalaaKboWeigh2
import Derived.Test.YtjkpecjlpgcalaaTSame
import Derived.Test.YtjkpecjlpgcalaaBlk
import Derived.Deep.LoopGhost
namespace Go.Proofs.Ytjkpecjlpgcalaa
open Go.RowKit Go.Sort Go

/-- What is left when symbols all the same are peeled off. -/
def Od.peel (f v : Int) : T → Bool
  | .mk g [a] => if g = f then Od.peel f v a else g == v
  | .mk g _ => g == v
theorem Od.peel_eq (f v : Int) (hne : f ≠ v) : ∀ t, Od.peel f v t = (t.f == v || Od.around f v t)
  | .mk g [a] => by
    rw [Od.peel, Od.around, Od.peel_eq f v hne a]
    by_cases e : g = f
    · subst e; simp [hne]
    · simp [e]
  | .mk g [] => by simp [Od.peel, Od.around]
  | .mk g (a :: b :: r) => by simp [Od.peel, Od.around]
theorem Od.peel_top (v : Int) (t : T) (hne : t.f ≠ v) : Od.peel t.f v t = Od.around t.f v t := by
  rw [Od.peel_eq t.f v hne]; simp [hne]

theorem around_any (v : Int) (t : T) (w : World) (u : Value) (hne : t.f ≠ v) (hu : IsT w t u) :
    Calls Try.prog 52 #[u, .int .i64 v] w fun e w' => e = .returned (.bool (Od.around t.f v t)) ∧ Below w.heap.size w w' := by
  have E := Lib.hid (Od.peel_top v t hne)
  have hu0 := hu
  obtain ⟨hi, a, c, rfl, hc, hm, hl⟩ := hu.form
  have hu0 := Lib.hid hu
  unfold maxLen at hm
  clear hu hl hne
  go_enter Try.func52, Try.ntmps52
  go_wp2_with fail
  go_loopg [] t.size (fun m wr => ∃ (s : T) (a : Option Addr) (c : Nat), s.size ≤ m ∧ Hid (IsT w s (.agg #[.int .i64 s.f, .slice a s.args.length c])) ∧ Hid (Od.peel t.f v t = Od.peel t.f v s) ∧ Below w.heap.size w wr ∧ Blk wr w.heap.size 27 #[.int .i64 s.f, .slice a s.args.length c])
  case atStart => exact ⟨t, a, c, Nat.le_refl _, hu0, rfl, balloc _ _, Blk.new' rfl⟩
  case round =>
    obtain ⟨s, a', c', hsz, hs, hx, hw, hB⟩ := hrel
    have k0 := hB.cell 0
    have k1 := hB.cell 1
    have z0 := hB.frozen 0
    have z1 := hB.frozen 1
    simp only [List.getElem?_toArray, List.getElem?_cons_zero, List.getElem?_cons_succ] at k0 k1
    obtain ⟨g, l⟩ := s
    simp only [T.f_mk, T.args_mk] at *
    by_cases hg : g = t.f
    · rcases l with _ | ⟨x, _ | ⟨y, r⟩⟩
      · have HV := Lib.hid (show (g == v) = Od.around t.f v t by rw [← E.out, hx.out]; simp [Od.peel])
        have hgb : (g == t.f) = true := by simpa using hg
        have Hhw := Lib.hid hw
        have HhB := Lib.hid hB
        clear hw hB
        clear hs hx hg
        go_wp2_with fail
        go_ret
        exact ⟨rbool HV.out.symm, Hhw.out⟩
      · have hgb : (g == t.f) = true := by simpa using hg
        obtain ⟨_, a1, c1, e1, _, _, hl⟩ := hs.out
        simp only [Value.agg.injEq, Array.mk.injEq, List.cons.injEq, and_true, true_and, Value.slice.injEq] at e1
        obtain ⟨rfl, rfl⟩ := e1
        obtain ⟨b, oo, a2, c2, rfl, g1, g2, h3⟩ := hl.at2 hw 0 (by simp)
        have hx2 := Lib.hid (show Od.peel t.f v t = Od.peel t.f v x by rw [hx.out, Od.peel, if_pos hg])
        rw [T.size, T.sizeL, T.sizeL] at hsz
        simp only [List.getElem_cons_zero, Nat.zero_mul, Nat.add_zero, List.length_cons, List.length_nil, Nat.zero_add] at g1 g2 h3 k1 hB
        have hsx : x.size < gk := by omega
        have Hhw := Lib.hid hw
        have HhB := Lib.hid hB
        have Hh3 := Lib.hid h3
        clear hw hB h3
        clear hl hx hs hg hsz
        go_wp2_with fail
        go_roundg (gk - 1)
        case measure => omega
        case rel => exact ⟨x, a2, c2, by omega, Hh3.out, hx2.out, (Hhw.out.setCell (p := ⟨w.heap.size, 0, none⟩) (Nat.le_refl _) _).setCell (p := ⟨w.heap.size, 1, none⟩) (Nat.le_refl _) _, by simpa using (HhB.out.set_ 0 _).set_ 1 _⟩
      · have HV := Lib.hid (show (g == v) = Od.around t.f v t by rw [← E.out, hx.out]; simp [Od.peel])
        have hgb : (g == t.f) = true := by simpa using hg
        have hln : ((((x :: y :: r).length : Nat) : Int) == 1) = false := by simp; omega
        generalize (x :: y :: r).length = n at *
        have Hhw := Lib.hid hw
        have HhB := Lib.hid hB
        clear hw hB
        clear hs hx hg
        go_wp2_with fail
        go_ret
        exact ⟨rbool HV.out.symm, Hhw.out⟩
    · have HV := Lib.hid (show (g == v) = Od.around t.f v t by
        rw [← E.out, hx.out]
        rcases l with _ | ⟨x, _ | ⟨y, r⟩⟩
        · simp [Od.peel]
        · rw [Od.peel, if_neg hg]
        · simp [Od.peel])
      have hgb : (g == t.f) = false := by simpa using hg
      have Hhw := Lib.hid hw
      have HhB := Lib.hid hB
      clear hw hB
      clear hs hx hg
      go_wp2_with fail
      go_ret
      exact ⟨rbool HV.out.symm, Hhw.out⟩

theorem turned_any (r : Int) (w : World) (h0 : 0 ≤ r) (h3 : r ≤ 3) :
    Calls Try.prog 53 #[.int .i64 r] w fun e w' => e = .returned (.int .i64 (Od.turned r)) ∧ Below w.heap.size w w' := by
  have i0 : ∀ w, (Instr.index 83 (.agg #[.int .i64 0, .int .i64 3, .int .i64 2, .int .i64 1]) (.int .i64 0)).run Try.prog w = .ok (.int .i64 0) w := fun _ => by kernel_rfl
  have i1 : ∀ w, (Instr.index 83 (.agg #[.int .i64 0, .int .i64 3, .int .i64 2, .int .i64 1]) (.int .i64 1)).run Try.prog w = .ok (.int .i64 3) w := fun _ => by kernel_rfl
  have i2 : ∀ w, (Instr.index 83 (.agg #[.int .i64 0, .int .i64 3, .int .i64 2, .int .i64 1]) (.int .i64 2)).run Try.prog w = .ok (.int .i64 2) w := fun _ => by kernel_rfl
  have i3 : ∀ w, (Instr.index 83 (.agg #[.int .i64 0, .int .i64 3, .int .i64 2, .int .i64 1]) (.int .i64 3)).run Try.prog w = .ok (.int .i64 1) w := fun _ => by kernel_rfl
  have hr : r = 0 ∨ r = 1 ∨ r = 2 ∨ r = 3 := by omega
  rcases hr with rfl | rfl | rfl | rfl
  all_goals
    go_enter Try.func53, Try.ntmps53
    go_wp2_with fail
    go_ret
    exact ⟨rint (by simp [Od.turned]), Below.refl _ _⟩

end Go.Proofs.Ytjkpecjlpgcalaa
