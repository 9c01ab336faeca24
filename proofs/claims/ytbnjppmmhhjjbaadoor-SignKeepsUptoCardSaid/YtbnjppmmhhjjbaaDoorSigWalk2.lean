/- The walks through the document's check of a signature, the rest. -/
import Derived.Test.YtbnjppmmhhjjbaaDoorSigWalk
namespace Go.Proofs.YtbnjppmmhhjjbaaDoor
open Go.RowKit Go.Sort Go

def Sy.val (x : Sy) : Value := .agg #[.string x.name, .int .i64 x.ar, .bool x.pred]

theorem bytes_ext {n m : ByteArray} (h : n.toList = m.toList) : n = m := by
  rw [ByteArray.toList_eq, ByteArray.toList_eq] at h
  exact ByteArray.ext (Array.toList_inj.1 h)

theorem eqSy (n m : ByteArray) (a b : Int) (p q : Bool) (w : World) : (binOp .eql 26 (.agg #[.string n, .int .i64 a, .bool p]) (.agg #[.string m, .int .i64 b, .bool q])).run Tryd.prog w = .ok (.bool (decide ((⟨n, a, p⟩ : Sy) = ⟨m, b, q⟩))) w := by
  have hS : Tryd.prog.underlying 26 = some (.struct (Tryd.prog.fieldsOf 26)) := by kernel_rfl
  have hp : Tryd.prog.stoodInHeld 26 = false := by kernel_rfl
  have u1 := Tryd.underlying9
  have u2 := Tryd.underlying3
  have u3 := Tryd.underlying4
  rw [run_eql_struct, show (10000 : Nat) = 9999 + 1 from rfl, run_equalIn_agg w 9999 26 _ _ hS hp]
  simp only [Program.fieldsOf, Tryd.underlying26]
  go_simp
  have hn : ¬ n = m → ¬ n.toList = m.toList := fun h e => h (bytes_ext e)
  by_cases h1 : n = m <;> by_cases h2 : a = b <;> by_cases h3 : p = q <;> simp_all

theorem neqSy (n m : ByteArray) (a b : Int) (p q : Bool) (w : World) : (binOp .neq 26 (.agg #[.string n, .int .i64 a, .bool p]) (.agg #[.string m, .int .i64 b, .bool q])).run Tryd.prog w = .ok (.bool (!decide ((⟨n, a, p⟩ : Sy) = ⟨m, b, q⟩))) w := by
  have h := eqSy n m a b p q w
  rw [run_eql_struct] at h
  rw [run_neq_struct]
  cases hr : (Op.equalIn 10000 26 (.agg #[.string n, .int .i64 a, .bool p]) (.agg #[.string m, .int .i64 b, .bool q])).run Tryd.prog w with
  | ok b' w' =>
    rw [hr] at h
    simp only [Result.andThen_ok, Result.ok.injEq, Value.bool.injEq] at h ⊢
    exact ⟨by rw [h.1], h.2⟩
  | halt x w' => rw [hr] at h; simp [Result.andThen] at h

theorem guardSy (op : BinOp) (x y : Operand) (xs ys : Array Value) (w : World) : (eqGuard op 26 x y (.agg xs) (.agg ys)).run Tryd.prog w = .ok () w := run_eqGuard_agg w op _ x y xs ys (by kernel_rfl)

theorem one_any (x : Sy) (w : World) (hs : x.name.size ≤ maxLen) : Calls Tryd.prog 19 #[x.val] w fun e w' => e = .returned (.int .i64 x.one) ∧ Below w.heap.size w w' := by
  have NM := fun w => named_any x.name w hs
  have E : x.one = if named x.name then (if x.ar < 0 ∨ 6 < x.ar then 112 else 0) else 111 := rfl
  obtain ⟨name, ar, pred⟩ := x
  unfold Sy.val
  generalize Sy.one ⟨name, ar, pred⟩ = r at *
  simp only at *
  generalize named name = b at *
  cases b with
  | false =>
    have HE := Lib.hid (show r = 111 by rw [E]; rfl)
    clear E
    go_enter Tryd.func19, Tryd.ntmps19
    go_wp2_with fail
    refine (NM _).mono ?_
    rintro e w1 ⟨rfl, hb1⟩
    go_wp2_with fail
    go_ret
    exact ⟨rint HE.out, bcall hb1⟩
  | true =>
    have HE := Lib.hid (show r = if ar < 0 ∨ 6 < ar then 112 else 0 by rw [E]; simp)
    clear E
    go_enter Tryd.func19, Tryd.ntmps19
    go_wp2_with fail
    refine (NM _).mono ?_
    rintro e w1 ⟨rfl, hb1⟩
    obtain ⟨B1, hw⟩ := box1 hb1
    have k0 := B1 0 _ rfl
    have k1 := B1 1 _ rfl
    have k2 := B1 2 _ rfl
    have Hhw := Lib.hid hw
    clear hw
    clear hb1 B1
    by_cases h1 : ar < 0
    · have HV := Lib.hid (show r = 112 by rw [HE.out, if_pos (.inl h1)])
      go_wp2_with fail
      go_ret
      exact ⟨rint HV.out, Hhw.out⟩
    · by_cases h2 : 6 < ar
      · have HV := Lib.hid (show r = 112 by rw [HE.out, if_pos (.inr h2)])
        go_wp2_with fail
        go_ret
        exact ⟨rint HV.out, Hhw.out⟩
      · have HV := Lib.hid (show r = 0 by rw [HE.out, if_neg (by omega)])
        go_wp2_with fail
        go_ret
        exact ⟨rint HV.out, Hhw.out⟩

theorem syAt_range (x : Sy) : ∀ (l : List Sy) (k : Int), 0 ≤ k → syAt x l k = -1 ∨ k ≤ syAt x l k ∧ syAt x l k < k + l.length
  | [], k, _ => .inl rfl
  | y :: r, k, h => by
    rw [syAt]
    by_cases e : y = x
    · rw [if_pos e]; right; simp only [List.length_cons]; omega
    · rw [if_neg e]
      rcases syAt_range x r (k + 1) (by omega) with h | h
      · exact .inl h
      · simp only [List.length_cons]; omega

theorem at_any (x : Sy) (l : List Sy) (w : World) (a : Option Addr) (c : Nat) (hc : l.length ≤ c) (hm : c ≤ maxLen) (hl : IsSys w l a) :
    Calls Tryd.prog 32 #[.slice a l.length c, x.val] w fun e w' => e = .returned (.int .i64 (syAt x l 0)) ∧ Below w.heap.size w w' := by
  unfold maxLen at hm
  obtain ⟨name, ar, pred⟩ := x
  unfold Sy.val
  simp only
  go_enter Tryd.func32, Tryd.ntmps32
  go_wp2_with fail
  go_loopw [5] (fun i wr => ∃ (k : Nat), k ≤ l.length ∧ i = .int .i64 k ∧ Hid (syAt ⟨name, ar, pred⟩ l 0 = syAt ⟨name, ar, pred⟩ (l.drop k) k) ∧ Below w.heap.size w wr ∧ Box wr w.heap.size [.string name, .int .i64 ar, .bool pred]) (fun i _ => l.length - (intOf i).toNat)
  case atStart => exact ⟨0, Nat.zero_le _, rfl, by simp [Hid], balloc _ _, Box.new _ _ _⟩
  case round =>
    obtain ⟨k, hk, rfl, hx, hw, hB⟩ := hrel
    by_cases hlt : k < l.length
    · obtain ⟨b, o, rfl, g0, g1, g2, _, _⟩ := hl.at_ hw k hlt
      have k0 := hB 0 _ rfl
      have k1 := hB 1 _ rfl
      have k2 := hB 2 _ rfl
      have r0 := cell_regrown k0
      have r1 := cell_regrown k1
      have r2 := cell_regrown k2
      have r3 := cell_regrown g0
      have r4 := cell_regrown g1
      have r5 := cell_regrown g2
      have z0 : (0 : Int) ≤ (k : Int) := by omega
      have z1 : (k : Int) < (l.length : Int) := by omega
      have hd : syAt ⟨name, ar, pred⟩ (l.drop k) k = if l[k] = ⟨name, ar, pred⟩ then (k : Int) else syAt ⟨name, ar, pred⟩ (l.drop (k + 1)) (k + 1 : Nat) := by
        rw [List.drop_eq_getElem_cons hlt, syAt]; rfl
      have Hhw := Lib.hid hw
      have HhB := Lib.hid hB
      have Hhd := Lib.hid hd
      clear hw hB hd
      go_wp2_with fail
      have GD := guardSy
      by_cases he : l[k] = ⟨name, ar, pred⟩
      · have EQ := fun w => eqSy l[k].name name l[k].ar ar l[k].pred pred w
        rw [decide_eq_true (show (⟨l[k].name, l[k].ar, l[k].pred⟩ : Sy) = ⟨name, ar, pred⟩ from he)] at EQ
        have HV := Lib.hid (show syAt ⟨name, ar, pred⟩ l 0 = k by rw [hx.out, Hhd.out, if_pos he])
        clear he
        refine wp_region_quiet_below (by kernel_rfl) (by kernel_rfl) ?_
        repeat (quiet_step (fail))
        refine wpQuiet_nil ?_
        intro _ hw'
        obtain ⟨⟨dq, osq⟩, hw''⟩ := hw'
        subst hw''
        have hbq := below_regrown wr dq osq
        generalize grow (redrawn wr dq) osq = wq at hbq ⊢
        go_wp2_with fail
        go_ret
        exact ⟨rint HV.out, bstep Hhw.out hbq⟩
      · have EQ := fun w => eqSy l[k].name name l[k].ar ar l[k].pred pred w
        rw [decide_eq_false (show ¬ (⟨l[k].name, l[k].ar, l[k].pred⟩ : Sy) = ⟨name, ar, pred⟩ from he)] at EQ
        have HV := Lib.hid (show syAt ⟨name, ar, pred⟩ l 0 = syAt ⟨name, ar, pred⟩ (l.drop (k + 1)) (k + 1 : Nat) by rw [hx.out, Hhd.out, if_neg he])
        clear he
        refine wp_region_quiet_below (by kernel_rfl) (by kernel_rfl) ?_
        repeat (quiet_step (fail))
        refine wpQuiet_nil ?_
        intro _ hw'
        obtain ⟨⟨dq, osq⟩, hw''⟩ := hw'
        subst hw''
        have hbq := below_regrown wr dq osq
        generalize grow (redrawn wr dq) osq = wq at hbq ⊢
        go_wp2_with fail
        go_roundw
        case rel => exact ⟨k + 1, by omega, by go_num, HV.out, bstep Hhw.out hbq, HhB.out.below hbq⟩
        case measure => simp [intOf]; omega
    · have HV := Lib.hid (show syAt ⟨name, ar, pred⟩ l 0 = -1 by rw [hx.out, List.drop_eq_nil_of_le (by omega), syAt])
      go_wp2_with fail
      go_ret
      exact ⟨rint HV.out, hw⟩

end Go.Proofs.YtbnjppmmhhjjbaaDoor
