/- The walks through the document's check of a term. -/
import Derived.Test.YtjkpecjlpgcalaaSigCheck
import Derived.Test.YtjkpecjlpgcalaaSize
namespace Go.Proofs.Ytjkpecjlpgcalaa
open Go.RowKit Go.Sort Go

namespace T
mutual
def depth : T → Nat
  | .mk _ l => depthL l + 1
def depthL : List T → Nat
  | [] => 0
  | a :: r => max (depth a) (depthL r)
end
mutual
theorem depth_le : ∀ t : T, depth t ≤ size t
  | .mk f l => by have := depthL_le l; rw [depth, size]; omega
theorem depthL_le : ∀ l : List T, depthL l ≤ sizeL l
  | [] => by simp [depthL]
  | a :: r => by have := depth_le a; have := depthL_le r; have := size_eq a; rw [depthL, sizeL]; omega
end
theorem depthL_take_succ (l : List T) (k : Nat) (h : k < l.length) : depthL (l.take (k + 1)) = max (depthL (l.take k)) (depth l[k]) := by
  induction l generalizing k with
  | nil => simp at h
  | cons t r ih =>
    cases k with
    | zero => simp [depthL]
    | succ k => simp [depthL, ih k (by simpa using h), Nat.max_assoc]
theorem depthL_take_le (l : List T) (k : Nat) : depthL (l.take k) ≤ depthL l := by
  induction l generalizing k with
  | nil => simp [depthL]
  | cons t r ih =>
    cases k with
    | zero => simp [depthL]
    | succ k => simp only [List.take_succ_cons, depthL]; have := ih k; omega

mutual
def low (m : Int) : T → Bool
  | .mk f l => if f < 0 then decide (-m ≤ f) && l.isEmpty else lowL m l
def lowL (m : Int) : List T → Bool
  | [] => true
  | a :: r => low m a && lowL m r
end
theorem lowL_all (m : Int) : ∀ l, lowL m l = l.all (low m)
  | [] => rfl
  | a :: r => by rw [lowL, List.all_cons, lowL_all m r]

def small (m : Int) (t : T) : Bool := decide (t.size ≤ 300) && (decide (t.depth ≤ 30) && t.low m)

mutual
def over (sg : List Sy) : Bool → T → Bool
  | top, .mk f l => if f < 0 then true else match sg[f.toNat]? with
    | none => false
    | some s => if s.ar ≠ l.length ∨ (s.pred = true ∧ top = false) then false else overL sg l
def overL (sg : List Sy) : List T → Bool
  | [] => true
  | a :: r => over sg false a && overL sg r
end
theorem overL_all (sg : List Sy) : ∀ l, overL sg l = l.all (over sg false)
  | [] => rfl
  | a :: r => by rw [overL, List.all_cons, overL_all sg r]
end T


theorem depth_any (t : T) : ∀ (w : World) (v : Value), t.size ≤ 4294967296 → IsT w t v →
    Calls Try.prog 57 #[v] w fun e w' => e = .returned (.int .i64 t.depth) ∧ Below w.heap.size w w' := by
  induction t using T.ind with
  | h f l ih =>
  intro w v hz hv
  obtain ⟨_, a, c, rfl, hc, hm, hl⟩ := hv
  unfold maxLen at hm
  have hz2 : T.sizeL l ≤ 4294967296 := by rw [T.size] at hz; omega
  have hd := T.depthL_le l
  have E := Lib.hid (show (T.mk f l).depth = T.depthL l + 1 by rw [T.depth])
  clear hz
  go_enter Try.func57, Try.ntmps57
  go_wp2
  go_loopw [3, 4] (fun n i wr => ∃ (k : Nat), k ≤ l.length ∧ i = .int .i64 k ∧ n = .int .i64 (T.depthL (l.take k) : Nat) ∧ Below w.heap.size w wr ∧ Box wr w.heap.size [.int .i64 f, .slice a l.length c]) (fun _ i _ => l.length - (intOf i).toNat)
  case atStart => exact ⟨0, Nat.zero_le _, rfl, vint (by simp [T.depthL]), balloc _ _, Box.new _ _ _⟩
  case round =>
    obtain ⟨k, hk, rfl, rfl, hw, hB⟩ := hrel
    obtain ⟨_, b1⟩ := hB.two
    have hd2 := T.depthL_take_le l k
    by_cases hlt : k < l.length
    · obtain ⟨b, o, a', c', rfl, g1, g2, h3⟩ := hl.at_ hw k hlt
      have hsz := T.size_le_sizeL (List.getElem_mem hlt)
      have IH := fun w v => ih l[k] (List.getElem_mem hlt) w v (by omega)
      have hs := Lib.hid (T.depthL_take_succ l k hlt)
      have hd3 := T.depth_le l[k]
      generalize T.depthL (l.take k) = p at *
      generalize T.depth l[k] = q at *
      have Hh3 := Lib.hid h3
      have HhB := Lib.hid hB
      have Hhw := Lib.hid hw
      clear h3 hB hw
      clear ih hl
      go_wp2_with (go_at_call 57; refine (IH _ _ Hh3.out).mono ?_; rintro e w' ⟨rfl, hb'⟩)
      go_roundw
      case rel => exact ⟨k + 1, by omega, by go_num, by rw [hs.out]; congr 1; omega, bstep Hhw.out hb', HhB.out.below hb'⟩
      case measure => simp [intOf]; omega
    · obtain rfl : k = l.length := by omega
      go_wp2_with fail
      go_ret
      exact ⟨rint (by rw [E.out]; simp), hw⟩

theorem low_any (m : Int) (hm : 0 ≤ m ∧ m ≤ 1000) (t : T) : ∀ (w : World) (v : Value), IsT w t v →
    Calls Try.prog 58 #[v, .int .i64 m] w fun e w' => e = .returned (.bool (t.low m)) ∧ Below w.heap.size w w' := by
  induction t using T.ind with
  | h f l ih =>
  intro w v hv
  obtain ⟨hi, a, c, rfl, hc, hmm, hl⟩ := hv
  unfold maxLen at hmm
  have E : (T.mk f l).low m = if f < 0 then decide (-m ≤ f) && l.isEmpty else l.all (T.low m) := by rw [T.low, T.lowL_all]
  generalize hr : (T.mk f l).low m = r at *
  clear hr
  by_cases h0 : f < 0
  · rw [if_pos h0] at E
    by_cases h1 : -m ≤ f
    · have HE := Lib.hid (show r = ((l.length : Int) == 0) by rw [E, decide_eq_true h1]; cases l <;> simp; omega)
      clear E
      go_enter Try.func58, Try.ntmps58
      go_wp2_with fail
      go_ret
      exact ⟨rbool HE.out, balloc _ _⟩
    · have HE := Lib.hid (show r = false by rw [E, decide_eq_false h1]; rfl)
      clear E
      go_enter Try.func58, Try.ntmps58
      go_wp2_with fail
      go_ret
      exact ⟨rbool HE.out, balloc _ _⟩
  · rw [if_neg h0] at E
    have HE := Lib.hid E
    clear E
    go_enter Try.func58, Try.ntmps58
    go_wp2_with fail
    go_loopw [5] (fun i wr => ∃ (k : Nat), k ≤ l.length ∧ i = .int .i64 k ∧ Hid ((l.take k).all (T.low m) = true) ∧ Below w.heap.size w wr ∧ Box wr w.heap.size [.int .i64 f, .slice a l.length c]) (fun i _ => l.length - (intOf i).toNat)
    case atStart => exact ⟨0, Nat.zero_le _, rfl, rfl, balloc _ _, Box.new _ _ _⟩
    case round =>
      obtain ⟨k, hk, rfl, hall, hw, hB⟩ := hrel
      obtain ⟨_, b1⟩ := hB.two
      by_cases hlt : k < l.length
      · obtain ⟨b, o, a', c', rfl, g1, g2, h3⟩ := hl.at_ hw k hlt
        have IH := fun w v => ih l[k] (List.getElem_mem hlt) w v
        have hs : (l.take (k + 1)).all (T.low m) = T.low m l[k] := by
          rw [List.take_succ_eq_append_getElem hlt, List.all_append, hall.out]; simp
        have hf : T.low m l[k] = false → r = false := fun h => by
          rw [HE.out]; exact List.all_eq_false.2 ⟨l[k], List.getElem_mem hlt, by rw [h]; simp⟩
        cases hq : T.low m l[k] with
        | true =>
          rw [hq] at hs IH
          have Hh3 := Lib.hid h3
          have HhB := Lib.hid hB
          have Hhw := Lib.hid hw
          have Hhs := Lib.hid hs
          clear h3 hB hw hs
          clear ih hl hf hq
          go_wp2_with (go_at_call 58; refine (IH _ _ Hh3.out).mono ?_; rintro e w' ⟨rfl, hb'⟩)
          go_roundw
          case rel => exact ⟨k + 1, by omega, by go_num, Hhs.out, bstep Hhw.out hb', HhB.out.below hb'⟩
          case measure => simp [intOf]; omega
        | false =>
          rw [hq] at IH
          have HV := Lib.hid (hf hq)
          have Hh3 := Lib.hid h3
          have HhB := Lib.hid hB
          have Hhw := Lib.hid hw
          clear h3 hB hw
          clear ih hl hf hq hs
          go_wp2_with (go_at_call 58; refine (IH _ _ Hh3.out).mono ?_; rintro e w' ⟨rfl, hb'⟩)
          go_ret
          exact ⟨rbool HV.out, bstep Hhw.out hb'⟩
      · have HV := Lib.hid (show r = true by
          have := hall.out
          rw [List.take_of_length_le (by omega)] at this
          rw [HE.out, this])
        go_wp2_with fail
        go_ret
        exact ⟨rbool HV.out, hw⟩

theorem small_any (m : Int) (hm : 0 ≤ m ∧ m ≤ 1000) (t : T) (w : World) (v : Value) (hz : t.size ≤ 4294967296) (hv : IsT w t v) :
    Calls Try.prog 46 #[v, .int .i64 m] w fun e w' => e = .returned (.bool (t.small m)) ∧ Below w.heap.size w w' := by
  have hv0 := hv
  obtain ⟨_, a, c, rfl, _, _, _⟩ := hv.form
  have SZ := fun w v => size_any t w v
  have DP := fun w v => depth_any t w v hz
  have LW := fun w v => low_any m hm t w v
  have ew : wrap64 t.size = (t.size : Int) := wrap64_id (by omega)
  rw [ew] at SZ
  have E : t.small m = (decide (t.size ≤ 300) && (decide (t.depth ≤ 30) && t.low m)) := rfl
  generalize t.small m = r at *
  have hdz := T.depth_le t
  generalize t.depth = d at *
  generalize t.low m = lo at *
  have Hhv0 := Lib.hid hv0
  clear hv0
  clear hv ew
  by_cases h1 : t.size ≤ 300
  · have h1' : (t.size : Int) ≤ 300 := by omega
    by_cases h2 : d ≤ 30
    · have h2' : (d : Int) ≤ 30 := by omega
      have HE := Lib.hid (show r = lo by rw [E]; simp [h1, h2])
      clear E
      go_enter Try.func46, Try.ntmps46
      go_wp2_with fail
      refine (SZ _ _ (Hhv0.out.below (balloc _ _))).mono ?_
      rintro e w1 ⟨rfl, hb1⟩
      obtain ⟨B1, hw1⟩ := box1 hb1
      obtain ⟨t0, t1⟩ := B1.two
      have Hhw1 := Lib.hid hw1
      clear hw1
      go_wp2_with fail
      refine (DP _ _ (Hhv0.out.below Hhw1.out)).mono ?_
      rintro e w2 ⟨rfl, hb2⟩
      have B2 := B1.below hb2
      clear t0 t1 B1 hb1
      obtain ⟨t0, t1⟩ := B2.two
      have hw2 := bstep Hhw1.out hb2
      have Hhw2 := Lib.hid hw2
      clear hw2
      go_wp2_with fail
      refine (LW _ _ (Hhv0.out.below Hhw2.out)).mono ?_
      rintro e w3 ⟨rfl, hb3⟩
      go_wp2_with fail
      go_ret
      exact ⟨rbool HE.out, bstep Hhw2.out hb3⟩
    · have h2' : ¬ (d : Int) ≤ 30 := by omega
      have HE := Lib.hid (show r = false by rw [E]; simp [h2])
      clear E
      go_enter Try.func46, Try.ntmps46
      go_wp2_with fail
      refine (SZ _ _ (Hhv0.out.below (balloc _ _))).mono ?_
      rintro e w1 ⟨rfl, hb1⟩
      obtain ⟨B1, hw1⟩ := box1 hb1
      obtain ⟨t0, t1⟩ := B1.two
      have Hhw1 := Lib.hid hw1
      clear hw1
      go_wp2_with fail
      refine (DP _ _ (Hhv0.out.below Hhw1.out)).mono ?_
      rintro e w2 ⟨rfl, hb2⟩
      go_wp2_with fail
      go_ret
      exact ⟨rbool HE.out, bstep Hhw1.out hb2⟩
  · have h1' : ¬ (t.size : Int) ≤ 300 := by omega
    have HE := Lib.hid (show r = false by rw [E]; simp [h1])
    clear E
    go_enter Try.func46, Try.ntmps46
    go_wp2_with fail
    refine (SZ _ _ (Hhv0.out.below (balloc _ _))).mono ?_
    rintro e w1 ⟨rfl, hb1⟩
    go_wp2_with fail
    go_ret
    exact ⟨rbool HE.out, bcall hb1⟩

theorem over_any (sg : List Sy) (t : T) : ∀ (top : Bool) (w : World) (vs v : Value), IsSig w sg vs → IsT w t v →
    Calls Try.prog 47 #[vs, v, .bool top] w fun e w' => e = .returned (.bool (t.over sg top)) ∧ Below w.heap.size w w' := by
  induction t using T.ind with
  | h f l ih =>
  intro top w vs v hs hv
  have hs0 := hs
  obtain ⟨a', c', rfl, hc', hm', hsl⟩ := hs
  obtain ⟨⟨hf1, hf2⟩, a, c, rfl, hc, hm, hl⟩ := hv
  unfold maxLen at hm hm'
  have E : (T.mk f l).over sg top = if f < 0 then true else match sg[f.toNat]? with
    | none => false
    | some s => if s.ar ≠ l.length ∨ (s.pred = true ∧ top = false) then false else l.all (T.over sg false) := by
    rw [T.over]; simp only [T.overL_all]
  generalize hr : (T.mk f l).over sg top = r at *
  clear hr
  by_cases h0 : f < 0
  · have HE := Lib.hid (show r = true by rw [E, if_pos h0])
    clear E
    go_enter Try.func47, Try.ntmps47
    go_wp2_with fail
    go_ret
    exact ⟨rbool HE.out, balloc2 _ _ _⟩
  rw [if_neg h0] at E
  by_cases h1 : f < sg.length
  · obtain ⟨n, rfl⟩ : ∃ n : Nat, f = n := ⟨f.toNat, by omega⟩
    have hn : n < sg.length := by omega
    simp only [Int.toNat_natCast] at E
    rw [List.getElem?_eq_getElem hn] at E
    simp only at E
    obtain ⟨b, o, rfl, g0, g1, g2, ⟨hi1, hi2⟩, _⟩ := hsl.at_ (Below.refl _ w) n hn
    generalize sg[n].ar = ar at *
    generalize sg[n].name = nm at *
    generalize sg[n].pred = pr at *
    have q0 := calloc (calloc g0 (.cells #[.slice (some ⟨b, o, none⟩) sg.length c'] 36)) (.cells #[.int .i64 n, .slice a l.length c] 27)
    have q1 := calloc (calloc g1 (.cells #[.slice (some ⟨b, o, none⟩) sg.length c'] 36)) (.cells #[.int .i64 n, .slice a l.length c] 27)
    have q2 := calloc (calloc g2 (.cells #[.slice (some ⟨b, o, none⟩) sg.length c'] 36)) (.cells #[.int .i64 n, .slice a l.length c] 27)
    by_cases h2 : ar = l.length
    · have hb2 : (ar == (l.length : Int)) = true := by simpa using h2
      by_cases h3 : pr = true ∧ top = false
      · have HE := Lib.hid (show r = false by rw [E, if_pos (.inr h3)])
        obtain ⟨rfl, rfl⟩ := h3
        clear E
        go_enter Try.func47, Try.ntmps47
        go_wp2_with fail
        go_ret
        exact ⟨rbool HE.out, bstep (balloc2 _ _ _) (balloc _ _)⟩
      · have HE := Lib.hid (show r = l.all (T.over sg false) by rw [E, if_neg]; rintro (h | h); exact h h2; exact h3 h)
        have key : (pr = false) ∨ (pr = true ∧ top = true) := by cases pr <;> cases top <;> simp_all
        clear E h3
        rcases key with rfl | ⟨rfl, rfl⟩
        · go_enter Try.func47, Try.ntmps47
          go_wp2_with fail
          go_loopw [8] (fun i wr => ∃ (k : Nat), k ≤ l.length ∧ i = .int .i64 k ∧ Hid ((l.take k).all (T.over sg false) = true) ∧ Below w.heap.size w wr ∧ Box wr w.heap.size [.slice (some ⟨b, o, none⟩) sg.length c'] ∧ Box wr (w.heap.size + 1) [.int .i64 n, .slice a l.length c]) (fun i _ => l.length - (intOf i).toNat)
          case atStart =>
            obtain ⟨B1, B2, hb⟩ := box2 (balloc ((w.alloc (.cells #[.slice (some ⟨b, o, none⟩) sg.length c'] 36)).alloc (.cells #[.int .i64 n, .slice a l.length c] 27)) _)
            exact ⟨0, Nat.zero_le _, rfl, rfl, hb, B1, B2⟩
          case round =>
            obtain ⟨k, hk, rfl, hall, hw, hB1, hB2⟩ := hrel
            obtain ⟨t0, t1⟩ := hB2.two
            have u0 := hB1 0 _ rfl
            clear q0 q1 q2 g0 g1 g2
            by_cases hlt : k < l.length
            · obtain ⟨b2, o2, a2, c2, rfl, g1, g2, h3⟩ := hl.at_ hw k hlt
              have IH := fun w vs v => ih l[k] (List.getElem_mem hlt) false w vs v
              have hs2 : (l.take (k + 1)).all (T.over sg false) = T.over sg false l[k] := by
                rw [List.take_succ_eq_append_getElem hlt, List.all_append, hall.out]; simp
              have hf : T.over sg false l[k] = false → r = false := fun h => by
                rw [HE.out]; exact List.all_eq_false.2 ⟨l[k], List.getElem_mem hlt, by rw [h]; simp⟩
              have r0 := cell_regrown u0
              have r1 := cell_regrown t0
              have r2 := cell_regrown t1
              have r3 := cell_regrown g1
              have r4 := cell_regrown g2
              have z0 : (0 : Int) ≤ (k : Int) := by omega
              have z1 : (k : Int) < (l.length : Int) := by omega
              have hsw := Lib.hid (hs0.below hw)
              cases hq : T.over sg false l[k] with
              | true =>
                rw [hq] at hs2 IH
                have Hh3 := Lib.hid h3
                have HhB1 := Lib.hid hB1
                have HhB2 := Lib.hid hB2
                have Hhw := Lib.hid hw
                have Hhs2 := Lib.hid hs2
                clear h3 hB1 hB2 hw hs2
                clear ih hl hf hq hs0 hsl
                go_wp2_with fail
                refine wp_region_quiet_below (by kernel_rfl) (by kernel_rfl) ?_
                repeat (quiet_step (exact Calls.regrown_of (IH _ _ _ (hsw.out.below (below_regrown _ _ _)) (Hh3.out.below (below_regrown _ _ _)))))
                refine wpQuiet_nil ?_
                intro _ hw'
                obtain ⟨⟨dq, osq⟩, hw''⟩ := hw'
                subst hw''
                have hbq := below_regrown wr dq osq
                generalize grow (redrawn wr dq) osq = wq at hbq ⊢
                go_wp2_with fail
                go_roundw
                case rel => exact ⟨k + 1, by omega, by go_num, Hhs2.out, bstep Hhw.out hbq, HhB1.out.below hbq, HhB2.out.below hbq⟩
                case measure => simp [intOf]; omega
              | false =>
                rw [hq] at IH
                have HV := Lib.hid (hf hq)
                have Hh3 := Lib.hid h3
                have HhB1 := Lib.hid hB1
                have HhB2 := Lib.hid hB2
                have Hhw := Lib.hid hw
                clear h3 hB1 hB2 hw
                clear ih hl hf hq hs2 hs0 hsl
                go_wp2_with fail
                refine wp_region_quiet_below (by kernel_rfl) (by kernel_rfl) ?_
                repeat (quiet_step (exact Calls.regrown_of (IH _ _ _ (hsw.out.below (below_regrown _ _ _)) (Hh3.out.below (below_regrown _ _ _)))))
                refine wpQuiet_nil ?_
                intro _ hw'
                obtain ⟨⟨dq, osq⟩, hw''⟩ := hw'
                subst hw''
                have hbq := below_regrown wr dq osq
                generalize grow (redrawn wr dq) osq = wq at hbq ⊢
                go_wp2_with fail
                go_ret
                exact ⟨rbool HV.out, bstep Hhw.out hbq⟩
            · have HV := Lib.hid (show r = true by
                have := hall.out
                rw [List.take_of_length_le (by omega)] at this
                rw [HE.out, this])
              go_wp2_with fail
              go_ret
              exact ⟨rbool HV.out, hw⟩
        · go_enter Try.func47, Try.ntmps47
          go_wp2_with fail
          go_loopw [8] (fun i wr => ∃ (k : Nat), k ≤ l.length ∧ i = .int .i64 k ∧ Hid ((l.take k).all (T.over sg false) = true) ∧ Below w.heap.size w wr ∧ Box wr w.heap.size [.slice (some ⟨b, o, none⟩) sg.length c'] ∧ Box wr (w.heap.size + 1) [.int .i64 n, .slice a l.length c]) (fun i _ => l.length - (intOf i).toNat)
          case atStart =>
            obtain ⟨B1, B2, hb⟩ := box2 (balloc ((w.alloc (.cells #[.slice (some ⟨b, o, none⟩) sg.length c'] 36)).alloc (.cells #[.int .i64 n, .slice a l.length c] 27)) _)
            exact ⟨0, Nat.zero_le _, rfl, rfl, hb, B1, B2⟩
          case round =>
            obtain ⟨k, hk, rfl, hall, hw, hB1, hB2⟩ := hrel
            obtain ⟨t0, t1⟩ := hB2.two
            have u0 := hB1 0 _ rfl
            clear q0 q1 q2 g0 g1 g2
            by_cases hlt : k < l.length
            · obtain ⟨b2, o2, a2, c2, rfl, g1, g2, h3⟩ := hl.at_ hw k hlt
              have IH := fun w vs v => ih l[k] (List.getElem_mem hlt) false w vs v
              have hs2 : (l.take (k + 1)).all (T.over sg false) = T.over sg false l[k] := by
                rw [List.take_succ_eq_append_getElem hlt, List.all_append, hall.out]; simp
              have hf : T.over sg false l[k] = false → r = false := fun h => by
                rw [HE.out]; exact List.all_eq_false.2 ⟨l[k], List.getElem_mem hlt, by rw [h]; simp⟩
              have r0 := cell_regrown u0
              have r1 := cell_regrown t0
              have r2 := cell_regrown t1
              have r3 := cell_regrown g1
              have r4 := cell_regrown g2
              have z0 : (0 : Int) ≤ (k : Int) := by omega
              have z1 : (k : Int) < (l.length : Int) := by omega
              have hsw := Lib.hid (hs0.below hw)
              cases hq : T.over sg false l[k] with
              | true =>
                rw [hq] at hs2 IH
                have Hh3 := Lib.hid h3
                have HhB1 := Lib.hid hB1
                have HhB2 := Lib.hid hB2
                have Hhw := Lib.hid hw
                have Hhs2 := Lib.hid hs2
                clear h3 hB1 hB2 hw hs2
                clear ih hl hf hq hs0 hsl
                go_wp2_with fail
                refine wp_region_quiet_below (by kernel_rfl) (by kernel_rfl) ?_
                repeat (quiet_step (exact Calls.regrown_of (IH _ _ _ (hsw.out.below (below_regrown _ _ _)) (Hh3.out.below (below_regrown _ _ _)))))
                refine wpQuiet_nil ?_
                intro _ hw'
                obtain ⟨⟨dq, osq⟩, hw''⟩ := hw'
                subst hw''
                have hbq := below_regrown wr dq osq
                generalize grow (redrawn wr dq) osq = wq at hbq ⊢
                go_wp2_with fail
                go_roundw
                case rel => exact ⟨k + 1, by omega, by go_num, Hhs2.out, bstep Hhw.out hbq, HhB1.out.below hbq, HhB2.out.below hbq⟩
                case measure => simp [intOf]; omega
              | false =>
                rw [hq] at IH
                have HV := Lib.hid (hf hq)
                have Hh3 := Lib.hid h3
                have HhB1 := Lib.hid hB1
                have HhB2 := Lib.hid hB2
                have Hhw := Lib.hid hw
                clear h3 hB1 hB2 hw
                clear ih hl hf hq hs2 hs0 hsl
                go_wp2_with fail
                refine wp_region_quiet_below (by kernel_rfl) (by kernel_rfl) ?_
                repeat (quiet_step (exact Calls.regrown_of (IH _ _ _ (hsw.out.below (below_regrown _ _ _)) (Hh3.out.below (below_regrown _ _ _)))))
                refine wpQuiet_nil ?_
                intro _ hw'
                obtain ⟨⟨dq, osq⟩, hw''⟩ := hw'
                subst hw''
                have hbq := below_regrown wr dq osq
                generalize grow (redrawn wr dq) osq = wq at hbq ⊢
                go_wp2_with fail
                go_ret
                exact ⟨rbool HV.out, bstep Hhw.out hbq⟩
            · have HV := Lib.hid (show r = true by
                have := hall.out
                rw [List.take_of_length_le (by omega)] at this
                rw [HE.out, this])
              go_wp2_with fail
              go_ret
              exact ⟨rbool HV.out, hw⟩
    · have HE := Lib.hid (show r = false by rw [E, if_pos (.inl h2)])
      have hb2 : (ar == (l.length : Int)) = false := by simpa using h2
      clear E
      go_enter Try.func47, Try.ntmps47
      go_wp2_with fail
      go_ret
      exact ⟨rbool HE.out, bstep (balloc2 _ _ _) (balloc _ _)⟩
  · have HE := Lib.hid (show r = false by rw [E, List.getElem?_eq_none (by omega)])
    clear E
    go_enter Try.func47, Try.ntmps47
    go_wp2_with fail
    go_ret
    exact ⟨rbool HE.out, balloc2 _ _ _⟩

end Go.Proofs.Ytjkpecjlpgcalaa
