/- The walks through the document's order of Knuth and Bendix. -/
import Derived.Test.YtjkpecjlpgcalaaKboWalk
import Derived.Test.YtjkpecjlpgcalaaSize
namespace Go.Proofs.Ytjkpecjlpgcalaa
open Go.RowKit Go.Sort Go

theorem T.often_le (x : Int) : (∀ t : T, t.often x ≤ t.size) ∧ ∀ l : List T, T.oftenL x l ≤ T.sizeL l := by
  have h : ∀ t : T, t.often x ≤ t.size := by
    intro t
    refine T.rec (motive_1 := fun t => t.often x ≤ t.size) (motive_2 := fun l => T.oftenL x l ≤ T.sizeL l) (fun f l ih => ?_) (by simp [T.oftenL]) (fun a r iha ihr => ?_) t
    · rw [T.often, T.size]; split <;> omega
    · rw [T.oftenL, T.sizeL]; omega
  refine ⟨h, fun l => ?_⟩
  induction l with
  | nil => simp [T.oftenL]
  | cons a r ih => rw [T.oftenL, T.sizeL]; have := h a; omega
theorem T.oftenL_take_succ (x : Int) (l : List T) (k : Nat) (h : k < l.length) : T.oftenL x (l.take (k + 1)) = T.oftenL x (l.take k) + T.often x l[k] := by
  induction l generalizing k with
  | nil => simp at h
  | cons t r ih =>
    cases k with
    | zero => simp [T.oftenL]
    | succ k => simp [T.oftenL, ih k (by simpa using h)]; omega


theorem often_any (x : Int) (t : T) : ∀ (w : World) (v : Value), t.size ≤ 4294967296 → IsT w t v →
    Calls Try.prog 49 #[v, .int .i64 x] w fun e w' => e = .returned (.int .i64 (t.often x : Nat)) ∧ Below w.heap.size w w' := by
  induction t using T.ind with
  | h f l ih =>
  intro w v hsz hv
  obtain ⟨_, a, c, rfl, hc, hm, hl⟩ := hv
  unfold maxLen at hm
  rw [T.size] at hsz
  by_cases hfx : f = x
  · have E := Lib.hid (show T.often x (.mk f l) = 1 + T.oftenL x l by rw [T.often, if_pos hfx])
    have hx : (f == x) = true := by simpa using hfx
    clear hfx
    go_enter Try.func49, Try.ntmps49
    go_wp2_with fail
    go_loopw [5, 6] (fun n i wr => ∃ (k : Nat), k ≤ l.length ∧ i = .int .i64 k ∧ n = .int .i64 (1 + T.oftenL x (l.take k) : Nat) ∧ Below w.heap.size w wr ∧ Box wr w.heap.size [.int .i64 f, .slice a l.length c]) (fun _ i _ => l.length - (intOf i).toNat)
    case atStart => exact ⟨0, Nat.zero_le _, rfl, vint (by simp [T.oftenL]), balloc _ _, Box.new _ _ _⟩
    case round =>
      obtain ⟨k, hk, rfl, rfl, hw, hB⟩ := hrel
      obtain ⟨b0, b1⟩ := hB.two
      by_cases hlt : k < l.length
      · obtain ⟨b, o, a', c', rfl, g1, g2, h3⟩ := hl.at_ hw k hlt
        have hmem := List.getElem_mem hlt
        have q1 := T.size_le_sizeL hmem
        have q2 := (T.often_le x).2 (l.take k)
        have q3 := T.sizeL_take_le l k
        have q4 := (T.often_le x).1 l[k]
        have IH := fun w v => ih l[k] hmem w v (by omega)
        have q5 := T.oftenL_take_succ x l k hlt
        have Hh3 := Lib.hid h3
        have HhB := Lib.hid hB
        have Hhw := Lib.hid hw
        have Hq5 := Lib.hid q5
        clear h3 hB hw q5
        clear ih hl
        go_wp2_with (go_at_call 49; refine (IH _ _ Hh3.out).mono ?_; rintro e w' ⟨rfl, hb'⟩)
        go_roundw
        case rel => exact ⟨k + 1, by omega, by go_num, vint (by rw [Hq5.out]; first | omega | (rw [wrap64_id (by constructor <;> omega)]; omega)), bstep Hhw.out hb', HhB.out.below hb'⟩
        case measure => simp [intOf]; omega
      · go_wp2_with fail
        go_ret
        obtain rfl : k = l.length := by omega
        exact ⟨rint (by rw [E.out, List.take_length]), hw⟩
  · have E := Lib.hid (show T.often x (.mk f l) = 0 + T.oftenL x l by rw [T.often, if_neg hfx])
    have hx : (f == x) = false := by simpa using hfx
    clear hfx
    go_enter Try.func49, Try.ntmps49
    go_wp2_with fail
    go_loopw [5, 6] (fun n i wr => ∃ (k : Nat), k ≤ l.length ∧ i = .int .i64 k ∧ n = .int .i64 (0 + T.oftenL x (l.take k) : Nat) ∧ Below w.heap.size w wr ∧ Box wr w.heap.size [.int .i64 f, .slice a l.length c]) (fun _ i _ => l.length - (intOf i).toNat)
    case atStart => exact ⟨0, Nat.zero_le _, rfl, vint (by simp [T.oftenL]), balloc _ _, Box.new _ _ _⟩
    case round =>
      obtain ⟨k, hk, rfl, rfl, hw, hB⟩ := hrel
      obtain ⟨b0, b1⟩ := hB.two
      by_cases hlt : k < l.length
      · obtain ⟨b, o, a', c', rfl, g1, g2, h3⟩ := hl.at_ hw k hlt
        have hmem := List.getElem_mem hlt
        have q1 := T.size_le_sizeL hmem
        have q2 := (T.often_le x).2 (l.take k)
        have q3 := T.sizeL_take_le l k
        have q4 := (T.often_le x).1 l[k]
        have IH := fun w v => ih l[k] hmem w v (by omega)
        have q5 := T.oftenL_take_succ x l k hlt
        have Hh3 := Lib.hid h3
        have HhB := Lib.hid hB
        have Hhw := Lib.hid hw
        have Hq5 := Lib.hid q5
        clear h3 hB hw q5
        clear ih hl
        go_wp2_with (go_at_call 49; refine (IH _ _ Hh3.out).mono ?_; rintro e w' ⟨rfl, hb'⟩)
        go_roundw
        case rel => exact ⟨k + 1, by omega, by go_num, vint (by rw [Hq5.out]; first | omega | (rw [wrap64_id (by constructor <;> omega)]; omega)), bstep Hhw.out hb', HhB.out.below hb'⟩
        case measure => simp [intOf]; omega
      · go_wp2_with fail
        go_ret
        obtain rfl : k = l.length := by omega
        exact ⟨rint (by rw [E.out, List.take_length]), hw⟩

theorem sum_any (a b : Int) (w : World) (h0 : 0 ≤ a) (h1 : a ≤ 2147483647) :
    Calls Try.prog 42 #[.int .i64 a, .int .i64 b] w fun e w' => e = .returned (.int .i64 (min (a + Od.clamp b) Od.most)) ∧ Below w.heap.size w w' := by
  have E := Lib.hid (show Od.clamp b = max 0 (min b 2147483647) from rfl)
  have M := Lib.hid (show Od.most = 2147483647 from rfl)
  rcases Int.lt_or_le b 0 with hb | hb
  · have hb1 : b ≤ 2147483647 := by omega
    go_enter Try.func42, Try.ntmps42
    go_wp2_with fail
    all_goals
      go_ret
      exact ⟨rint (by rw [E.out, M.out]; omega), Below.refl _ _⟩
  · rcases Int.lt_or_le 2147483647 b with hb1 | hb1
    · go_enter Try.func42, Try.ntmps42
      go_wp2_with fail
      all_goals
        go_ret
        exact ⟨rint (by rw [E.out, M.out]; omega), Below.refl _ _⟩
    · rcases Int.lt_or_le 2147483647 (a + b) with hb2 | hb2
      · go_enter Try.func42, Try.ntmps42
        go_wp2_with fail
        all_goals
          go_ret
          exact ⟨rint (by rw [E.out, M.out]; omega), Below.refl _ _⟩
      · go_enter Try.func42, Try.ntmps42
        go_wp2_with fail
        all_goals
          go_ret
          exact ⟨rint (by rw [E.out, M.out]; omega), Below.refl _ _⟩

theorem Od.rawL_take_succ (o : Od) (l : List T) (k : Nat) (h : k < l.length) : o.rawL (l.take (k + 1)) = o.rawL (l.take k) + o.raw l[k] := by
  induction l generalizing k with
  | nil => simp at h
  | cons t r ih =>
    cases k with
    | zero => simp [Od.rawL]
    | succ k => simp [Od.rawL, ih k (by simpa using h)]; omega

theorem rweight_any (o : Od) (t : T) : ∀ (w : World) (vo v : Value), o.knows t = true → IsOd w o vo → IsT w t v →
    Calls Try.prog 30 #[vo, v] w fun e w' => e = .returned (.int .i64 (o.weight t)) ∧ Below w.heap.size w w' := by
  induction t using T.ind with
  | h f l ih =>
  intro w vo v hk ho hv
  have ho0 := ho
  obtain ⟨a1, a2, c1, c2, rfl, n1, n2, n3, n4, p1, p2, _⟩ := ho
  obtain ⟨hf, a, c, rfl, hc, hm, hl⟩ := hv
  unfold maxLen at hm n2 n4
  obtain ⟨hf1, hf2⟩ := hf
  have HO := Lib.hid ho0
  clear ho0
  rw [Od.knows] at hk
  by_cases h0 : f < 0
  · rw [if_pos h0] at hk
    obtain rfl : l = [] := by simpa using hk
    have E := Lib.hid (show o.weight (.mk f []) = min (Od.clamp o.var) Od.most by rw [Od.weight, Od.raw, Od.rawL, Od.wsym, if_pos h0]; congr 1; omega)
    clear hk hl
    go_enter Try.func30, Try.ntmps30
    go_wp2_with (go_at_call 42; refine (sum_any _ _ _ (by omega) (by omega)).mono ?_; rintro e w' ⟨rfl, hb'⟩)
    go_ret
    exact ⟨rint E.out, bstep (balloc2 _ _ _) hb'⟩
  · rw [if_neg h0, Bool.and_eq_true, decide_eq_true_eq, Od.knowsL_all, List.all_eq_true] at hk
    obtain ⟨⟨h1, h2⟩, hall⟩ := hk
    obtain ⟨b3, o3, rfl, g3, _⟩ := p2.at_ (balloc2 _ (.cells #[.bool o.lpo, .slice a1 o.prec.length c1, .slice a2 o.weights.length c2, .int .i64 o.var] 24) (.cells #[.int .i64 f, .slice a l.length c] 27)) f.toNat (by omega)
    have E := Lib.hid (show o.raw (.mk f l) = Od.clamp (o.weights[f.toNat]'(by omega)) + o.rawL l by rw [Od.raw, Od.wsym, if_neg h0]; simp [List.getD, show f.toNat < o.weights.length by omega])
    have hn0 := o.rawL_nonneg
    have hn1 := o.raw_nonneg
    have hcl : 0 ≤ Od.clamp (o.weights[f.toNat]'(by omega)) ∧ Od.clamp (o.weights[f.toNat]'(by omega)) ≤ 2147483647 := by unfold Od.clamp Od.most; omega
    have Hhall := Lib.hid hall
    have Hhn0 := Lib.hid hn0
    have Hhn1 := Lib.hid hn1
    have Hhcl := Lib.hid hcl
    clear hall hn0 hn1 hcl
    clear p1 p2
    go_enter Try.func30, Try.ntmps30
    go_wp2_with (go_at_call 42; refine (sum_any _ _ _ (by omega) (by omega)).mono ?_; rintro e w' ⟨rfl, hb'⟩)
    have hb0 := bstep (balloc2 _ _ _) hb'
    have hB1 := ((Box.new w [.bool o.lpo, .slice a1 o.prec.length c1, .slice (some ⟨b3, o3, none⟩) o.weights.length c2, .int .i64 o.var] 24).alloc (.cells #[.int .i64 f, .slice a l.length c] 27)).below hb'
    have hB2 := (Box.new (w.alloc (.cells #[.bool o.lpo, .slice a1 o.prec.length c1, .slice (some ⟨b3, o3, none⟩) o.weights.length c2, .int .i64 o.var] 24)) [.int .i64 f, .slice a l.length c] 27).below hb'
    clear hb'
    rw [World.size_alloc] at hB2
    go_loopw [5, 6] (fun n i wr => ∃ (k : Nat) (x : Int), k ≤ l.length ∧ i = .int .i64 k ∧ n = .int .i64 x ∧ 0 ≤ x ∧ x ≤ 2147483647 ∧ Hid (x = min (Od.clamp (o.weights[f.toNat]'(by omega)) + o.rawL (l.take k)) Od.most) ∧ Below w.heap.size w wr ∧
      Box wr w.heap.size [.bool o.lpo, .slice a1 o.prec.length c1, .slice (some ⟨b3, o3, none⟩) o.weights.length c2, .int .i64 o.var] ∧ Box wr (w.heap.size + 1) [.int .i64 f, .slice a l.length c]) (fun _ i _ => l.length - (intOf i).toNat)
    case atStart => exact ⟨0, _, Nat.zero_le _, rfl, rfl, by have := Hhcl.out; unfold Od.most; omega, by unfold Od.most; omega, by unfold Hid; simp [Od.rawL], hb0, hB1, hB2⟩
    case round =>
      obtain ⟨k, x, hk, rfl, rfl, hx0, hx1, hx, hw, hB1, hB2⟩ := hrel
      obtain ⟨u0, u1, u2, u3⟩ := hB1.four
      obtain ⟨t0, t1⟩ := hB2.two
      by_cases hlt : k < l.length
      · obtain ⟨b, oo, a', c', rfl, g1, g2, h3⟩ := hl.at_ hw k hlt
        have hmem := List.getElem_mem hlt
        have IH := fun w vo v => ih l[k] hmem w vo v (Hhall.out _ hmem)
        have q5 := o.rawL_take_succ l k hlt
        have k0 : (0 : Int) ≤ (k : Int) := by omega
        have k1 : (k : Int) < (l.length : Int) := by omega
        have r0 := cell_regrown u0
        have r1 := cell_regrown u1
        have r2 := cell_regrown u2
        have r3 := cell_regrown u3
        have r4 := cell_regrown t1
        have r5 := cell_regrown g1
        have r6 := cell_regrown g2
        have Hh3 := Lib.hid h3
        have HhB1 := Lib.hid hB1
        have HhB2 := Lib.hid hB2
        have Hhw := Lib.hid hw
        have Hq5 := Lib.hid q5
        have Hhx := Lib.hid hx
        clear h3 hB1 hB2 hw q5 hx
        clear ih hl
        go_wp2_with fail
        refine wp_region_quiet_below (by kernel_rfl) (by kernel_rfl) ?_
        repeat (quiet_step (first | exact Calls.regrown_of (IH _ _ _ (HO.out.below (bstep Hhw.out (below_regrown _ _ _))) (Hh3.out.below (below_regrown _ _ _))) | exact Calls.regrown_of (sum_any _ _ _ (by omega) (by omega))))
        refine wpQuiet_nil ?_
        intro _ hw'
        obtain ⟨⟨dq, osq⟩, hw''⟩ := hw'
        subst hw''
        have hbq := below_regrown wr dq osq
        generalize grow (redrawn wr dq) osq = wq at hbq ⊢
        go_wp2_with fail
        go_roundw
        case rel =>
          refine ⟨k + 1, _, by omega, by go_num, rfl, ?_, ?_, ?_, bstep Hhw.out hbq, HhB1.out.below hbq, HhB2.out.below hbq⟩
          · unfold Od.clamp Od.most; omega
          · unfold Od.clamp Od.most; omega
          · have z1 := Hhcl.out
            have z2 := Hhn0.out (l.take k)
            have z3 := Hhn1.out l[k]
            unfold Hid
            rw [Hq5.out, Hhx.out, Od.weight]
            generalize Od.clamp (o.weights[f.toNat]'(by omega)) = C at *
            unfold Od.clamp Od.most
            omega
        case measure => simp [intOf]; omega
      · go_wp2_with fail
        go_ret
        obtain rfl : k = l.length := by omega
        exact ⟨rint (by rw [hx.out, List.take_length, Od.weight, E.out]), hw⟩

end Go.Proofs.Ytjkpecjlpgcalaa
