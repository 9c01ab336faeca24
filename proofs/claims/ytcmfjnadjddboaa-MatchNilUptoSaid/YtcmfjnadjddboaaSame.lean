/- Terms compared and found the same: the document's way. -/
import Derived.Test.YtcmfjnadjddboaaTerm
import Derived.Test.YtcmfjnadjddboaaSamePlain
namespace Go.Proofs.Ytcmfjnadjddboaa
open Go.RowKit Go.Sort Go


set_option maxHeartbeats 400000 in
theorem compare_any (s : T) : ∀ (t : T) (w : World) (v u : Value), IsT w s v → IsT w t u →
    Calls Try.prog 51 #[v, u] w fun e w' => e = .returned (.int .i64 (T.cmp s t)) ∧ Below w.heap.size w w' := by
  induction s using T.ind with
  | h f l ih =>
  intro t w v u hv hu
  obtain ⟨g, q⟩ := t
  obtain ⟨⟨hf1, hf2⟩, a, c, rfl, hc, hm, hl⟩ := hv
  obtain ⟨⟨hg1, hg2⟩, a', c', rfl, hc', hm', hq⟩ := hu
  unfold maxLen at hm hm'
  by_cases hfg : f = g
  · have E := Lib.hid (show T.cmp (.mk f l) (.mk g q) = T.cmpL l q by rw [T.cmp, if_neg (by simpa using hfg)])
    have hne : (f != g) = false := by simpa using hfg
    subst hfg
    go_enter Try.func51, Try.ntmps51
    go_wp2_with fail
    go_loopw [5] (fun i wr => ∃ (k : Nat), k ≤ l.length ∧ k ≤ q.length ∧ i = .int .i64 k ∧ Hid (T.cmpL l q = T.cmpL (l.drop k) (q.drop k)) ∧ Below w.heap.size w wr ∧ Box wr w.heap.size [.int .i64 f, .slice a l.length c] ∧ Box wr (w.heap.size + 1) [.int .i64 f, .slice a' q.length c']) (fun i _ => l.length - (intOf i).toNat)
    case atStart => exact ⟨0, Nat.zero_le _, Nat.zero_le _, rfl, rfl, balloc2 _ _ _, (Box.new _ _ _).alloc _, by have := Box.new (w.alloc (.cells #[.int .i64 f, .slice a l.length c] 24)) [.int .i64 f, .slice a' q.length c'] 24; simpa using this⟩
    case round =>
      obtain ⟨k, hk, hkq, rfl, hx, hw, hB1, hB2⟩ := hrel
      obtain ⟨s0, s1⟩ := hB1.two
      obtain ⟨t0, t1⟩ := hB2.two
      by_cases hlt : k < l.length
      · by_cases hlq : k < q.length
        · obtain ⟨b1, o1, a1, c1, rfl, g1, g2, h3⟩ := hl.at_ hw k hlt
          obtain ⟨b2, o2, a2, c2, rfl, g3, g4, h4⟩ := hq.at_ hw k hlq
          have IH := fun w v u => ih l[k] (List.getElem_mem hlt) q[k] w v u
          have q5 := T.cmpL_drop l q k hlt hlq
          have k0 : (0 : Int) ≤ (k : Int) := by omega
          have k1 : (k : Int) < (l.length : Int) := by omega
          have k2 : (k : Int) < (q.length : Int) := by omega
          have r0 := cell_regrown s1
          have r1 := cell_regrown t1
          have r2 := cell_regrown g1
          have r3 := cell_regrown g2
          have r4 := cell_regrown g3
          have r5 := cell_regrown g4
          have Hh3 := Lib.hid h3
          have Hh4 := Lib.hid h4
          have HhB1 := Lib.hid hB1
          have HhB2 := Lib.hid hB2
          have Hhw := Lib.hid hw
          have Hq5 := Lib.hid q5
          have Hhx := Lib.hid hx
          clear h3 h4 hB1 hB2 hw q5 hx
          clear ih hl hq
          by_cases hz : T.cmp l[k] q[k] = 0
          · rw [hz] at IH
            have Hz := Lib.hid hz
            clear hz
            go_wp2_with fail
            refine wp_region_quiet_below (by kernel_rfl) (by kernel_rfl) ?_
            repeat (quiet_step (exact Calls.regrown_of (IH _ _ _ (Hh3.out.below (below_regrown _ _ _)) (Hh4.out.below (below_regrown _ _ _)))))
            refine wpQuiet_nil ?_
            intro _ hw'
            obtain ⟨⟨dq, osq⟩, hw''⟩ := hw'
            subst hw''
            have hbq := below_regrown wr dq osq
            generalize grow (redrawn wr dq) osq = wq at hbq ⊢
            go_wp2_with fail
            go_roundw
            case rel => exact ⟨k + 1, by omega, by omega, by go_num, by unfold Hid; rw [Hhx.out, Hq5.out, if_pos Hz.out], bstep Hhw.out hbq, HhB1.out.below hbq, HhB2.out.below hbq⟩
            case measure => simp [intOf]; omega
          · have hzb : (T.cmp l[k] q[k] != 0) = true := by simpa using hz
            have Hz := Lib.hid hz
            clear hz
            go_wp2_with fail
            refine wp_region_quiet_below (by kernel_rfl) (by kernel_rfl) ?_
            repeat (quiet_step (exact Calls.regrown_of (IH _ _ _ (Hh3.out.below (below_regrown _ _ _)) (Hh4.out.below (below_regrown _ _ _)))))
            refine wpQuiet_nil ?_
            intro _ hw'
            obtain ⟨⟨dq, osq⟩, hw''⟩ := hw'
            subst hw''
            have hbq := below_regrown wr dq osq
            generalize grow (redrawn wr dq) osq = wq at hbq ⊢
            go_wp2_with fail
            go_ret
            exact ⟨rint (by rw [E.out, Hhx.out, Hq5.out, if_neg Hz.out]), bstep Hhw.out hbq⟩
        · have Q := Lib.hid (show T.cmpL (l.drop k) (q.drop k) = 1 from T.cmpL_long l q k hlt (by omega))
          have Hhw := Lib.hid hw
          have Hhx := Lib.hid hx
          clear hw hx
          clear ih hl hq
          go_wp2_with fail
          go_ret
          exact ⟨rint (by rw [E.out, Hhx.out, Q.out]), Hhw.out⟩
      · obtain rfl : k = l.length := by omega
        by_cases hlq : l.length < q.length
        · have Q := Lib.hid (show T.cmpL (l.drop l.length) (q.drop l.length) = -1 from T.cmpL_short l q hlq)
          have Hhw := Lib.hid hw
          have Hhx := Lib.hid hx
          clear hw hx
          clear ih hl hq
          go_wp2_with fail
          go_ret
          exact ⟨rint (by rw [E.out, Hhx.out, Q.out]), Hhw.out⟩
        · have Q := Lib.hid (show T.cmpL (l.drop l.length) (q.drop l.length) = 0 from T.cmpL_end l q (by omega))
          have Hhw := Lib.hid hw
          have Hhx := Lib.hid hx
          clear hw hx
          clear ih hl hq
          go_wp2_with fail
          go_ret
          exact ⟨rint (by rw [E.out, Hhx.out, Q.out]), Hhw.out⟩
  · have hne : (f != g) = true := by simpa using hfg
    by_cases hf : f < 0
    · by_cases hg : g < 0
      · by_cases hlt : g < f
        · have E := Lib.hid (show T.cmp (.mk f l) (.mk g q) = -1 by rw [T.cmp, if_pos hfg, if_pos ⟨hf, hg⟩, if_pos hlt])
          go_enter Try.func51, Try.ntmps51
          go_wp2_with fail
          go_ret
          exact ⟨rint E.out, balloc2 _ _ _⟩
        · have E := Lib.hid (show T.cmp (.mk f l) (.mk g q) = 1 by rw [T.cmp, if_pos hfg, if_pos ⟨hf, hg⟩, if_neg hlt])
          go_enter Try.func51, Try.ntmps51
          go_wp2_with fail
          go_ret
          exact ⟨rint E.out, balloc2 _ _ _⟩
      · have hlt : f < g := by omega
        have E := Lib.hid (show T.cmp (.mk f l) (.mk g q) = -1 by rw [T.cmp, if_pos hfg, if_neg (by omega), if_pos hlt])
        go_enter Try.func51, Try.ntmps51
        go_wp2_with fail
        go_ret
        exact ⟨rint E.out, balloc2 _ _ _⟩
    · by_cases hlt : f < g
      · have E := Lib.hid (show T.cmp (.mk f l) (.mk g q) = -1 by rw [T.cmp, if_pos hfg, if_neg (by omega), if_pos hlt])
        go_enter Try.func51, Try.ntmps51
        go_wp2_with fail
        go_ret
        exact ⟨rint E.out, balloc2 _ _ _⟩
      · have E := Lib.hid (show T.cmp (.mk f l) (.mk g q) = 1 by rw [T.cmp, if_pos hfg, if_neg (by omega), if_neg hlt])
        go_enter Try.func51, Try.ntmps51
        go_wp2_with fail
        go_ret
        exact ⟨rint E.out, balloc2 _ _ _⟩

theorem rsame_any (s t : T) (w : World) (v u : Value) (hv : IsT w s v) (hu : IsT w t u) :
    Calls Try.prog 28 #[v, u] w fun e w' => e = .returned (.bool (T.same s t)) ∧ Below w.heap.size w w' := by
  obtain ⟨_, a, c, rfl, hc, hm, _⟩ := hv.form
  obtain ⟨_, a', c', rfl, hc', hm', _⟩ := hu.form
  unfold maxLen at hm hm'
  have E := T.cmp_same s t
  have C := fun w v u => compare_any s t w v u
  cases hs : T.same s t with
  | true =>
    rw [hs, if_pos rfl] at E
    rw [E] at C
    have Hhv := Lib.hid hv
    have Hhu := Lib.hid hu
    clear hv hu
    clear hs E
    go_enter Try.func28, Try.ntmps28
    go_wp2_with (go_at_call 51; refine (C _ _ _ (Hhv.out.below (balloc2 _ _ _)) (Hhu.out.below (balloc2 _ _ _))).mono ?_; rintro e w' ⟨rfl, hb'⟩)
    go_ret
    exact ⟨rfl, bstep (balloc2 _ _ _) hb'⟩
  | false =>
    rw [hs] at E
    have E' : (T.cmp s t == 0) = false := by simpa using E
    have Hhv := Lib.hid hv
    have Hhu := Lib.hid hu
    clear hv hu
    clear hs E
    go_enter Try.func28, Try.ntmps28
    go_wp2_with (go_at_call 51; refine (C _ _ _ (Hhv.out.below (balloc2 _ _ _)) (Hhu.out.below (balloc2 _ _ _))).mono ?_; rintro e w' ⟨rfl, hb'⟩)
    go_ret
    exact ⟨rfl, bstep (balloc2 _ _ _) hb'⟩

end Go.Proofs.Ytcmfjnadjddboaa
