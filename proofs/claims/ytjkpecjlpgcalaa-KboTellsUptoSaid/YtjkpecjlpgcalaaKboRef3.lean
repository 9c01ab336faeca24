/- The walks through the document's order of Knuth and Bendix: what is covered, what is around. -/
import Derived.Test.YtjkpecjlpgcalaaKboRef2
namespace Go.Proofs.Ytjkpecjlpgcalaa
open Go.RowKit Go.Sort Go

set_option maxRecDepth 100000 in
theorem covers_any (s t : T) (hs : s.size ≤ 4294967296) (ht : t.size ≤ 4294967296) (u : T) : ∀ (w : World) (v1 v2 v3 : Value), IsT w s v1 → IsT w t v2 → IsT w u v3 →
    Calls Try.prog 36 #[v1, v2, v3] w fun e w' => e = .returned (.bool (Od.covers s t u)) ∧ Below w.heap.size w w' := by
  induction u using T.ind with
  | h f l ih =>
  intro w v1 v2 v3 h1 h2 h3
  have h10 := h1
  have h20 := h2
  obtain ⟨_, a1, c1, rfl, _, _, _⟩ := h1.form
  obtain ⟨_, a2, c2, rfl, _, _, _⟩ := h2.form
  obtain ⟨hf, a, c, rfl, hc, hm, hl⟩ := h3
  unfold maxLen at hm
  have Hh10 := Lib.hid h10
  have Hh20 := Lib.hid h20
  clear h10 h20
  clear h1 h2
  by_cases h0 : f < 0
  · have E := Lib.hid (show Od.covers s t (.mk f l) = decide (t.often f ≤ s.often f) by rw [Od.covers, if_pos h0])
    have O1 := fun w v => often_any f s w v hs
    have O2 := fun w v => often_any f t w v ht
    clear ih hl
    go_enter Try.func36, Try.ntmps36
    go_wp2_with fail
    obtain ⟨B1, B2, B3, hw⟩ := box3 (Below.refl _ (((w.alloc (.cells #[.int .i64 s.f, .slice a1 s.args.length c1] 27)).alloc (.cells #[.int .i64 t.f, .slice a2 t.args.length c2] 27)).alloc (.cells #[.int .i64 f, .slice a l.length c] 27)))
    generalize ((w.alloc (.cells #[.int .i64 s.f, .slice a1 s.args.length c1] 27)).alloc (.cells #[.int .i64 t.f, .slice a2 t.args.length c2] 27)).alloc (.cells #[.int .i64 f, .slice a l.length c] 27) = W0 at B1 B2 B3 hw ⊢
    obtain ⟨s0, s1⟩ := B1.two
    obtain ⟨t0, t1⟩ := B2.two
    obtain ⟨u0, u1⟩ := B3.two
    have r0 := cell_regrown s0
    have r1 := cell_regrown s1
    have r2 := cell_regrown t0
    have r3 := cell_regrown t1
    have r4 := cell_regrown u0
    have Hhw := Lib.hid hw
    clear hw
    clear B1 B2 B3
    refine wp_region_quiet_below (by kernel_rfl) (by kernel_rfl) ?_
    repeat (quiet_step (first | exact Calls.regrown_of (O1 _ _ (Hh10.out.below (bstep Hhw.out (below_regrown _ _ _)))) | exact Calls.regrown_of (O2 _ _ (Hh20.out.below (bstep Hhw.out (below_regrown _ _ _))))))
    refine wpQuiet_nil ?_
    intro _ hw'
    obtain ⟨⟨dq, osq⟩, hw''⟩ := hw'
    subst hw''
    have hbq := below_regrown W0 dq osq
    generalize grow (redrawn W0 dq) osq = wq at hbq ⊢
    go_wp2_with fail
    go_ret
    exact ⟨rbool (by rw [E.out, decide_eq_decide]), bstep Hhw.out hbq⟩
  · have E := Lib.hid (show Od.covers s t (.mk f l) = l.all (Od.covers s t) by rw [Od.covers, if_neg h0, Od.coversL_all])
    go_enter Try.func36, Try.ntmps36
    go_wp2_with fail
    go_loopw [7] (fun i wr => ∃ (k : Nat), k ≤ l.length ∧ i = .int .i64 k ∧ (l.take k).all (Od.covers s t) = true ∧ Below w.heap.size w wr ∧ Box wr w.heap.size [.int .i64 s.f, .slice a1 s.args.length c1] ∧ Box wr (w.heap.size + 1) [.int .i64 t.f, .slice a2 t.args.length c2] ∧ Box wr (w.heap.size + 2) [.int .i64 f, .slice a l.length c]) (fun i _ => l.length - (intOf i).toNat)
    case atStart =>
      obtain ⟨B1, B2, B3, hw⟩ := box3 (Below.refl _ (((w.alloc (.cells #[.int .i64 s.f, .slice a1 s.args.length c1] 27)).alloc (.cells #[.int .i64 t.f, .slice a2 t.args.length c2] 27)).alloc (.cells #[.int .i64 f, .slice a l.length c] 27)))
      exact ⟨0, Nat.zero_le _, rfl, rfl, hw, B1, B2, B3⟩
    case round =>
      obtain ⟨k, hk, rfl, hall, hw, hB1, hB2, hB3⟩ := hrel
      obtain ⟨s0, s1⟩ := hB1.two
      obtain ⟨t0, t1⟩ := hB2.two
      obtain ⟨u0, u1⟩ := hB3.two
      by_cases hlt : k < l.length
      · obtain ⟨b, oo, a', c', rfl, g1, g2, h3⟩ := hl.at_ hw k hlt
        have IH := fun w v1 v2 v3 => ih l[k] (List.getElem_mem hlt) w v1 v2 v3
        have k0 : (0 : Int) ≤ (k : Int) := by omega
        have k1 : (k : Int) < (l.length : Int) := by omega
        have r0 := cell_regrown s0
        have r1 := cell_regrown s1
        have r2 := cell_regrown t0
        have r3 := cell_regrown t1
        have r4 := cell_regrown u1
        have r5 := cell_regrown g1
        have r6 := cell_regrown g2
        cases hkk : Od.covers s t l[k] with
        | true =>
          rw [hkk] at IH
          have Hh3 := Lib.hid h3
          have HhB1 := Lib.hid hB1
          have HhB2 := Lib.hid hB2
          have HhB3 := Lib.hid hB3
          have Hhw := Lib.hid hw
          have Hhall := Lib.hid hall
          have Hhkk := Lib.hid hkk
          clear h3 hB1 hB2 hB3 hw hall hkk
          clear ih hl
          go_wp2_with fail
          refine wp_region_quiet_below (by kernel_rfl) (by kernel_rfl) ?_
          repeat (quiet_step (exact Calls.regrown_of (IH _ _ _ _ (Hh10.out.below (bstep Hhw.out (below_regrown _ _ _))) (Hh20.out.below (bstep Hhw.out (below_regrown _ _ _))) (Hh3.out.below (below_regrown _ _ _)))))
          refine wpQuiet_nil ?_
          intro _ hw'
          obtain ⟨⟨dq, osq⟩, hw''⟩ := hw'
          subst hw''
          have hbq := below_regrown wr dq osq
          generalize grow (redrawn wr dq) osq = wq at hbq ⊢
          go_wp2_with fail
          go_roundw
          case rel => exact ⟨k + 1, by omega, by go_num, by rw [all_take_succ _ _ _ hlt, Hhall.out, Hhkk.out]; rfl, bstep Hhw.out hbq, HhB1.out.below hbq, HhB2.out.below hbq, HhB3.out.below hbq⟩
          case measure => simp [intOf]; omega
        | false =>
          rw [hkk] at IH
          have Hh3 := Lib.hid h3
          have HhB1 := Lib.hid hB1
          have HhB2 := Lib.hid hB2
          have HhB3 := Lib.hid hB3
          have Hhw := Lib.hid hw
          have Hhall := Lib.hid hall
          have Hhkk := Lib.hid hkk
          clear h3 hB1 hB2 hB3 hw hall hkk
          clear ih hl
          go_wp2_with fail
          refine wp_region_quiet_below (by kernel_rfl) (by kernel_rfl) ?_
          repeat (quiet_step (exact Calls.regrown_of (IH _ _ _ _ (Hh10.out.below (bstep Hhw.out (below_regrown _ _ _))) (Hh20.out.below (bstep Hhw.out (below_regrown _ _ _))) (Hh3.out.below (below_regrown _ _ _)))))
          refine wpQuiet_nil ?_
          intro _ hw'
          obtain ⟨⟨dq, osq⟩, hw''⟩ := hw'
          subst hw''
          have hbq := below_regrown wr dq osq
          generalize grow (redrawn wr dq) osq = wq at hbq ⊢
          go_wp2_with fail
          go_ret
          exact ⟨rbool (by rw [E.out, all_of_not _ _ _ hlt Hhkk.out]), bstep Hhw.out hbq⟩
      · go_wp2_with fail
        go_ret
        obtain rfl : k = l.length := by omega
        rw [List.take_length] at hall
        exact ⟨rbool (by rw [E.out, hall]), hw⟩

theorem raround_any (f v : Int) (t : T) : ∀ (w : World) (u : Value), IsT w t u →
    Calls Try.prog 37 #[u, .int .i64 f, .int .i64 v] w fun e w' => e = .returned (.bool (Od.around f v t)) ∧ Below w.heap.size w w' := by
  induction t using T.ind with
  | h g l ih =>
  intro w u hu
  obtain ⟨_, a, c, rfl, hc, hm, hl⟩ := hu
  unfold maxLen at hm
  by_cases hgf : g = f
  · match l, hl, ih, hc with
    | [x], hl, ih, hc =>
      have hne : (g != f) = false := by simpa using hgf
      have E := Lib.hid (show Od.around f v (.mk g [x]) = (x.f == v || Od.around f v x) by rw [Od.around]; simp [hgf])
      obtain ⟨b, oo, a', c', rfl, g1, g2, h3⟩ := hl.at_ (balloc w (.cells #[.int .i64 g, .slice a [x].length c] 27)) 0 (by simp)
      have IH := fun w u => ih x (by simp) w u
      simp only [List.getElem_cons_zero, Nat.zero_mul, Nat.add_zero, List.length_cons, List.length_nil, Nat.zero_add] at g1 g2 h3
      by_cases hx : x.f = v
      · have hxb : (x.f == v) = true := by simpa using hx
        have Hh3 := Lib.hid h3
        clear h3
        clear ih hl hx hgf
        go_enter Try.func37, Try.ntmps37
        go_wp2_with fail
        go_ret
        exact ⟨rbool (by rw [E.out, hxb, Bool.true_or]), balloc _ _⟩
      · have hxb : (x.f == v) = false := by simpa using hx
        have Hh3 := Lib.hid h3
        clear h3
        clear ih hl hx hgf
        go_enter Try.func37, Try.ntmps37
        go_wp2_with (go_at_call 37; refine (IH _ _ Hh3.out).mono ?_; rintro e w' ⟨rfl, hb'⟩)
        go_ret
        exact ⟨rbool (by rw [E.out, hxb, Bool.false_or]), bstep (balloc _ _) hb'⟩
    | [], hl, ih, hc =>
      have hne : (g != f) = false := by simpa using hgf
      have E := Lib.hid (show Od.around f v (.mk g []) = false by rw [Od.around]; simp)
      clear ih hl hgf
      go_enter Try.func37, Try.ntmps37
      go_wp2_with fail
      go_ret
      exact ⟨rbool E.out, balloc _ _⟩
    | x :: y :: r, hl, ih, hc =>
      have hne : (g != f) = false := by simpa using hgf
      have E := Lib.hid (show Od.around f v (.mk g (x :: y :: r)) = false by rw [Od.around]; simp)
      have hln : ((((x :: y :: r).length : Nat) : Int) != 1) = true := by simp; omega
      clear ih hl hgf
      generalize (x :: y :: r).length = n at *
      go_enter Try.func37, Try.ntmps37
      go_wp2_with fail
      go_ret
      exact ⟨rbool E.out, balloc _ _⟩
  · have hne : (g != f) = true := by simpa using hgf
    have E := Lib.hid (show Od.around f v (.mk g l) = false by
      cases l with
      | nil => rw [Od.around]; simp
      | cons x r => cases r with
        | nil => rw [Od.around]; simp [hgf]
        | cons y r => rw [Od.around]; simp)
    clear ih hl hgf
    go_enter Try.func37, Try.ntmps37
    go_wp2_with fail
    go_ret
    exact ⟨rbool E.out, balloc _ _⟩

end Go.Proofs.Ytjkpecjlpgcalaa
