/- How two terms stand: the law's own walk. -/
import Derived.Test.YtjkpecjlpgcalaaWakes
import Derived.Test.YtjkpecjlpgcalaaKboRef5
namespace Go.Proofs.Ytjkpecjlpgcalaa
open Go.RowKit Go.Sort Go


theorem great2 {s t : T} {w : World} {b : Nat} {u v x y : Value} (hbw : w.heap.size = b) (hu : IsT w s (.agg #[u, v])) (hx : IsT w t (.agg #[x, y])) :
    Calls Try.prog 8 #[.slice (some ⟨b, 0, none⟩) 2 2] (w.alloc (.cells #[u, v, x, y] 27)) fun e w' => (∃ b, e = .returned (.bool b)) ∧ Below w.heap.size w w' := by
  subst hbw
  obtain ⟨hb, a, c, e, h1, h2, h3⟩ := terms2 hu hx
  simp only [List.length_cons, List.length_nil, Value.slice.injEq, true_and] at e
  obtain ⟨rfl, rfl⟩ := e
  refine (great_any [s, t] _ _ _ h1 h2 h3).mono ?_
  rintro e w' ⟨he, hb'⟩
  exact ⟨he, bstep hb hb'⟩

def tellSpecs (o : Od) (s t : T) (r q : Int) : List Spec := [.order o, .term s, .term t, .val (.int .i64 r), .val (.int .i64 r), .val (.bool true), .val (.bool true), .order o, .term s, .term t, .val (.bool (r == 3)), .val (.int .i64 r), .val (.bool (r == 3)), .val (.bool true), .val (.bool true), .val (.bool true), .order o, .term s, .val (.int .i64 q), .order o, .term s, .val (.int .i64 q), .val (.bool true), .val (.bool true), .val (.bool true), .val (.bool true), .val (.bool true), .val (.bool true)]

set_option maxRecDepth 100000 in
set_option maxHeartbeats 4000000 in
theorem tells_any (o : Od) (s t : T) (w : World) (vo v u : Value) (zs : s.size ≤ 4294967296) (zt : t.size ≤ 4294967296) (ho : IsOd w o vo) (hv : IsT w s v) (hu : IsT w t u) :
    Calls Try.prog 3 #[vo, v, u] w fun e w' => e = .returned (.bool true) ∧ Below w.heap.size w w' := by
  have G := fun (w : World) (b : Nat) (u v x y : Value) (e : w.heap.size = b) (h : IsT w s (.agg #[u, v])) (k : IsT w t (.agg #[x, y])) => great2 e h k
  have WK := fun w => wakes_any w
  have RC := fun w vo v u => rCmp_any o s t w vo v u zs zt
  have KC := fun w vo v u => kCmp_any o s t w vo v u zs zt
  have KA := fun w vo v u => kAbove_any o s t w vo v u zs zt
  have KW := fun w vo v => kWeight_any o s w vo v
  have RW := fun w vo v => rWeight_any o s w vo v
  generalize o.Cmp s t = r at *
  generalize (if o.knows s = true then o.weight s else 0) = q at *
  have ho0 := ho
  have hv0 := hv
  have hu0 := hu
  obtain ⟨a3, a4, c3, c4, rfl, n1, n2, n3, n4, _, _, _⟩ := ho
  obtain ⟨_, a1, c1, rfl, _, _, _⟩ := hv.form
  obtain ⟨_, a2, c2, rfl, _, _, _⟩ := hu.form
  clear hv hu
  have Hho0 := Lib.hid ho0
  have Hhv0 := Lib.hid hv0
  have Hhu0 := Lib.hid hu0
  clear ho0 hv0 hu0
  go_enter Try.func3, Try.ntmps3
  go_wp2_with fail
  refine (G _ _ _ _ _ _ (by simp) (Hhv0.out.below (bstep (balloc2 _ _ _) (balloc _ _))) (Hhu0.out.below (bstep (balloc2 _ _ _) (balloc _ _)))).mono ?_
  rintro e w1 ⟨⟨b, rfl⟩, hb1⟩
  obtain ⟨B1, B2, B3, hw1⟩ := box3 hb1
  clear hb1 G
  obtain ⟨u0, u1, u2, u3⟩ := B1.four
  obtain ⟨s0, s1⟩ := B2.two
  obtain ⟨t0, t1⟩ := B3.two
  have Hhw1 := Lib.hid hw1
  have HB1 := Lib.hid B1
  have HB2 := Lib.hid B2
  have HB3 := Lib.hid B3
  clear hw1 B1 B2 B3
  cases b with
  | true =>
    go_wp2_with fail
    refine (WK _).mono ?_
    rintro e w2 ⟨rfl, hb2⟩
    go_wp2_with fail
    go_ret
    exact ⟨rfl, bstep Hhw1.out hb2⟩
  | false =>
    go_wp2_with fail
    refine (RC _ _ _ _ (Hho0.out.below Hhw1.out) (Hhv0.out.below Hhw1.out) (Hhu0.out.below Hhw1.out)).mono ?_
    rintro e w2 ⟨rfl, hb2⟩
    clear u0 u1 u2 u3 s0 s1 t0 t1
    have hw2 := bstep Hhw1.out hb2
    have C1 := HB1.out.below hb2
    have C2 := HB2.out.below hb2
    have C3 := HB3.out.below hb2
    clear hb2 Hhw1 HB1 HB2 HB3 RC
    obtain ⟨u0, u1, u2, u3⟩ := C1.four
    obtain ⟨s0, s1⟩ := C2.two
    obtain ⟨t0, t1⟩ := C3.two
    have ho2 := Hho0.out.below hw2
    have hv2 := Hhv0.out.below hw2
    have hu2 := Hhu0.out.below hw2
    have Hhw2 := Lib.hid hw2
    have Hho2 := Lib.hid ho2
    have Hhv2 := Lib.hid hv2
    have Hhu2 := Lib.hid hu2
    have HC1 := Lib.hid C1
    have HC2 := Lib.hid C2
    have HC3 := Lib.hid C3
    clear hw2 ho2 hv2 hu2 C1 C2 C3
    clear Hho0 Hhv0 Hhu0
    go_wp2_with fail
    have KC := fun w vo v u a b c => spec_of (KC w vo v u a b c)
    have KA := fun w vo v u a b c => spec_of (KA w vo v u a b c)
    have KW := fun w vo v a b => spec_of (KW w vo v a b)
    have RW := fun w vo v a b => spec_of (RW w vo v a b)
    have WK := fun w => spec_of (WK w)
    have C1 := HC1.out
    have C2 := HC2.out
    have C3 := HC3.out
    have FO := Hho2.out
    have FS := Hhv2.out
    have FT := Hhu2.out
    refine wp_region_rel_at (specR (tellSpecs o s t r q)) (by kernel_rfl) (by kernel_rfl) (fun i v w w' h hb => Spec.keep _ h hb) ?_ ?_
    · refine ⟨⟨fun g b h => (by cases h), fun f w hw hn hd => ?_⟩, ?_⟩
      · exact wp_load4 rfl ((rel_eval (by kernel_rfl)).trans (hn 3 (by kernel_rfl))) (C1.below hw) ⟨_, rfl, Below.refl _ _, FO.below hw⟩
      refine ⟨⟨fun g b h => (by cases h), fun f w hw hn hd => ?_⟩, ?_⟩
      · exact wp_load2 rfl ((rel_eval (by kernel_rfl)).trans (hn 4 (by kernel_rfl))) (C2.below hw) ⟨_, rfl, Below.refl _ _, FS.below hw⟩
      refine ⟨⟨fun g b h => (by cases h), fun f w hw hn hd => ?_⟩, ?_⟩
      · exact wp_load2 rfl ((rel_eval (by kernel_rfl)).trans (hn 5 (by kernel_rfl))) (C3.below hw) ⟨_, rfl, Below.refl _ _, FT.below hw⟩
      refine ⟨⟨fun g b h => (by cases h), fun f w hw hn hd => ?_⟩, ?_⟩
      · exact wp_call (by kernel_rfl) rfl (hv3 (rel_eval (by kernel_rfl)) (rel_eval (by kernel_rfl)) (rel_eval (by kernel_rfl))) (KC _ _ _ _ (show Spec.holds (.order o) (f 17) w from hd 0 17 (by kernel_rfl)) (show Spec.holds (.term s) (f 18) w from hd 1 18 (by kernel_rfl)) (show Spec.holds (.term t) (f 19) w from hd 2 19 (by kernel_rfl))) (fun v w' h => ⟨v, rfl, h.1, h.2⟩)
      refine ⟨⟨fun g b h => (by cases h), fun f w hw hn hd => ?_⟩, ?_⟩
      · exact wp_move rfl ((rel_eval (by kernel_rfl)).trans (hn 7 (by kernel_rfl))) ⟨_, rfl, Below.refl _ _, rfl⟩
      refine ⟨⟨fun g b h => (by cases h), fun f w hw hn hd => ?_⟩, ?_⟩
      · exact wp_eqi rfl ((rel_eval (by kernel_rfl)).trans (hd 3 20 (by kernel_rfl))) ((rel_eval (by kernel_rfl)).trans (hd 4 21 (by kernel_rfl))) (by simp) ⟨_, rfl, Below.refl _ _, rfl⟩
      refine ⟨⟨fun g b h => (by cases h), fun f w hw hn hd => ?_⟩, ?_⟩
      · exact wp_move rfl ((rel_eval (by kernel_rfl)).trans (hd 5 22 (by kernel_rfl))) ⟨_, rfl, Below.refl _ _, rfl⟩
      refine ⟨⟨fun g b h v w hv => (by cases h; exact hv), fun f w hw hn hd => ?_⟩, ?_⟩
      · exact wp_load4 rfl ((rel_eval (by kernel_rfl)).trans (hn 3 (by kernel_rfl))) (C1.below hw) ⟨_, rfl, Below.refl _ _, FO.below hw⟩
      refine ⟨⟨fun g b h v w hv => (by cases h; exact hv), fun f w hw hn hd => ?_⟩, ?_⟩
      · exact wp_load2 rfl ((rel_eval (by kernel_rfl)).trans (hn 4 (by kernel_rfl))) (C2.below hw) ⟨_, rfl, Below.refl _ _, FS.below hw⟩
      refine ⟨⟨fun g b h v w hv => (by cases h; exact hv), fun f w hw hn hd => ?_⟩, ?_⟩
      · exact wp_load2 rfl ((rel_eval (by kernel_rfl)).trans (hn 5 (by kernel_rfl))) (C3.below hw) ⟨_, rfl, Below.refl _ _, FT.below hw⟩
      refine ⟨⟨fun g b h v w hv => (by cases h; exact hv), fun f w hw hn hd => ?_⟩, ?_⟩
      · exact wp_call (by kernel_rfl) rfl (hv3 (rel_eval (by kernel_rfl)) (rel_eval (by kernel_rfl)) (rel_eval (by kernel_rfl))) (KA _ _ _ _ (show Spec.holds (.order o) (f 24) w from hd 7 24 (by kernel_rfl)) (show Spec.holds (.term s) (f 25) w from hd 8 25 (by kernel_rfl)) (show Spec.holds (.term t) (f 26) w from hd 9 26 (by kernel_rfl))) (fun v w' h => ⟨v, rfl, h.1, h.2⟩)
      refine ⟨⟨fun g b h v w hv => (by cases h; exact hv), fun f w hw hn hd => ?_⟩, ?_⟩
      · exact wp_move rfl ((rel_eval (by kernel_rfl)).trans (hn 7 (by kernel_rfl))) ⟨_, rfl, Below.refl _ _, rfl⟩
      refine ⟨⟨fun g b h v w hv => (by cases h; exact hv), fun f w hw hn hd => ?_⟩, ?_⟩
      · exact wp_eqi rfl ((rel_eval (by kernel_rfl)).trans (hd 11 28 (by kernel_rfl))) rfl rfl ⟨_, rfl, Below.refl _ _, rfl⟩
      refine ⟨⟨fun g b h v w hv => (by cases h; exact hv), fun f w hw hn hd => ?_⟩, ?_⟩
      · exact wp_eqb rfl ((rel_eval (by kernel_rfl)).trans (hd 10 27 (by kernel_rfl))) ((rel_eval (by kernel_rfl)).trans (hd 12 29 (by kernel_rfl))) (by simp) ⟨_, rfl, Below.refl _ _, rfl⟩
      refine ⟨⟨fun g b h => (by cases h), fun f w hw hn hd => ?_⟩, ?_⟩
      · exact wp_pick rfl ((rel_eval (by kernel_rfl)).trans (hd 6 23 (by kernel_rfl))) ((rel_eval (by kernel_rfl)).trans (hd 13 30 (by kernel_rfl))) ⟨_, rfl, Below.refl _ _, rfl⟩
      refine ⟨⟨fun g b h => (by cases h), fun f w hw hn hd => ?_⟩, ?_⟩
      · exact wp_move rfl ((rel_eval (by kernel_rfl)).trans (hd 14 31 (by kernel_rfl))) ⟨_, rfl, Below.refl _ _, rfl⟩
      refine ⟨⟨fun g b h v w hv => (by cases h; exact hv), fun f w hw hn hd => ?_⟩, ?_⟩
      · exact wp_load4 rfl ((rel_eval (by kernel_rfl)).trans (hn 3 (by kernel_rfl))) (C1.below hw) ⟨_, rfl, Below.refl _ _, FO.below hw⟩
      refine ⟨⟨fun g b h v w hv => (by cases h; exact hv), fun f w hw hn hd => ?_⟩, ?_⟩
      · exact wp_load2 rfl ((rel_eval (by kernel_rfl)).trans (hn 4 (by kernel_rfl))) (C2.below hw) ⟨_, rfl, Below.refl _ _, FS.below hw⟩
      refine ⟨⟨fun g b h v w hv => (by cases h; exact hv), fun f w hw hn hd => ?_⟩, ?_⟩
      · exact wp_call (by kernel_rfl) rfl (hv2 (rel_eval (by kernel_rfl)) (rel_eval (by kernel_rfl))) (KW _ _ _ (show Spec.holds (.order o) (f 33) w from hd 16 33 (by kernel_rfl)) (show Spec.holds (.term s) (f 34) w from hd 17 34 (by kernel_rfl))) (fun v w' h => ⟨v, rfl, h.1, h.2⟩)
      refine ⟨⟨fun g b h v w hv => (by cases h; exact hv), fun f w hw hn hd => ?_⟩, ?_⟩
      · exact wp_load4 rfl ((rel_eval (by kernel_rfl)).trans (hn 3 (by kernel_rfl))) (C1.below hw) ⟨_, rfl, Below.refl _ _, FO.below hw⟩
      refine ⟨⟨fun g b h v w hv => (by cases h; exact hv), fun f w hw hn hd => ?_⟩, ?_⟩
      · exact wp_load2 rfl ((rel_eval (by kernel_rfl)).trans (hn 4 (by kernel_rfl))) (C2.below hw) ⟨_, rfl, Below.refl _ _, FS.below hw⟩
      refine ⟨⟨fun g b h v w hv => (by cases h; exact hv), fun f w hw hn hd => ?_⟩, ?_⟩
      · exact wp_call (by kernel_rfl) rfl (hv2 (rel_eval (by kernel_rfl)) (rel_eval (by kernel_rfl))) (RW _ _ _ (show Spec.holds (.order o) (f 36) w from hd 19 36 (by kernel_rfl)) (show Spec.holds (.term s) (f 37) w from hd 20 37 (by kernel_rfl))) (fun v w' h => ⟨v, rfl, h.1, h.2⟩)
      refine ⟨⟨fun g b h v w hv => (by cases h; exact hv), fun f w hw hn hd => ?_⟩, ?_⟩
      · exact wp_eqi rfl ((rel_eval (by kernel_rfl)).trans (hd 18 35 (by kernel_rfl))) ((rel_eval (by kernel_rfl)).trans (hd 21 38 (by kernel_rfl))) (by simp) ⟨_, rfl, Below.refl _ _, rfl⟩
      refine ⟨⟨fun g b h => (by cases h), fun f w hw hn hd => ?_⟩, ?_⟩
      · exact wp_pick rfl ((rel_eval (by kernel_rfl)).trans (hd 15 32 (by kernel_rfl))) ((rel_eval (by kernel_rfl)).trans (hd 22 39 (by kernel_rfl))) ⟨_, rfl, Below.refl _ _, rfl⟩
      refine ⟨⟨fun g b h => (by cases h), fun f w hw hn hd => ?_⟩, ?_⟩
      · exact wp_move rfl ((rel_eval (by kernel_rfl)).trans (hd 23 40 (by kernel_rfl))) ⟨_, rfl, Below.refl _ _, rfl⟩
      refine ⟨⟨fun g b h v w hv => (by cases h; exact hv), fun f w hw hn hd => ?_⟩, ?_⟩
      · exact wp_call (by kernel_rfl) rfl (hv0) (WK _) (fun v w' h => ⟨v, rfl, h.1, h.2⟩)
      refine ⟨⟨fun g b h => (by cases h), fun f w hw hn hd => ?_⟩, ?_⟩
      · exact wp_pick rfl ((rel_eval (by kernel_rfl)).trans (hd 24 41 (by kernel_rfl))) ((rel_eval (by kernel_rfl)).trans (hd 25 42 (by kernel_rfl))) ⟨_, rfl, Below.refl _ _, rfl⟩
      refine ⟨⟨fun g b h => (by cases h), fun f w hw hn hd => ?_⟩, ?_⟩
      · exact wp_assign rfl ((rel_eval (by kernel_rfl)).trans (hd 26 43 (by kernel_rfl))) ⟨_, rfl, Below.refl _ _, rfl⟩
      exact trivial
    · intro L w7 hb7 hu _
      obtain ⟨v, h6, hv6⟩ := hu 27 6 (by kernel_rfl)
      obtain rfl : v = .bool true := hv6
      clear hu
      go_wp2_with fail
      refine bodyPost_ret (v := .bool true) (by simp [results, Try.results3, go_sem, h6]) rfl ?_
      exact ⟨rfl, bstep Hhw2.out hb7⟩

end Go.Proofs.Ytjkpecjlpgcalaa
