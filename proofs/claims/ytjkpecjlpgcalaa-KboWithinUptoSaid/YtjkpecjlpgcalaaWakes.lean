/- What the document says of f and g: the orders, and the walk up to the words. -/
import Derived.Test.YtjkpecjlpgcalaaLeast
import Derived.Test.YtjkpecjlpgcalaaRelT
namespace Go.Proofs.Ytjkpecjlpgcalaa
open Go.RowKit Go.Sort Go

theorem ints_of_own {w : World} {base : Nat} {e : TypeId} {g n c : Nat} {l : List Int} (h : w.ownsRow base e 1 (.slice (some ⟨g, 0, none⟩) n c) n (l.map (Value.int .i64))) (hl : ∀ x ∈ l, I64 x) :
    IsInts w l (some ⟨g, 0, none⟩) ∧ l.length = n ∧ n ≤ c ∧ c ≤ maxLen := by
  have hn : l.length = n := by have := h.1; simpa using this
  refine ⟨fun i hi => ⟨g, 0, [.int .i64 l[i]], rfl, rfl, fun j hj => ?_, rfl, hl _ (List.getElem_mem hi)⟩, hn, ?_⟩
  · obtain rfl : j = 0 := by omega
    have := h.cellAt i (by omega)
    simpa [hi] using this
  · rcases h.2 with ⟨h', _⟩ | ⟨g', cap', cur, h', _, hg, h1, h2, _⟩
    · simp at h'
    · simp only [Value.slice.injEq, true_and] at h'
      omega

def full : Od := ⟨false, [0, 1, 2, 3, 4], [1, 1, 1, 1, 1], 1⟩
def light : Od := ⟨false, [0, 1, 2, 3, 4], [1, 1, 1, 1, 0], 1⟩

theorem least5 (w : World) : Calls Try.prog 23 #[.int .i64 5] w fun e w' => ∃ g1 c1 g2 c2, e = .returned (.agg #[.bool false, .slice (some ⟨g1, 0, none⟩) 5 c1, .slice (some ⟨g2, 0, none⟩) 5 c2, .int .i64 1]) ∧ Below w.heap.size w w' ∧
    IsOd w' full (.agg #[.bool false, .slice (some ⟨g1, 0, none⟩) 5 c1, .slice (some ⟨g2, 0, none⟩) 5 c2, .int .i64 1]) ∧ w.heap.size ≤ g2 ∧ g2 < w'.heap.size ∧ w'.frozen? ⟨g2, 4, none⟩ = false ∧ c2 ≤ maxLen ∧ 5 ≤ c2 ∧
    (∃ u, w'.cell? ⟨g2, 4, none⟩ = some u) ∧ IsOd (w'.setCell ⟨g2, 4, none⟩ (.int .i64 0)) light (.agg #[.bool false, .slice (some ⟨g1, 0, none⟩) 5 c1, .slice (some ⟨g2, 0, none⟩) 5 c2, .int .i64 1]) := by
  refine (least_any w 5 (by omega)).mono ?_
  rintro e w' ⟨p, q, rfl, L⟩
  obtain ⟨g1, c1, rfl, h1, h2⟩ := L.ps.form (by omega)
  obtain ⟨g2, c2, rfl, h3, h4⟩ := L.qs.form (by omega)
  have hne : g1 ≠ g2 := fun e => L.apart g1 rfl (by rw [e]; rfl)
  have i64s : ∀ x : Int, 0 ≤ x → x ≤ 5 → I64 x := fun x h1 h2 => ⟨by omega, by omega⟩
  obtain ⟨p1, _, p2, p3⟩ := ints_of_own (l := [0, 1, 2, 3, 4]) L.ps (by intro x hx; simp at hx; apply i64s <;> omega)
  obtain ⟨q1, _, q2, q3⟩ := ints_of_own (l := [1, 1, 1, 1, 1]) L.qs (by intro x hx; simp at hx; apply i64s <;> omega)
  refine ⟨g1, c1, g2, c2, rfl, L.below, ⟨_, _, _, _, rfl, p2, p3, q2, q3, p1, q1, i64s _ (by decide) (by decide)⟩, by omega, h4, L.qs.frozenAt 4, q3, q2, ⟨_, L.qs.cellAt 4 (by omega)⟩, ?_⟩
  have ht := L.qs.stored 4 (.int .i64 0)
  obtain ⟨t1, _, t2, t3⟩ := ints_of_own (l := [1, 1, 1, 1, 0]) ht.1 (by intro x hx; simp at hx; apply i64s <;> omega)
  have pk := L.ps.kept ht.2 (.inr (by simp [Value.ownBlock]; exact hne))
  obtain ⟨r1, _, r2, r3⟩ := ints_of_own (l := [0, 1, 2, 3, 4]) pk (by intro x hx; simp at hx; apply i64s <;> omega)
  exact ⟨_, _, _, _, rfl, r2, r3, t2, t3, r1, t1, i64s _ (by decide) (by decide)⟩

def tv : T := .mk (-1) []
def ta : T := .mk 1 []
def tb : T := .mk 2 []
def f2 (x y : T) : T := .mk 3 [x, y]
def g1 (x : T) : T := .mk 4 [x]

theorem words : Od.Cmp full (f2 tv ta) (g1 tv) = 3 ∧ Od.Cmp full (g1 ta) (f2 tv tv) = 1 ∧ Od.Cmp full (g1 tv) (f2 ta tb) = 0 ∧ Od.Cmp full (f2 ta tb) (f2 tb ta) = 1 ∧ Od.Cmp light (g1 (g1 tv)) tv = 3 ∧ Od.Cmp light (g1 ta) tb = 3 ∧
    (if full.knows (f2 tv ta) = true then full.weight (f2 tv ta) else 0) = 3 := by
  decide

theorem of_spec {l : List T} {s : Value} {w : World} {k : Int} (h : (Spec.terms l).holds s w) (hk : I64 k) :
    Calls Try.prog 24 #[.int .i64 k, s] w fun e w' => ∃ v, e = .returned v ∧ (Below w.heap.size w w' ∧ (Spec.term (.mk k l)).holds v w') := by
  obtain ⟨a, c, rfl, h1, h2, h3⟩ := h
  refine (of_any k _ w a _ c rfl).mono ?_
  rintro e w' ⟨rfl, hb⟩
  exact ⟨_, rfl, hb, hk, a, c, rfl, h1, h2, h3.below hb⟩

theorem cmp_spec {o : Od} {s t : T} {vo v u : Value} {w : World} {n : Int} (ho : IsOd w o vo) (hv : IsT w s v) (hu : IsT w t u) (hz : s.size ≤ 4294967296 ∧ t.size ≤ 4294967296) (hc : o.Cmp s t = n) :
    Calls Try.prog 11 #[vo, v, u] w fun e w' => ∃ v, e = .returned v ∧ (Below w.heap.size w w' ∧ (Spec.val (.int .i64 n)).holds v w') := by
  subst hc
  refine (kCmp_any o s t w vo v u hz.1 hz.2 ho hv hu).mono ?_
  rintro e w' ⟨rfl, hb⟩
  exact ⟨_, rfl, hb, rfl⟩

theorem weight_spec {o : Od} {s : T} {vo v : Value} {w : World} {n : Int} (ho : IsOd w o vo) (hv : IsT w s v) (_ : s.size ≤ 4294967296) (hc : (if o.knows s = true then o.weight s else 0) = n) :
    Calls Try.prog 13 #[vo, v] w fun e w' => ∃ v, e = .returned v ∧ (Below w.heap.size w w' ∧ (Spec.val (.int .i64 n)).holds v w') := by
  subst hc
  refine (kWeight_any o s w vo v ho hv).mono ?_
  rintro e w' ⟨rfl, hb⟩
  exact ⟨_, rfl, hb, rfl⟩

def wordSpecs : List Spec := [.order full, .term tv, .term ta, .terms [tv, ta], .term (.mk 3 [tv, ta]), .term tv, .terms [tv], .term (.mk 4 [tv]), .val (.int .i64 3), .val (.bool true), .val (.bool true), .order full, .term ta, .terms [ta], .term (.mk 4 [ta]), .term tv, .term tv, .terms [tv, tv], .term (.mk 3 [tv, tv]), .val (.int .i64 1), .val (.bool true), .val (.bool true), .val (.bool true), .order full, .term tv, .terms [tv], .term (.mk 4 [tv]), .term ta, .term tb, .terms [ta, tb], .term (.mk 3 [ta, tb]), .val (.int .i64 0), .val (.bool true), .val (.bool true), .val (.bool true), .order full, .term ta, .term tb, .terms [ta, tb], .term (.mk 3 [ta, tb]), .term tb, .term ta, .terms [tb, ta], .term (.mk 3 [tb, ta]), .val (.int .i64 1), .val (.bool true), .val (.bool true), .val (.bool true), .order light, .term tv, .terms [tv], .term (.mk 4 [tv]), .terms [(.mk 4 [tv])], .term (.mk 4 [(.mk 4 [tv])]), .term tv, .val (.int .i64 3), .val (.bool true), .val (.bool true), .val (.bool true), .order light, .term ta, .terms [ta], .term (.mk 4 [ta]), .term tb, .val (.int .i64 3), .val (.bool true), .val (.bool true), .val (.bool true), .order full, .term tv, .term ta, .terms [tv, ta], .term (.mk 3 [tv, ta]), .val (.int .i64 3), .val (.bool true), .val (.bool true), .val (.bool true)]


set_option maxHeartbeats 2000000 in
theorem wakes_any (w : World) : Calls Try.prog 9 #[] w fun e w' => e = .returned (.bool true) ∧ Below w.heap.size w w' := by
  have OF := fun f s w a n c hs => of_any f s w a n c hs
  go_enter Try.func9, Try.ntmps9
  go_wp2_with fail
  refine (least5 _).mono ?_
  rintro e w1 ⟨a1, c1, a2, c2, rfl, hb1, ho1, _, _, _, _, _, _, _⟩
  have Hhb1 := Lib.hid hb1
  have Hho1 := Lib.hid ho1
  clear hb1 ho1
  go_wp2_with fail
  refine (of_any _ _ _ none 0 0 rfl).mono ?_
  rintro e w2 ⟨rfl, hb2⟩
  obtain ⟨B0, hb2⟩ := box1 hb2
  have ho2 := Hho1.out.below hb2
  have hw2 := bstep Hhb1.out hb2
  have HB0 := Lib.hid B0
  have Hho2 := Lib.hid ho2
  have Hhw2 := Lib.hid hw2
  clear B0 ho2 hw2
  clear hb2 Hhb1 Hho1
  go_wp2_with fail
  refine (of_any _ _ _ none 0 0 rfl).mono ?_
  rintro e w3 ⟨rfl, hb3⟩
  have ho3 := Hho2.out.below hb3
  have hw3 := bstep Hhw2.out hb3
  have B3 := HB0.out.below hb3
  have HB3 := Lib.hid B3
  have Hho3 := Lib.hid ho3
  have Hhw3 := Lib.hid hw3
  clear B3 ho3 hw3
  clear hb3 Hhw2 Hho2 HB0
  go_wp2_with fail
  refine (of_any _ _ _ none 0 0 rfl).mono ?_
  rintro e w4 ⟨rfl, hb4⟩
  have ho4 := Hho3.out.below hb4
  have hw4 := bstep Hhw3.out hb4
  have B4 := HB3.out.below hb4
  have HB4 := Lib.hid B4
  have Hho4 := Lib.hid ho4
  have Hhw4 := Lib.hid hw4
  clear B4 ho4 hw4
  clear hb4 Hhw3 Hho3 HB3
  go_wp2_with fail
  refine (least5 _).mono ?_
  rintro e w5 ⟨a3, c3, a4, c4, rfl, hb5, _, hlt, hlt2, hfz, hm, hc, ⟨u4, hu4⟩, ho5⟩
  obtain ⟨BX, BA, BB, h45⟩ := box3 (Below.refl _ (((w4.alloc (.cells #[.int .i64 (-1), .slice none 0 0] 27)).alloc (.cells #[.int .i64 1, .slice none 0 0] 27)).alloc (.cells #[.int .i64 2, .slice none 0 0] 27)))
  have hw45 := bstep Hhw4.out h45
  have ho45 := Hho4.out.below h45
  have B45 := HB4.out.below h45
  have hsz4 := h45.size
  have e4 : w4.heap.size + 1 + 1 = w4.heap.size + 2 := rfl
  have hb1s : w1.heap.size < w4.heap.size + 1 := by have := World.block_lt_of_cell? _ _ HB4.out.four.1; simp at this; omega
  generalize (((w4.alloc (.cells #[.int .i64 (-1), .slice none 0 0] 27)).alloc (.cells #[.int .i64 1, .slice none 0 0] 27)).alloc (.cells #[.int .i64 2, .slice none 0 0] 27)) = W4 at *
  have Hhw45 := Lib.hid hw45
  have Hho45 := Lib.hid ho45
  have HB45 := Lib.hid B45
  have HBX := Lib.hid BX
  have HBA := Lib.hid BA
  have HBB := Lib.hid BB
  have Hhb5 := Lib.hid hb5
  have Hho5 := Lib.hid ho5
  have Hh45 := Lib.hid h45
  clear hw45 ho45 B45 BX BA BB hb5 ho5 h45
  clear HB4 Hho4 Hhw4
  unfold maxLen at hm
  go_wp2_with fail
  have hb6 : Below W4.heap.size W4 ((w5.setCell ⟨a4, 4, none⟩ (.int .i64 0)).alloc (.cells #[.bool false, .slice (some ⟨a3, 0, none⟩) 5 c3, .slice (some ⟨a4, 0, none⟩) 5 c4, .int .i64 1] 24)) :=
    (Hhb5.out.setCell (p := ⟨a4, 4, none⟩) hlt _).alloc (by simp [World.setCell]; omega) _
  have HO := HB45.out.below hb6
  have FO := Hho45.out.below hb6
  have HX := HBX.out.below hb6
  have HA := HBA.out.below hb6
  have HB := HBB.out.below hb6
  have i64s : ∀ x : Int, -1 ≤ x → x ≤ 5 → I64 x := fun x h1 h2 => ⟨by omega, by omega⟩
  have nil : ∀ (w : World) (k : Int), -1 ≤ k → k ≤ 5 → IsT w (.mk k []) (.agg #[.int .i64 k, .slice none 0 0]) := fun w k h1 h2 => ⟨i64s _ h1 h2, none, 0, rfl, Nat.le_refl _, Nat.zero_le _, trivial⟩
  obtain ⟨HL, _⟩ := box1 (Below.refl _ ((w5.setCell ⟨a4, 4, none⟩ (.int .i64 0)).alloc (.cells #[.bool false, .slice (some ⟨a3, 0, none⟩) 5 c3, .slice (some ⟨a4, 0, none⟩) 5 c4, .int .i64 1] 24)))
  have hsz : (w5.setCell ⟨a4, 4, none⟩ (.int .i64 0)).heap.size = w5.heap.size := by simp [World.setCell]
  rw [hsz] at HL
  have FL := Hho5.out.below (balloc _ (.cells #[.bool false, .slice (some ⟨a3, 0, none⟩) 5 c3, .slice (some ⟨a4, 0, none⟩) 5 c4, .int .i64 1] 24))
  have hw6 := bstep Hhw45.out hb6
  generalize ((w5.setCell ⟨a4, 4, none⟩ (.int .i64 0)).alloc (.cells #[.bool false, .slice (some ⟨a3, 0, none⟩) 5 c3, .slice (some ⟨a4, 0, none⟩) 5 c4, .int .i64 1] 24)) = W6 at *
  have FX : IsT W6 tv _ := nil W6 (-1) (by omega) (by omega)
  have FA : IsT W6 ta _ := nil W6 1 (by omega) (by omega)
  have FB : IsT W6 tb _ := nil W6 2 (by omega) (by omega)
  refine wp_region_rel (specR wordSpecs) (by kernel_rfl) (by kernel_rfl) (fun i v w w' h hb => Spec.keep _ h hb) ?_ ?_
  · refine ⟨⟨fun g b h => (by cases h), fun f w hw hn hd => ?_⟩, ?_⟩
    · exact wp_load4 rfl ((rel_eval (by kernel_rfl)).trans (hn 1 (by kernel_rfl))) (HO.below hw) ⟨_, rfl, Below.refl _ _, FO.below hw⟩
    refine ⟨⟨fun g b h => (by cases h), fun f w hw hn hd => ?_⟩, ?_⟩
    · exact wp_load2 rfl ((rel_eval (by kernel_rfl)).trans (hn 2 (by kernel_rfl))) (HX.below hw) ⟨_, rfl, Below.refl _ _, FX.below hw⟩
    refine ⟨⟨fun g b h => (by cases h), fun f w hw hn hd => ?_⟩, ?_⟩
    · exact wp_load2 rfl ((rel_eval (by kernel_rfl)).trans (hn 3 (by kernel_rfl))) (HA.below hw) ⟨_, rfl, Below.refl _ _, FA.below hw⟩
    refine ⟨⟨fun g b h => (by cases h), fun f w hw hn hd => ?_⟩, ?_⟩
    · exact wp_row2 rfl (rel_eval (by kernel_rfl)) (rel_eval (by kernel_rfl)) (show IsT w tv (f 15) from hd 1 15 (by kernel_rfl)) (show IsT w ta (f 16) from hd 2 16 (by kernel_rfl)) (fun v w' h => ⟨v, rfl, h.1, h.2⟩)
    refine ⟨⟨fun g b h => (by cases h), fun f w hw hn hd => ?_⟩, ?_⟩
    · exact wp_call (by kernel_rfl) rfl (hv2 rfl (rel_eval (by kernel_rfl))) (of_spec (show Spec.holds (.terms [tv, ta]) (f 17) w from hd 3 17 (by kernel_rfl)) ⟨by decide, by decide⟩) (fun v w' h => ⟨v, rfl, h.1, h.2⟩)
    refine ⟨⟨fun g b h => (by cases h), fun f w hw hn hd => ?_⟩, ?_⟩
    · exact wp_load2 rfl ((rel_eval (by kernel_rfl)).trans (hn 2 (by kernel_rfl))) (HX.below hw) ⟨_, rfl, Below.refl _ _, FX.below hw⟩
    refine ⟨⟨fun g b h => (by cases h), fun f w hw hn hd => ?_⟩, ?_⟩
    · exact wp_row1 rfl (rel_eval (by kernel_rfl)) (show IsT w tv (f 19) from hd 5 19 (by kernel_rfl)) (fun v w' h => ⟨v, rfl, h.1, h.2⟩)
    refine ⟨⟨fun g b h => (by cases h), fun f w hw hn hd => ?_⟩, ?_⟩
    · exact wp_call (by kernel_rfl) rfl (hv2 rfl (rel_eval (by kernel_rfl))) (of_spec (show Spec.holds (.terms [tv]) (f 20) w from hd 6 20 (by kernel_rfl)) ⟨by decide, by decide⟩) (fun v w' h => ⟨v, rfl, h.1, h.2⟩)
    refine ⟨⟨fun g b h => (by cases h), fun f w hw hn hd => ?_⟩, ?_⟩
    · exact wp_call (by kernel_rfl) rfl (hv3 (rel_eval (by kernel_rfl)) (rel_eval (by kernel_rfl)) (rel_eval (by kernel_rfl))) (cmp_spec (show IsOd w full (f 14) from hd 0 14 (by kernel_rfl)) (show IsT w (.mk 3 [tv, ta]) (f 18) from hd 4 18 (by kernel_rfl)) (show IsT w (.mk 4 [tv]) (f 21) from hd 7 21 (by kernel_rfl)) (by decide) words.1) (fun v w' h => ⟨v, rfl, h.1, h.2⟩)
    refine ⟨⟨fun g b h => (by cases h), fun f w hw hn hd => ?_⟩, ?_⟩
    · exact wp_eql rfl ((rel_eval (by kernel_rfl)).trans (hd 8 22 (by kernel_rfl))) ⟨_, rfl, Below.refl _ _, rfl⟩
    refine ⟨⟨fun g b h => (by cases h), fun f w hw hn hd => ?_⟩, ?_⟩
    · exact wp_move rfl ((rel_eval (by kernel_rfl)).trans (hd 9 23 (by kernel_rfl))) ⟨_, rfl, Below.refl _ _, rfl⟩
    refine ⟨⟨fun g b h v w hv => (by cases h; exact hv), fun f w hw hn hd => ?_⟩, ?_⟩
    · exact wp_load4 rfl ((rel_eval (by kernel_rfl)).trans (hn 1 (by kernel_rfl))) (HO.below hw) ⟨_, rfl, Below.refl _ _, FO.below hw⟩
    refine ⟨⟨fun g b h v w hv => (by cases h; exact hv), fun f w hw hn hd => ?_⟩, ?_⟩
    · exact wp_load2 rfl ((rel_eval (by kernel_rfl)).trans (hn 3 (by kernel_rfl))) (HA.below hw) ⟨_, rfl, Below.refl _ _, FA.below hw⟩
    refine ⟨⟨fun g b h v w hv => (by cases h; exact hv), fun f w hw hn hd => ?_⟩, ?_⟩
    · exact wp_row1 rfl (rel_eval (by kernel_rfl)) (show IsT w ta (f 26) from hd 12 26 (by kernel_rfl)) (fun v w' h => ⟨v, rfl, h.1, h.2⟩)
    refine ⟨⟨fun g b h v w hv => (by cases h; exact hv), fun f w hw hn hd => ?_⟩, ?_⟩
    · exact wp_call (by kernel_rfl) rfl (hv2 rfl (rel_eval (by kernel_rfl))) (of_spec (show Spec.holds (.terms [ta]) (f 27) w from hd 13 27 (by kernel_rfl)) ⟨by decide, by decide⟩) (fun v w' h => ⟨v, rfl, h.1, h.2⟩)
    refine ⟨⟨fun g b h v w hv => (by cases h; exact hv), fun f w hw hn hd => ?_⟩, ?_⟩
    · exact wp_load2 rfl ((rel_eval (by kernel_rfl)).trans (hn 2 (by kernel_rfl))) (HX.below hw) ⟨_, rfl, Below.refl _ _, FX.below hw⟩
    refine ⟨⟨fun g b h v w hv => (by cases h; exact hv), fun f w hw hn hd => ?_⟩, ?_⟩
    · exact wp_load2 rfl ((rel_eval (by kernel_rfl)).trans (hn 2 (by kernel_rfl))) (HX.below hw) ⟨_, rfl, Below.refl _ _, FX.below hw⟩
    refine ⟨⟨fun g b h v w hv => (by cases h; exact hv), fun f w hw hn hd => ?_⟩, ?_⟩
    · exact wp_row2 rfl (rel_eval (by kernel_rfl)) (rel_eval (by kernel_rfl)) (show IsT w tv (f 29) from hd 15 29 (by kernel_rfl)) (show IsT w tv (f 30) from hd 16 30 (by kernel_rfl)) (fun v w' h => ⟨v, rfl, h.1, h.2⟩)
    refine ⟨⟨fun g b h v w hv => (by cases h; exact hv), fun f w hw hn hd => ?_⟩, ?_⟩
    · exact wp_call (by kernel_rfl) rfl (hv2 rfl (rel_eval (by kernel_rfl))) (of_spec (show Spec.holds (.terms [tv, tv]) (f 31) w from hd 17 31 (by kernel_rfl)) ⟨by decide, by decide⟩) (fun v w' h => ⟨v, rfl, h.1, h.2⟩)
    refine ⟨⟨fun g b h v w hv => (by cases h; exact hv), fun f w hw hn hd => ?_⟩, ?_⟩
    · exact wp_call (by kernel_rfl) rfl (hv3 (rel_eval (by kernel_rfl)) (rel_eval (by kernel_rfl)) (rel_eval (by kernel_rfl))) (cmp_spec (show IsOd w full (f 25) from hd 11 25 (by kernel_rfl)) (show IsT w (.mk 4 [ta]) (f 28) from hd 14 28 (by kernel_rfl)) (show IsT w (.mk 3 [tv, tv]) (f 32) from hd 18 32 (by kernel_rfl)) (by decide) words.2.1) (fun v w' h => ⟨v, rfl, h.1, h.2⟩)
    refine ⟨⟨fun g b h v w hv => (by cases h; exact hv), fun f w hw hn hd => ?_⟩, ?_⟩
    · exact wp_eql rfl ((rel_eval (by kernel_rfl)).trans (hd 19 33 (by kernel_rfl))) ⟨_, rfl, Below.refl _ _, rfl⟩
    refine ⟨⟨fun g b h => (by cases h), fun f w hw hn hd => ?_⟩, ?_⟩
    · exact wp_pick rfl ((rel_eval (by kernel_rfl)).trans (hd 10 24 (by kernel_rfl))) ((rel_eval (by kernel_rfl)).trans (hd 20 34 (by kernel_rfl))) ⟨_, rfl, Below.refl _ _, rfl⟩
    refine ⟨⟨fun g b h => (by cases h), fun f w hw hn hd => ?_⟩, ?_⟩
    · exact wp_move rfl ((rel_eval (by kernel_rfl)).trans (hd 21 35 (by kernel_rfl))) ⟨_, rfl, Below.refl _ _, rfl⟩
    refine ⟨⟨fun g b h v w hv => (by cases h; exact hv), fun f w hw hn hd => ?_⟩, ?_⟩
    · exact wp_load4 rfl ((rel_eval (by kernel_rfl)).trans (hn 1 (by kernel_rfl))) (HO.below hw) ⟨_, rfl, Below.refl _ _, FO.below hw⟩
    refine ⟨⟨fun g b h v w hv => (by cases h; exact hv), fun f w hw hn hd => ?_⟩, ?_⟩
    · exact wp_load2 rfl ((rel_eval (by kernel_rfl)).trans (hn 2 (by kernel_rfl))) (HX.below hw) ⟨_, rfl, Below.refl _ _, FX.below hw⟩
    refine ⟨⟨fun g b h v w hv => (by cases h; exact hv), fun f w hw hn hd => ?_⟩, ?_⟩
    · exact wp_row1 rfl (rel_eval (by kernel_rfl)) (show IsT w tv (f 38) from hd 24 38 (by kernel_rfl)) (fun v w' h => ⟨v, rfl, h.1, h.2⟩)
    refine ⟨⟨fun g b h v w hv => (by cases h; exact hv), fun f w hw hn hd => ?_⟩, ?_⟩
    · exact wp_call (by kernel_rfl) rfl (hv2 rfl (rel_eval (by kernel_rfl))) (of_spec (show Spec.holds (.terms [tv]) (f 39) w from hd 25 39 (by kernel_rfl)) ⟨by decide, by decide⟩) (fun v w' h => ⟨v, rfl, h.1, h.2⟩)
    refine ⟨⟨fun g b h v w hv => (by cases h; exact hv), fun f w hw hn hd => ?_⟩, ?_⟩
    · exact wp_load2 rfl ((rel_eval (by kernel_rfl)).trans (hn 3 (by kernel_rfl))) (HA.below hw) ⟨_, rfl, Below.refl _ _, FA.below hw⟩
    refine ⟨⟨fun g b h v w hv => (by cases h; exact hv), fun f w hw hn hd => ?_⟩, ?_⟩
    · exact wp_load2 rfl ((rel_eval (by kernel_rfl)).trans (hn 4 (by kernel_rfl))) (HB.below hw) ⟨_, rfl, Below.refl _ _, FB.below hw⟩
    refine ⟨⟨fun g b h v w hv => (by cases h; exact hv), fun f w hw hn hd => ?_⟩, ?_⟩
    · exact wp_row2 rfl (rel_eval (by kernel_rfl)) (rel_eval (by kernel_rfl)) (show IsT w ta (f 41) from hd 27 41 (by kernel_rfl)) (show IsT w tb (f 42) from hd 28 42 (by kernel_rfl)) (fun v w' h => ⟨v, rfl, h.1, h.2⟩)
    refine ⟨⟨fun g b h v w hv => (by cases h; exact hv), fun f w hw hn hd => ?_⟩, ?_⟩
    · exact wp_call (by kernel_rfl) rfl (hv2 rfl (rel_eval (by kernel_rfl))) (of_spec (show Spec.holds (.terms [ta, tb]) (f 43) w from hd 29 43 (by kernel_rfl)) ⟨by decide, by decide⟩) (fun v w' h => ⟨v, rfl, h.1, h.2⟩)
    refine ⟨⟨fun g b h v w hv => (by cases h; exact hv), fun f w hw hn hd => ?_⟩, ?_⟩
    · exact wp_call (by kernel_rfl) rfl (hv3 (rel_eval (by kernel_rfl)) (rel_eval (by kernel_rfl)) (rel_eval (by kernel_rfl))) (cmp_spec (show IsOd w full (f 37) from hd 23 37 (by kernel_rfl)) (show IsT w (.mk 4 [tv]) (f 40) from hd 26 40 (by kernel_rfl)) (show IsT w (.mk 3 [ta, tb]) (f 44) from hd 30 44 (by kernel_rfl)) (by decide) words.2.2.1) (fun v w' h => ⟨v, rfl, h.1, h.2⟩)
    refine ⟨⟨fun g b h v w hv => (by cases h; exact hv), fun f w hw hn hd => ?_⟩, ?_⟩
    · exact wp_eql rfl ((rel_eval (by kernel_rfl)).trans (hd 31 45 (by kernel_rfl))) ⟨_, rfl, Below.refl _ _, rfl⟩
    refine ⟨⟨fun g b h => (by cases h), fun f w hw hn hd => ?_⟩, ?_⟩
    · exact wp_pick rfl ((rel_eval (by kernel_rfl)).trans (hd 22 36 (by kernel_rfl))) ((rel_eval (by kernel_rfl)).trans (hd 32 46 (by kernel_rfl))) ⟨_, rfl, Below.refl _ _, rfl⟩
    refine ⟨⟨fun g b h => (by cases h), fun f w hw hn hd => ?_⟩, ?_⟩
    · exact wp_move rfl ((rel_eval (by kernel_rfl)).trans (hd 33 47 (by kernel_rfl))) ⟨_, rfl, Below.refl _ _, rfl⟩
    refine ⟨⟨fun g b h v w hv => (by cases h; exact hv), fun f w hw hn hd => ?_⟩, ?_⟩
    · exact wp_load4 rfl ((rel_eval (by kernel_rfl)).trans (hn 1 (by kernel_rfl))) (HO.below hw) ⟨_, rfl, Below.refl _ _, FO.below hw⟩
    refine ⟨⟨fun g b h v w hv => (by cases h; exact hv), fun f w hw hn hd => ?_⟩, ?_⟩
    · exact wp_load2 rfl ((rel_eval (by kernel_rfl)).trans (hn 3 (by kernel_rfl))) (HA.below hw) ⟨_, rfl, Below.refl _ _, FA.below hw⟩
    refine ⟨⟨fun g b h v w hv => (by cases h; exact hv), fun f w hw hn hd => ?_⟩, ?_⟩
    · exact wp_load2 rfl ((rel_eval (by kernel_rfl)).trans (hn 4 (by kernel_rfl))) (HB.below hw) ⟨_, rfl, Below.refl _ _, FB.below hw⟩
    refine ⟨⟨fun g b h v w hv => (by cases h; exact hv), fun f w hw hn hd => ?_⟩, ?_⟩
    · exact wp_row2 rfl (rel_eval (by kernel_rfl)) (rel_eval (by kernel_rfl)) (show IsT w ta (f 50) from hd 36 50 (by kernel_rfl)) (show IsT w tb (f 51) from hd 37 51 (by kernel_rfl)) (fun v w' h => ⟨v, rfl, h.1, h.2⟩)
    refine ⟨⟨fun g b h v w hv => (by cases h; exact hv), fun f w hw hn hd => ?_⟩, ?_⟩
    · exact wp_call (by kernel_rfl) rfl (hv2 rfl (rel_eval (by kernel_rfl))) (of_spec (show Spec.holds (.terms [ta, tb]) (f 52) w from hd 38 52 (by kernel_rfl)) ⟨by decide, by decide⟩) (fun v w' h => ⟨v, rfl, h.1, h.2⟩)
    refine ⟨⟨fun g b h v w hv => (by cases h; exact hv), fun f w hw hn hd => ?_⟩, ?_⟩
    · exact wp_load2 rfl ((rel_eval (by kernel_rfl)).trans (hn 4 (by kernel_rfl))) (HB.below hw) ⟨_, rfl, Below.refl _ _, FB.below hw⟩
    refine ⟨⟨fun g b h v w hv => (by cases h; exact hv), fun f w hw hn hd => ?_⟩, ?_⟩
    · exact wp_load2 rfl ((rel_eval (by kernel_rfl)).trans (hn 3 (by kernel_rfl))) (HA.below hw) ⟨_, rfl, Below.refl _ _, FA.below hw⟩
    refine ⟨⟨fun g b h v w hv => (by cases h; exact hv), fun f w hw hn hd => ?_⟩, ?_⟩
    · exact wp_row2 rfl (rel_eval (by kernel_rfl)) (rel_eval (by kernel_rfl)) (show IsT w tb (f 54) from hd 40 54 (by kernel_rfl)) (show IsT w ta (f 55) from hd 41 55 (by kernel_rfl)) (fun v w' h => ⟨v, rfl, h.1, h.2⟩)
    refine ⟨⟨fun g b h v w hv => (by cases h; exact hv), fun f w hw hn hd => ?_⟩, ?_⟩
    · exact wp_call (by kernel_rfl) rfl (hv2 rfl (rel_eval (by kernel_rfl))) (of_spec (show Spec.holds (.terms [tb, ta]) (f 56) w from hd 42 56 (by kernel_rfl)) ⟨by decide, by decide⟩) (fun v w' h => ⟨v, rfl, h.1, h.2⟩)
    refine ⟨⟨fun g b h v w hv => (by cases h; exact hv), fun f w hw hn hd => ?_⟩, ?_⟩
    · exact wp_call (by kernel_rfl) rfl (hv3 (rel_eval (by kernel_rfl)) (rel_eval (by kernel_rfl)) (rel_eval (by kernel_rfl))) (cmp_spec (show IsOd w full (f 49) from hd 35 49 (by kernel_rfl)) (show IsT w (.mk 3 [ta, tb]) (f 53) from hd 39 53 (by kernel_rfl)) (show IsT w (.mk 3 [tb, ta]) (f 57) from hd 43 57 (by kernel_rfl)) (by decide) words.2.2.2.1) (fun v w' h => ⟨v, rfl, h.1, h.2⟩)
    refine ⟨⟨fun g b h v w hv => (by cases h; exact hv), fun f w hw hn hd => ?_⟩, ?_⟩
    · exact wp_eql rfl ((rel_eval (by kernel_rfl)).trans (hd 44 58 (by kernel_rfl))) ⟨_, rfl, Below.refl _ _, rfl⟩
    refine ⟨⟨fun g b h => (by cases h), fun f w hw hn hd => ?_⟩, ?_⟩
    · exact wp_pick rfl ((rel_eval (by kernel_rfl)).trans (hd 34 48 (by kernel_rfl))) ((rel_eval (by kernel_rfl)).trans (hd 45 59 (by kernel_rfl))) ⟨_, rfl, Below.refl _ _, rfl⟩
    refine ⟨⟨fun g b h => (by cases h), fun f w hw hn hd => ?_⟩, ?_⟩
    · exact wp_move rfl ((rel_eval (by kernel_rfl)).trans (hd 46 60 (by kernel_rfl))) ⟨_, rfl, Below.refl _ _, rfl⟩
    refine ⟨⟨fun g b h v w hv => (by cases h; exact hv), fun f w hw hn hd => ?_⟩, ?_⟩
    · exact wp_load4 rfl ((rel_eval (by kernel_rfl)).trans (hn 5 (by kernel_rfl))) (HL.below hw) ⟨_, rfl, Below.refl _ _, FL.below hw⟩
    refine ⟨⟨fun g b h v w hv => (by cases h; exact hv), fun f w hw hn hd => ?_⟩, ?_⟩
    · exact wp_load2 rfl ((rel_eval (by kernel_rfl)).trans (hn 2 (by kernel_rfl))) (HX.below hw) ⟨_, rfl, Below.refl _ _, FX.below hw⟩
    refine ⟨⟨fun g b h v w hv => (by cases h; exact hv), fun f w hw hn hd => ?_⟩, ?_⟩
    · exact wp_row1 rfl (rel_eval (by kernel_rfl)) (show IsT w tv (f 63) from hd 49 63 (by kernel_rfl)) (fun v w' h => ⟨v, rfl, h.1, h.2⟩)
    refine ⟨⟨fun g b h v w hv => (by cases h; exact hv), fun f w hw hn hd => ?_⟩, ?_⟩
    · exact wp_call (by kernel_rfl) rfl (hv2 rfl (rel_eval (by kernel_rfl))) (of_spec (show Spec.holds (.terms [tv]) (f 64) w from hd 50 64 (by kernel_rfl)) ⟨by decide, by decide⟩) (fun v w' h => ⟨v, rfl, h.1, h.2⟩)
    refine ⟨⟨fun g b h v w hv => (by cases h; exact hv), fun f w hw hn hd => ?_⟩, ?_⟩
    · exact wp_row1 rfl (rel_eval (by kernel_rfl)) (show IsT w (.mk 4 [tv]) (f 65) from hd 51 65 (by kernel_rfl)) (fun v w' h => ⟨v, rfl, h.1, h.2⟩)
    refine ⟨⟨fun g b h v w hv => (by cases h; exact hv), fun f w hw hn hd => ?_⟩, ?_⟩
    · exact wp_call (by kernel_rfl) rfl (hv2 rfl (rel_eval (by kernel_rfl))) (of_spec (show Spec.holds (.terms [(.mk 4 [tv])]) (f 66) w from hd 52 66 (by kernel_rfl)) ⟨by decide, by decide⟩) (fun v w' h => ⟨v, rfl, h.1, h.2⟩)
    refine ⟨⟨fun g b h v w hv => (by cases h; exact hv), fun f w hw hn hd => ?_⟩, ?_⟩
    · exact wp_load2 rfl ((rel_eval (by kernel_rfl)).trans (hn 2 (by kernel_rfl))) (HX.below hw) ⟨_, rfl, Below.refl _ _, FX.below hw⟩
    refine ⟨⟨fun g b h v w hv => (by cases h; exact hv), fun f w hw hn hd => ?_⟩, ?_⟩
    · exact wp_call (by kernel_rfl) rfl (hv3 (rel_eval (by kernel_rfl)) (rel_eval (by kernel_rfl)) (rel_eval (by kernel_rfl))) (cmp_spec (show IsOd w light (f 62) from hd 48 62 (by kernel_rfl)) (show IsT w (.mk 4 [(.mk 4 [tv])]) (f 67) from hd 53 67 (by kernel_rfl)) (show IsT w tv (f 68) from hd 54 68 (by kernel_rfl)) (by decide) words.2.2.2.2.1) (fun v w' h => ⟨v, rfl, h.1, h.2⟩)
    refine ⟨⟨fun g b h v w hv => (by cases h; exact hv), fun f w hw hn hd => ?_⟩, ?_⟩
    · exact wp_eql rfl ((rel_eval (by kernel_rfl)).trans (hd 55 69 (by kernel_rfl))) ⟨_, rfl, Below.refl _ _, rfl⟩
    refine ⟨⟨fun g b h => (by cases h), fun f w hw hn hd => ?_⟩, ?_⟩
    · exact wp_pick rfl ((rel_eval (by kernel_rfl)).trans (hd 47 61 (by kernel_rfl))) ((rel_eval (by kernel_rfl)).trans (hd 56 70 (by kernel_rfl))) ⟨_, rfl, Below.refl _ _, rfl⟩
    refine ⟨⟨fun g b h => (by cases h), fun f w hw hn hd => ?_⟩, ?_⟩
    · exact wp_move rfl ((rel_eval (by kernel_rfl)).trans (hd 57 71 (by kernel_rfl))) ⟨_, rfl, Below.refl _ _, rfl⟩
    refine ⟨⟨fun g b h v w hv => (by cases h; exact hv), fun f w hw hn hd => ?_⟩, ?_⟩
    · exact wp_load4 rfl ((rel_eval (by kernel_rfl)).trans (hn 5 (by kernel_rfl))) (HL.below hw) ⟨_, rfl, Below.refl _ _, FL.below hw⟩
    refine ⟨⟨fun g b h v w hv => (by cases h; exact hv), fun f w hw hn hd => ?_⟩, ?_⟩
    · exact wp_load2 rfl ((rel_eval (by kernel_rfl)).trans (hn 3 (by kernel_rfl))) (HA.below hw) ⟨_, rfl, Below.refl _ _, FA.below hw⟩
    refine ⟨⟨fun g b h v w hv => (by cases h; exact hv), fun f w hw hn hd => ?_⟩, ?_⟩
    · exact wp_row1 rfl (rel_eval (by kernel_rfl)) (show IsT w ta (f 74) from hd 60 74 (by kernel_rfl)) (fun v w' h => ⟨v, rfl, h.1, h.2⟩)
    refine ⟨⟨fun g b h v w hv => (by cases h; exact hv), fun f w hw hn hd => ?_⟩, ?_⟩
    · exact wp_call (by kernel_rfl) rfl (hv2 rfl (rel_eval (by kernel_rfl))) (of_spec (show Spec.holds (.terms [ta]) (f 75) w from hd 61 75 (by kernel_rfl)) ⟨by decide, by decide⟩) (fun v w' h => ⟨v, rfl, h.1, h.2⟩)
    refine ⟨⟨fun g b h v w hv => (by cases h; exact hv), fun f w hw hn hd => ?_⟩, ?_⟩
    · exact wp_load2 rfl ((rel_eval (by kernel_rfl)).trans (hn 4 (by kernel_rfl))) (HB.below hw) ⟨_, rfl, Below.refl _ _, FB.below hw⟩
    refine ⟨⟨fun g b h v w hv => (by cases h; exact hv), fun f w hw hn hd => ?_⟩, ?_⟩
    · exact wp_call (by kernel_rfl) rfl (hv3 (rel_eval (by kernel_rfl)) (rel_eval (by kernel_rfl)) (rel_eval (by kernel_rfl))) (cmp_spec (show IsOd w light (f 73) from hd 59 73 (by kernel_rfl)) (show IsT w (.mk 4 [ta]) (f 76) from hd 62 76 (by kernel_rfl)) (show IsT w tb (f 77) from hd 63 77 (by kernel_rfl)) (by decide) words.2.2.2.2.2.1) (fun v w' h => ⟨v, rfl, h.1, h.2⟩)
    refine ⟨⟨fun g b h v w hv => (by cases h; exact hv), fun f w hw hn hd => ?_⟩, ?_⟩
    · exact wp_eql rfl ((rel_eval (by kernel_rfl)).trans (hd 64 78 (by kernel_rfl))) ⟨_, rfl, Below.refl _ _, rfl⟩
    refine ⟨⟨fun g b h => (by cases h), fun f w hw hn hd => ?_⟩, ?_⟩
    · exact wp_pick rfl ((rel_eval (by kernel_rfl)).trans (hd 58 72 (by kernel_rfl))) ((rel_eval (by kernel_rfl)).trans (hd 65 79 (by kernel_rfl))) ⟨_, rfl, Below.refl _ _, rfl⟩
    refine ⟨⟨fun g b h => (by cases h), fun f w hw hn hd => ?_⟩, ?_⟩
    · exact wp_move rfl ((rel_eval (by kernel_rfl)).trans (hd 66 80 (by kernel_rfl))) ⟨_, rfl, Below.refl _ _, rfl⟩
    refine ⟨⟨fun g b h v w hv => (by cases h; exact hv), fun f w hw hn hd => ?_⟩, ?_⟩
    · exact wp_load4 rfl ((rel_eval (by kernel_rfl)).trans (hn 1 (by kernel_rfl))) (HO.below hw) ⟨_, rfl, Below.refl _ _, FO.below hw⟩
    refine ⟨⟨fun g b h v w hv => (by cases h; exact hv), fun f w hw hn hd => ?_⟩, ?_⟩
    · exact wp_load2 rfl ((rel_eval (by kernel_rfl)).trans (hn 2 (by kernel_rfl))) (HX.below hw) ⟨_, rfl, Below.refl _ _, FX.below hw⟩
    refine ⟨⟨fun g b h v w hv => (by cases h; exact hv), fun f w hw hn hd => ?_⟩, ?_⟩
    · exact wp_load2 rfl ((rel_eval (by kernel_rfl)).trans (hn 3 (by kernel_rfl))) (HA.below hw) ⟨_, rfl, Below.refl _ _, FA.below hw⟩
    refine ⟨⟨fun g b h v w hv => (by cases h; exact hv), fun f w hw hn hd => ?_⟩, ?_⟩
    · exact wp_row2 rfl (rel_eval (by kernel_rfl)) (rel_eval (by kernel_rfl)) (show IsT w tv (f 83) from hd 69 83 (by kernel_rfl)) (show IsT w ta (f 84) from hd 70 84 (by kernel_rfl)) (fun v w' h => ⟨v, rfl, h.1, h.2⟩)
    refine ⟨⟨fun g b h v w hv => (by cases h; exact hv), fun f w hw hn hd => ?_⟩, ?_⟩
    · exact wp_call (by kernel_rfl) rfl (hv2 rfl (rel_eval (by kernel_rfl))) (of_spec (show Spec.holds (.terms [tv, ta]) (f 85) w from hd 71 85 (by kernel_rfl)) ⟨by decide, by decide⟩) (fun v w' h => ⟨v, rfl, h.1, h.2⟩)
    refine ⟨⟨fun g b h v w hv => (by cases h; exact hv), fun f w hw hn hd => ?_⟩, ?_⟩
    · exact wp_call (by kernel_rfl) rfl (hv2 (rel_eval (by kernel_rfl)) (rel_eval (by kernel_rfl))) (weight_spec (show IsOd w full (f 82) from hd 68 82 (by kernel_rfl)) (show IsT w (.mk 3 [tv, ta]) (f 86) from hd 72 86 (by kernel_rfl)) (by decide) words.2.2.2.2.2.2) (fun v w' h => ⟨v, rfl, h.1, h.2⟩)
    refine ⟨⟨fun g b h v w hv => (by cases h; exact hv), fun f w hw hn hd => ?_⟩, ?_⟩
    · exact wp_eql rfl ((rel_eval (by kernel_rfl)).trans (hd 73 87 (by kernel_rfl))) ⟨_, rfl, Below.refl _ _, rfl⟩
    refine ⟨⟨fun g b h => (by cases h), fun f w hw hn hd => ?_⟩, ?_⟩
    · exact wp_pick rfl ((rel_eval (by kernel_rfl)).trans (hd 67 81 (by kernel_rfl))) ((rel_eval (by kernel_rfl)).trans (hd 74 88 (by kernel_rfl))) ⟨_, rfl, Below.refl _ _, rfl⟩
    refine ⟨⟨fun g b h => (by cases h), fun f w hw hn hd => ?_⟩, ?_⟩
    · exact wp_assign rfl ((rel_eval (by kernel_rfl)).trans (hd 75 89 (by kernel_rfl))) ⟨_, rfl, Below.refl _ _, rfl⟩
    exact trivial
  · intro u w7 hb7 hu
    have h0 : u 0 = .bool true := hu 76 0 (by kernel_rfl)
    obtain ⟨r, e⟩ := fin_first u (x := .bool false) (by kernel_rfl) h0 rfl
    rw [e]
    go_wp2_with fail
    go_ret
    exact ⟨rfl, bstep hw6 hb7⟩

end Go.Proofs.Ytjkpecjlpgcalaa
