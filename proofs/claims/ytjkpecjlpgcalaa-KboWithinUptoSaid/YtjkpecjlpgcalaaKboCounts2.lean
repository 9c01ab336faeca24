/- The walks through the program's order of Knuth and Bendix: which term has which variables more often. -/
import Derived.Test.YtjkpecjlpgcalaaKboCounts
import Derived.Laws.EntriesVeiled
namespace Go.Proofs.Ytjkpecjlpgcalaa
open Go.RowKit Go.Sort Go.Maps Go

theorem IsT.often_i64 {w : World} {x : Int} : ∀ (t : T) (v : Value), IsT w t v → 0 < t.often x → I64 x := by
  intro t
  induction t using T.ind with
  | h f l ih =>
  intro v hv hx
  obtain ⟨hf, a, c, rfl, hc, hm, hl⟩ := hv
  clear hc hm
  rw [T.often] at hx
  by_cases e : f = x
  · subst e; exact hf
  · rw [if_neg e, Nat.zero_add] at hx
    have : ∃ k, ∃ hk : k < l.length, 0 < T.often x l[k] := by
      clear hl ih
      induction l with
      | nil => simp [T.oftenL] at hx
      | cons a r ihr =>
        rw [T.oftenL] at hx
        by_cases h : 0 < T.often x a
        · exact ⟨0, by simp, h⟩
        · obtain ⟨k, hk, h⟩ := ihr (by omega)
          exact ⟨k + 1, by simpa using hk, by simpa using h⟩
    obtain ⟨k, hk, h⟩ := this
    obtain ⟨_, _, _, _, _, _, _, h3⟩ := hl.at2 (Below.refl _ _) k hk
    exact ih _ (List.getElem_mem hk) _ h3 h

theorem covers_iff (o : Od) (s t : T) : ∀ (u : T), o.knows u = true → (Od.covers s t u = true ↔ ∀ v, v < 0 → 0 < u.often v → t.often v ≤ s.often v) := by
  intro u
  induction u using T.ind with
  | h f l ih =>
  intro hk
  rcases Od.knows_args hk with ⟨h0, rfl⟩ | ⟨h0, _, _, hall⟩
  · rw [Od.covers, if_pos h0, decide_eq_true_eq]
    constructor
    · intro h v hv hp
      rw [T.often, T.oftenL] at hp
      by_cases e : f = v
      · subst e; exact h
      · rw [if_neg e] at hp; omega
    · intro h
      exact h f h0 (by rw [T.often, if_pos rfl]; omega)
  · rw [Od.covers, if_neg (by omega)]
    have hL : ∀ r : List T, (∀ a ∈ r, a ∈ l) → (Od.coversL s t r = true ↔ ∀ v, v < 0 → 0 < T.oftenL v r → t.often v ≤ s.often v) := by
      intro r
      induction r with
      | nil => intro _; simp [Od.coversL, T.oftenL]
      | cons a r ihr =>
        intro hm
        rw [Od.coversL, Bool.and_eq_true, ih a (hm a (by simp)) (hall a (hm a (by simp))), ihr (fun b hb => hm b (by simp [hb]))]
        constructor
        · rintro ⟨h1, h2⟩ v hv hp
          rw [T.oftenL] at hp
          by_cases e : 0 < T.often v a
          · exact h1 v hv e
          · exact h2 v hv (by omega)
        · intro h
          exact ⟨fun v hv hp => h v hv (by rw [T.oftenL]; omega), fun v hv hp => h v hv (by rw [T.oftenL]; omega)⟩
    rw [hL l (fun _ h => h)]
    constructor
    · intro h v hv hp
      refine h v hv ?_
      rw [T.often, if_neg (by omega)] at hp
      omega
    · intro h v hv hp
      exact h v hv (by rw [T.often]; omega)

/-- What the loop over the map has found. -/
def LR (F : Int → Int) (D : DataW Unit) (left : Lit → Bool) (b1 b2 : Bool) : Prop :=
  (b1 = true ↔ ∀ v, (Lit.int .i64 v).wf = true → Maps.has D (.int .i64 v) = true → left (.int .i64 v) = false → F v ≤ 0) ∧
  (b2 = true ↔ ∀ v, (Lit.int .i64 v).wf = true → Maps.has D (.int .i64 v) = true → left (.int .i64 v) = false → 0 ≤ F v)
theorem LR.start (F : Int → Int) (D : DataW Unit) : LR F D (Maps.has D) true true := by
  constructor <;> exact ⟨fun _ v _ h1 h2 => by rw [h1] at h2; simp at h2, fun _ => rfl⟩
theorem sameInt (v x : Int) : (Lit.int .i64 v).sameKey (.int .i64 x) = decide (v = x) := by simp [Lit.sameKey]
theorem LR.step {F : Int → Int} {D : DataW Unit} {left : Lit → Bool} {b1 b2 : Bool} {x c : Int} (h : LR F D left b1 b2) (hF : MapF D F) (hwx : (Lit.int .i64 x).wf = true) (hl : left (.int .i64 x) = true)
    (hat : ∀ zd, D.atKey (.int .i64 x) zd = .lit (.int .i64 c)) : LR F D (fun z => left z && !z.sameKey (.int .i64 x)) (b1 && decide (c ≤ 0)) (b2 && decide (0 ≤ c)) := by
  have hc : c = F x := mapF_eq hF hwx (hat _)
  have hx : Maps.has D (.int .i64 x) = true := by
    cases hh : Maps.has D (.int .i64 x) with
    | true => rfl
    | false =>
      have h1 := Maps.atKey_of_not_has hh (.nil)
      rw [hat] at h1
      cases h1
  have key : ∀ (v : Int), (left (.int .i64 v) && !(Lit.int .i64 v).sameKey (.int .i64 x)) = false ↔ left (.int .i64 v) = false ∨ v = x := by
    intro v
    rw [sameInt]
    cases left (.int .i64 v) <;> simp
  constructor
  · rw [Bool.and_eq_true, decide_eq_true_eq, h.1]
    constructor
    · rintro ⟨g1, g2⟩ v hv hD hl'
      rcases (key v).1 hl' with e | rfl
      · exact g1 v hv hD e
      · omega
    · intro g
      exact ⟨fun v hv hD e => g v hv hD ((key v).2 (.inl e)), hc ▸ g x hwx hx ((key x).2 (.inr rfl))⟩
  · rw [Bool.and_eq_true, decide_eq_true_eq, h.2]
    constructor
    · rintro ⟨g1, g2⟩ v hv hD hl'
      rcases (key v).1 hl' with e | rfl
      · exact g1 v hv hD e
      · omega
    · intro g
      exact ⟨fun v hv hD e => g v hv hD ((key v).2 (.inl e)), hc ▸ g x hwx hx ((key x).2 (.inr rfl))⟩
theorem LR.done {F : Int → Int} {D : DataW Unit} {left : Lit → Bool} {b1 b2 : Bool} (h : LR F D left b1 b2) (hF : MapF D F) (hl : ∀ k, left k = false) :
    (b1 = true ↔ ∀ v, (Lit.int .i64 v).wf = true → F v ≤ 0) ∧ (b2 = true ↔ ∀ v, (Lit.int .i64 v).wf = true → 0 ≤ F v) := by
  have key : ∀ v, (Lit.int .i64 v).wf = true → Maps.has D (.int .i64 v) = false → F v = 0 := by
    intro v hv hh
    have h1 := Maps.atKey_of_not_has hh (.lit (.int .i64 0))
    exact (mapF_eq hF hv h1).symm
  constructor
  · rw [h.1]
    refine ⟨fun g v hv => ?_, fun g v hv _ _ => g v hv⟩
    cases hh : Maps.has D (.int .i64 v) with
    | true => exact g v hv hh (hl _)
    | false => rw [key v hv hh]; omega
  · rw [h.2]
    refine ⟨fun g v hv => ?_, fun g v hv _ _ => g v hv⟩
    cases hh : Maps.has D (.int .i64 v) with
    | true => exact g v hv hh (hl _)
    | false => rw [key v hv hh]; omega

/-- What was counted says what is covered. -/
theorem counted (o : Od) {w : World} {s t : T} {v u : Value} (hs : IsT w s v) (ht : IsT w t u) (ks : o.knows s = true) (kt : o.knows t = true) {b1 b2 : Bool}
    (h1 : b1 = true ↔ ∀ v, (Lit.int .i64 v).wf = true → addF (addF (fun _ => 0) 1 s) (-1) t v ≤ 0) (h2 : b2 = true ↔ ∀ v, (Lit.int .i64 v).wf = true → 0 ≤ addF (addF (fun _ => 0) 1 s) (-1) t v) :
    b1 = Od.covers t s s ∧ b2 = Od.covers s t t := by
  constructor
  · rw [Bool.eq_iff_iff, h1, covers_iff o t s s ks]
    constructor
    · intro g v hv hp
      have hi := IsT.often_i64 s _ hs hp
      have := g v (i64_mk hi.1 hi.2)
      unfold addF at this
      simp only [if_pos hv] at this
      omega
    · intro g v hv
      unfold addF
      by_cases h : v < 0
      · simp only [if_pos h]
        by_cases hp : 0 < s.often v
        · have := g v h hp; omega
        · omega
      · simp [h]
  · rw [Bool.eq_iff_iff, h2, covers_iff o s t t kt]
    constructor
    · intro g v hv hp
      have hi := IsT.often_i64 t _ ht hp
      have := g v (i64_mk hi.1 hi.2)
      unfold addF at this
      simp only [if_pos hv] at this
      omega
    · intro g v hv
      unfold addF
      by_cases h : v < 0
      · simp only [if_pos h]
        by_cases hp : 0 < t.often v
        · have := g v h hp; omega
        · omega
      · simp [h]

set_option maxRecDepth 100000 in
set_option maxHeartbeats 1000000 in
theorem counts_any (o : Od) (s t : T) (w : World) (v u : Value) (zs : s.size ≤ 4294967296) (zt : t.size ≤ 4294967296) (ks : o.knows s = true) (kt : o.knows t = true) (hs : IsT w s v) (ht : IsT w t u) :
    Calls Try.prog 39 #[v, u] w fun e w' => e = .returned (.tuple #[.bool (Od.covers t s s), .bool (Od.covers s t t)]) ∧ Below w.heap.size w w' := by
  have hmm := @run_makeMap Try.prog
  have hs0 := hs
  have ht0 := ht
  obtain ⟨_, a1, c1, rfl, _, _, _⟩ := hs.form
  obtain ⟨_, a2, c2, rfl, _, _, _⟩ := ht.form
  have HE := Lib.hid (fun b1 b2 h1 h2 => counted o (b1 := b1) (b2 := b2) hs ht ks kt h1 h2)
  have C1 := Lib.hid (fun W b Bn Bm Bw K N D F => counts1_any w s _ hs0 W b Bn Bm Bw K N D F)
  have C2 := Lib.hid (fun W b Bn Bm Bw K N D F => counts1_any w t _ ht0 W b Bn Bm Bw K N D F)
  clear hs ht hs0 ht0 ks kt
  go_enter Try.func39, Try.ntmps39
  go_wp2_with fail
  refine (C1.out _ 1 (w.heap.size + 1 + 1 + 1) (w.heap.size + 1 + 1) (w.heap.size + 1 + 1 + 1 + 1) 0 0 _ _ ?c1 (by omega) (by omega) (by omega) ?c2 ?c3 ?c4 mapF_nil (by simp) (by omega) (Nat.le_refl _) (.inl rfl)).mono ?_
  case c1 => exact bstep (balloc2 _ _ _) (bstep (balloc2 _ _ _) (balloc _ _))
  case c2 => exact (Box.new' (by simp)).alloc _
  case c3 => exact Box.new' (by simp)
  case c4 =>
    have := World.ownsMap_made ((w.alloc (.cells #[.int .i64 s.f, .slice a1 s.args.length c1] 27)).alloc (.cells #[.int .i64 t.f, .slice a2 t.args.length c2] 27)) Try.prog 3 (plainElem (H := Unit) Try.prog 3)
    simp only [World.size_alloc] at this
    exact (this.alloc _).alloc _
  rintro e w1 ⟨rfl, N1, D1, hN1, hown1, hMF1, hg1⟩
  have hb1 := gbelow (bstep (balloc2 w _ _) (bstep (balloc2 _ _ _) (balloc _ _))) hg1 (by omega)
  have X2 := ((((Box.new' (b := w.heap.size + 1) (vs := [.int .i64 t.f, .slice a2 t.args.length c2]) (t := 27) (w := w.alloc (.cells #[.int .i64 s.f, .slice a1 s.args.length c1] 27)) (by simp)).alloc _).alloc _).alloc _).grown hg1 (by omega)
  have X4 := ((Box.new' (b := w.heap.size + 1 + 1 + 1) (vs := [.map (some (w.heap.size + 1 + 1))]) (t := 78) (w := ((w.alloc (.cells #[.int .i64 s.f, .slice a1 s.args.length c1] 27)).alloc (.cells #[.int .i64 t.f, .slice a2 t.args.length c2] 27)).alloc (.map #[] 0)) (by simp)).alloc _).grown hg1 (by omega)
  have X5 := (Box.new' (b := w.heap.size + 1 + 1 + 1 + 1) (vs := [.func (.func 51) #[] #[.pointer (some ⟨w.heap.size + 1 + 1 + 1, 0, none⟩), .pointer (some ⟨w.heap.size + 1 + 1 + 1 + 1, 0, none⟩)]]) (t := 79) (w := (((w.alloc (.cells #[.int .i64 s.f, .slice a1 s.args.length c1] 27)).alloc (.cells #[.int .i64 t.f, .slice a2 t.args.length c2] 27)).alloc (.map #[] 0)).alloc (.cells #[.map (some (w.heap.size + 1 + 1))] 78)) (by simp)).grown hg1 (by omega)
  obtain ⟨x2, x3⟩ := X2.two
  have x4 := X4.one
  have x5 := X5.one
  have BF : ∀ v, -((s.size : Nat) : Int) ≤ addF (fun _ => 0) 1 s v ∧ addF (fun _ => 0) 1 s v ≤ (s.size : Nat) := by
    intro v
    have := (T.often_le v).1 s
    unfold addF
    dsimp only
    split <;> omega
  have Hhb1 := Lib.hid hb1
  have Hhown1 := Lib.hid hown1
  have HhMF1 := Lib.hid hMF1
  have HX4 := Lib.hid X4
  have HX5 := Lib.hid X5
  have HBF := Lib.hid BF
  clear hb1 hown1 hMF1 X4 X5 BF
  clear hg1 X2
  go_wp2_with fail
  refine (C2.out _ (-1) (w.heap.size + 1 + 1 + 1) (w.heap.size + 1 + 1) (w.heap.size + 1 + 1 + 1 + 1) s.size N1 D1 _ Hhb1.out (by omega) (by omega) (by omega) HX4.out HX5.out Hhown1.out HhMF1.out HBF.out (by omega) (by omega) (.inr rfl)).mono ?_
  rintro e w2 ⟨rfl, N2, D2, hN2, hown2, hMF2, hg2⟩
  have hb2 := gbelow Hhb1.out hg2 (by omega)
  have x6 := (HX4.out.grown hg2 (by omega)).one
  have hsz2 := hb2.size
  have Hhb2 := Lib.hid hb2
  have Hhown2 := Lib.hid hown2
  have HhMF2 := Lib.hid hMF2
  clear hb2 hown2 hMF2
  clear hg2 x2 x3 x4 x5
  go_wp2_with (first | (at_range; refine wpList_range_own _ rfl _ 78 rfl 3 3 lawInt Try.underlying78 _ (w.heap.size + 1 + 1) N2 D2 rfl Hhown2.out ?_; intro w3 hrg0 hg0 hs0))
  go_frame
  go_loopw [4, 5, 9] (fun l4 l5 _ wr => ∃ (left : Lit → Bool) (cnt : Nat) (b1 b2 : Bool), l4 = .bool b1 ∧ l5 = .bool b2 ∧ wr.ranges Try.prog 3 (plainElem Try.prog 3) (w.heap.size + 1 + 1) w2.heap.size N2 D2 left cnt ∧ LR (addF (addF (fun _ => 0) 1 s) (-1) t) D2 left b1 b2 ∧ Below w.heap.size w wr) (fun _ _ _ wr => wr.rangeLeft (w.heap.size + 1 + 1) w2.heap.size)
  case atStart => exact ⟨_, _, true, true, rfl, rfl, hrg0, LR.start _ _, Hhb2.out.grown hg0 hsz2 (fun k hk => by cases hk)⟩
  case round =>
    obtain ⟨left, cnt, b1, b2, rfl, rfl, hrg, hLR, hw⟩ := hrel
    clear hrg0 hg0 hs0
    have HLR := Lib.hid hLR
    have hwsz := hw.size
    have HW := Lib.hid hw
    clear hLR hw
    cases b1 <;> cases b2
    all_goals
      go_wp2_with (first | (at_next; refine wpList_next_ranges_ii _ rfl _ rfl 3 3 .i64 .i64 lawInt Try.underlying3 Try.underlying3 (w.heap.size + 1 + 1) w2.heap.size N2 _ _ _ rfl hrg ?_ ?_))
      · intro _ hl0
        obtain ⟨d1, d2⟩ := LR.done HLR.out HhMF2.out hl0
        obtain ⟨e1, e2⟩ := HE.out _ _ d1 d2
        have HE1 := Lib.hid e1
        have HE2 := Lib.hid e2
        clear hl0 d1 d2 e1 e2
        go_wp2_with fail
        go_ret2
        exact ⟨rbool2 HE1.out HE2.out, HW.out⟩
      · intro x c w4 cnt1 hwx hwc hlx hat hrg1 hlt hg1 hs1 hen
        have HS := Lib.hid (LR.step HLR.out HhMF2.out hwx hlx hat)
        have HW4 := Lib.hid (HW.out.grown hg1 hwsz (fun k hk => by cases hk; exact Nat.le_trans hsz2 (Nat.le_refl _)))
        clear hwx hwc hlx hat hg1 hs1
        go_wp2_with fail
        all_goals
          go_roundw
          case rel => exact ⟨_, cnt1, _, _, rfl, rfl, hrg1, by simpa using HS.out, HW4.out⟩
          case measure => rw [hrg1.left_eq, hrg.left_eq]; exact hlt

end Go.Proofs.Ytjkpecjlpgcalaa
