/- The lexicographic path order of the program: the walks of its parts. -/
import Derived.Test.YtnokgjajcnhkkaaCNMc
import Derived.Test.YtnokgjajcnhkkaaCNMa
import Derived.Sort.OwnSortedInts

/- The library's Sort, Compact and Contains over rows of the call's own. -/
namespace Go.Proofs.Ytnokgjajcnhkkaa
open Go.RowKit Go.Sort Go.Shelf Go
theorem compact_sub (d : Array Int) (m : Nat) (x : Int) (h : x ∈ Lib.compactUpTo d m) : ∃ j, j < m ∧ d[j]! = x := by
  unfold Lib.compactUpTo at h
  simp only [List.mem_map, List.mem_filter, List.mem_range] at h
  obtain ⟨j, ⟨h1, _⟩, h2⟩ := h
  exact ⟨j, h1, h2⟩
theorem compact_sup (d : Array Int) (m : Nat) : ∀ j, j < m → d[j]! ∈ Lib.compactUpTo d m := by
  intro j
  induction j using Nat.strongRecOn with
  | ind j ih =>
    intro hj
    unfold Lib.compactUpTo
    simp only [List.mem_map, List.mem_filter, List.mem_range]
    by_cases hk : Lib.keeps d j = true
    · exact ⟨j, ⟨hj, hk⟩, rfl⟩
    · have h0 : j ≠ 0 := by rintro rfl; exact hk (Lib.keeps_lt_one d 0 (by omega))
      have he : d[j]! = d[j - 1]! := by
        unfold Lib.keeps at hk
        simp only [decide_eq_true_eq, ne_eq] at hk
        by_cases e : d[j]! = d[j - 1]!
        · exact e
        · exact absurd (by first | exact .inr e | exact .inr (fun h => e h.symm) | exact .inr (Ne.symm e)) hk
      have := ih (j - 1) (by omega) (by omega)
      unfold Lib.compactUpTo at this
      simp only [List.mem_map, List.mem_filter, List.mem_range] at this
      rw [he]; exact this
theorem compact_mem (l : List Int) (x : Int) : x ∈ Lib.compact l ↔ x ∈ l := by
  unfold Lib.compact
  have e : ∀ j, j < l.length → l.toArray[j]! = l[j]! := fun j hj => by simp
  constructor
  · intro h
    obtain ⟨j, hj, rfl⟩ := compact_sub _ _ _ h
    rw [e j hj, getElem!_pos l j hj]; exact List.getElem_mem hj
  · intro h
    obtain ⟨j, hj, rfl⟩ := List.getElem_of_mem h
    have := compact_sup l.toArray l.length j hj
    rwa [e j hj, getElem!_pos l j hj] at this
theorem compact_le (l : List Int) : (Lib.compact l).length ≤ l.length := by
  unfold Lib.compact Lib.compactUpTo
  rw [List.length_map]
  exact Nat.le_trans (List.length_filter_le _ _) (by simp)
section
variable {w : World} {S : Nat → Prop} {ra : Option Addr} {rc n : Nat} {L : List Int}
theorem holds_own {g : Nat} (h : w.ownsRow 0 3 1 (.slice (some ⟨g, 0, none⟩) n rc) n (L.map (Value.int .i64))) : Holds (Value.int .i64) w g 0 L.toArray := by
  rcases h.2 with ⟨e, _⟩ | ⟨g', cap, cur, e, _, hb, hc, hm, hs, hx⟩
  · cases e
  · cases e
    have hl : L.length = n := by have := h.1; simpa using this
    intro j hj
    have hj' : j < L.length := by simpa using hj
    have hx' := congrArg (fun l => l[j]?) hx
    simp only [Nat.mul_one, List.getElem?_map] at hx'
    rw [List.getElem?_take_of_lt (by omega), Array.getElem?_toList, List.getElem?_eq_getElem hj'] at hx'
    refine ⟨?_, ?_⟩
    · simp only [World.cell?, hb, Nat.zero_add]
      simp [hx', hj']
    · simp [World.frozen?, hb]
theorem sort_own (h : Own w S 3 1 ra rc n (L.map (Value.int .i64))) (hz : n ≤ 4294967296) :
    Calls Try.prog 75 #[.slice ra n rc] w (Ret fun v' w' => ∃ L' : List Int, v' = .tuple #[] ∧ (∀ x, x ∈ L' ↔ x ∈ L) ∧ Own w' S 3 1 ra rc n (L'.map (Value.int .i64)) ∧ Chg S w w') := by
  have hl : L.length = n := by have := h.1.1; simpa using this
  have h0 := h
  rcases h.1.2 with ⟨e, h0⟩ | ⟨g, cap, cur, e, h1, hb, hc, hm, hs, hx⟩
  · simp only [Value.slice.injEq] at e
    obtain ⟨rfl, rfl, rfl⟩ := e
    refine (AnyM.slices_Sort_int_none Try.lSort none 0 w).mono ?_
    rintro e w' ⟨rfl, rfl⟩
    exact ⟨_, rfl, L, rfl, fun _ => Iff.rfl, h, .refl _ _⟩
  · simp only [Value.slice.injEq, true_and] at e
    obtain ⟨rfl, rfl⟩ := e
    subst hl
    have hg : g < w.heap.size := (Array.getElem?_eq_some_iff.1 hb).1
    refine (AnyM.slices_Sort_int Try.lSort g 0 rc L w (holds_own h.1) hg (by omega)).mono ?_
    rintro e w' ⟨rfl, m, os, rfl⟩
    have hS : S g := h.2 g rfl
    have hL : (L.mergeSort fun x y => decide (x ≤ y)).length = L.length := by simp
    refine ⟨_, rfl, L.mergeSort fun x y => decide (x ≤ y), rfl, fun x => List.mem_mergeSort, ⟨ownsRow_sortedI hL h1 hb hc hm hs, h.2⟩, ?_⟩
    have hG := grownBy_sortedI (w := w) (g := g) (n := m) (os := os) (L.mergeSort fun x y => decide (x ≤ y)).toArray
    exact ⟨hG.os, hG.tape, hG.output, hG.size, fun k hk hn => hG.block k hk (fun e => hn (Option.some.inj e ▸ hS))⟩
theorem compact_own (h : Own w S 3 1 ra rc n (L.map (Value.int .i64))) (hz : n ≤ 4294967296) (hw : ∀ x ∈ L, I64 x) :
    Calls Try.prog 76 #[.slice ra n rc] w (Ret fun v' w' => ∃ (l : List Int) (a : Option Addr) (c : Nat), v' = .slice a l.length c ∧ l.length ≤ c ∧ c ≤ maxLen ∧ IsInts w' l a ∧ (∀ x, x ∈ l ↔ x ∈ L) ∧ Chg S w w') := by
  have hl : L.length = n := by have := h.1.1; simpa using this
  rcases h.1.2 with ⟨e, h0⟩ | ⟨g, cap, cur, e, h1, hb, hc, hm, hs, hx⟩
  · simp only [Value.slice.injEq] at e
    obtain ⟨rfl, rfl, rfl⟩ := e
    refine (Any.slices_Compact_int_empty Try.lCompact none 0 w).mono ?_
    rintro e w' ⟨rfl, rfl⟩
    obtain rfl : L = [] := List.length_eq_zero_iff.1 hl
    exact ⟨_, rfl, [], none, 0, rfl, Nat.le_refl _, Nat.zero_le _, fun k hk => by simp at hk, fun _ => Iff.rfl, .refl _ _⟩
  · simp only [Value.slice.injEq, true_and] at e
    obtain ⟨rfl, rfl⟩ := e
    subst hl
    refine (Any.slices_Compact_int Try.lCompact g 0 rc L w (holds_own h.1) (by omega) hc).mono ?_
    rintro e w' ⟨rfl, m, rfl⟩
    have hle := compact_le L
    have hS : S g := h.2 g rfl
    have hlen : (Lib.compact L ++ List.replicate (L.length - (Lib.compact L).length) (0 : Int)).length = L.length := by simp; omega
    have hG := grownBy_sortedI (w := w) (g := g) (n := m) (os := #[]) (Lib.compact L ++ List.replicate (L.length - (Lib.compact L).length) 0).toArray
    have hO := ownsRow_sortedI (w := w) (n := m) (os := #[]) hlen h1 hb hc hm hs
    rw [grow_empty] at hG hO
    have hH := holds_own hO
    refine ⟨_, rfl, Lib.compact L, _, rc, rfl, by omega, hm, fun k hk => ⟨g, 0, [.int .i64 (Lib.compact L)[k]], rfl, rfl, fun j hj => ?_, rfl, hw _ ((compact_mem L _).1 (List.getElem_mem hk))⟩, fun x => compact_mem L x, ⟨hG.os, hG.tape, hG.output, hG.size, fun k hk hn => hG.block k hk (fun e => hn (Option.some.inj e ▸ hS))⟩⟩
    obtain rfl : j = 0 := by omega
    have := (hH k (by simp; omega)).1
    simp only [Nat.zero_add, Nat.mul_one, Nat.add_zero, List.getElem?_cons_zero] at this ⊢
    rw [this]
    simp [hk, List.getElem?_append_left hk]
theorem contains_any (l : List Int) (x : Int) (w : World) (a : Option Addr) (c : Nat) (hc : l.length ≤ c) (hm : c ≤ maxLen) (hl : IsInts w l a) :
    Calls Try.prog 27 #[.slice a l.length c, .int .i64 x] w (Ret fun v' w' => v' = .bool (decide (x ∈ l)) ∧ Below w.heap.size w w') := by
  unfold maxLen at hm
  rcases Nat.eq_zero_or_pos l.length with h0 | h0
  · obtain rfl : l = [] := List.length_eq_zero_iff.1 h0
    refine (Any.slices_Contains_int_empty Try.lContains a c x w).mono ?_
    rintro e w' ⟨rfl, rfl⟩
    exact ⟨_, rfl, by simp, Below.refl _ _⟩
  · obtain ⟨b, o, ha, hcell⟩ := hl.open
    obtain rfl := ha 0 h0
    refine (Any.slices_Contains_int Try.lContains b o l.length c l x w (Nat.le_refl _) (by omega) (fun j hj => hcell j hj)).mono ?_
    rintro e w' ⟨rfl, rfl⟩
    exact ⟨_, rfl, by rw [List.take_length]; simp, Below.refl _ _⟩
end
end Go.Proofs.Ytnokgjajcnhkkaa

/- The variables of a term, sorted and each but once: the walk. -/
namespace Go.Proofs.Ytnokgjajcnhkkaa
open Go.RowKit Go
set_option linter.unusedVariables false
set_option linter.unusedSimpArgs false
mutual
theorem varsT_i64 {w : World} : ∀ (t : T) (v : Value), IsT w t v → ∀ x ∈ varsT t, I64 x
 | .mk f l, v, ⟨hf, a, c, _, _, _, hl⟩, x, hx => by
  rw [varsT, List.mem_append] at hx
  rcases hx with hx | hx
  ·unfold newsF at hx
   split at hx
   ·obtain rfl : x = -1 - f := by simpa using hx
    unfold I64 at *; omega
   ·simp at hx
  ·exact varsTL_i64 l a 0 hl x hx
theorem varsTL_i64 {w : World} : ∀ (l : List T) (a : Option Addr) (i : Nat), IsTs w l a i → ∀ x ∈ varsTL l, I64 x
 | [], _, _, _, x, hx => by simp [varsTL] at hx
 | t :: r, a, i, ⟨⟨_, _, _, _, _, _, _, h1⟩, h2⟩, x, hx => by
  rw [varsTL, List.mem_append] at hx
  rcases hx with hx | hx
  ·exact varsT_i64 t _ h1 x hx
  ·exact varsTL_i64 r a (i + 1) h2 x hx
end
set_option maxRecDepth 100000 in
theorem vars_any (t : T) (w : World) (v : Value) (hz : t.size ≤ 4294967296) (hv : IsT w t v) :
  Calls Try.prog 70 #[v] w (Ret fun v' w' => ∃ (l : List Int) (a : Option Addr) (c : Nat), v' = .slice a l.length c ∧ l.length ≤ c ∧ c ≤ maxLen ∧ IsInts w' l a ∧ (∀ x, x ∈ l ↔ x ∈ varsT t) ∧ Below w.heap.size w w') := by
 have hvt := hv
 have hI := varsT_i64 t v hv
 have hle := varsT_le t
 obtain ⟨hf, a, c, rfl, hc, hm, hl⟩ := hv.form
 refine Calls.walk (l := [.agg #[.int .i64 t.f, .slice a t.args.length c]]) Try.func70 rfl (by kernel_rfl) ?_
 refine WC.sub (K' := [(0, .agg #[.int .i64 t.f, .slice a t.args.length c])]) ⟨rfl, trivial⟩ ?_
 refine WC.seq (WC.region ?_)
 refine WL.step (post := NewBlk w 34 #[.int .i64 t.f, .slice a t.args.length c]) rfl rfl rfl (fun za zC zh zk => box_34 rfl (zh.ev rfl) (zk _ _ (newBlk _ _ _))) ?_
 rintro _ w1 ⟨g2, rfl, hg3, hB4, hb5, hz6⟩
 have hl7 : w.heap.size ≤ g2 := by omega
 refine WL.asg rfl rfl rfl rfl rfl (WL.nil (WE.next (WC.seq (WC.region ?_))))
 refine WL.step (post := NewBlk w1 22 #[.slice none 0 0]) rfl rfl rfl (fun za zC zh zk => alloc_22 rfl (zk _ _ (newBlk _ _ _))) ?_
 rintro _ w8 ⟨g9, rfl, hg10, hB11, hb12, hz13⟩
 have hl14 : g2 < g9 := by have z1 := hB4.lt; omega
 have hl15 : w.heap.size ≤ g9 := by have z2 := (hb5).size; omega
 have hl16 : w1.heap.size ≤ g9 := by omega
 refine WL.nil (WE.next (WC.seq (WC.region ?_)))
 refine WL.val (.func (Fn.func 74) #[] #[.pointer (some ⟨g9, 0, none⟩)]) rfl rfl rfl (fun za zC zh zk => mkfn rfl (hv0) (hv1 (zh.ev rfl)) zk) ?_
 have hg24 : w1.heap.size ≤ g9 := by omega
 have hw25 : w.heap.size ≤ w8.heap.size := (Nat.le_trans hb5.size hb12.size)
 refine WL.call rfl rfl rfl (fun za zh zC => wp_call (by kernel_rfl) rfl (hv2 (zh.ev rfl) (zh.ev rfl))) (each_any t w1 _ g2 0 g9 w8.heap.size a c [] none 0 0 hb12 (hB4.cell 0) (hB4.cell 1) (hvt.below hb5) hB11 own_nil (Nat.le_refl _) hg24 hb12.size (by simpa using hz)) ?_
 rintro _ w26 ⟨rfl, ⟨ra217, rc218, n219, hB220, hO221, hC22⟩⟩
 have hb27 : Below w.heap.size w w8 := (bstep hb5 hb12)
 have hB28 := hB4.below hb12
 have hb29 := chg_below hb27 hC22 (fun b hb => (by (try dsimp only at *); omega))
 have hb30 := chg_below hb12 hC22 (fun b hb => (by (try dsimp only at *); omega))
 have hB31 := chg_blk hB28 hC22 (by (try dsimp only at *); omega)
 obtain rfl := ownI_len hO221
 have hbs223 : w8.heap.size ≤ w26.heap.size := hC22.size
 refine WL.nil (WE.next (WC.seq (WC.region ?_)))
 refine WL.val _ rfl rfl rfl (fun za zC zh zk => ld_22 rfl (zh.ev rfl) ((hB220.cell 0).trans rfl) zk) ?_
 refine WL.call rfl rfl rfl (fun za zh zC => wp_call (by kernel_rfl) rfl (hv1 (zh.ev rfl))) (sort_own hO221 (by simpa using Nat.le_trans hle hz)) ?_
 rintro _ w37 ⟨L32, rfl, hm33, hO34, hC35⟩
 have hb38 := chg_below hb29 hC35 (fun b hb => (by (try dsimp only at *); omega))
 have hb39 := chg_below hb30 hC35 (fun b hb => (by (try dsimp only at *); omega))
 have hB40 := chg_blk hB31 hC35 (by (try dsimp only at *); omega)
 have hB41 := chg_blk hB220 hC35 (by (try dsimp only at *); omega)
 have hb36 : w8.heap.size ≤ w37.heap.size := Nat.le_trans hbs223 hC35.size
 refine WL.nil (WE.next (WC.seq (WC.region ?_)))
 refine WL.val _ rfl rfl rfl (fun za zC zh zk => ld_22 rfl (zh.ev rfl) ((hB41.cell 0).trans rfl) zk) ?_
 refine WL.call rfl rfl rfl (fun za zh zC => wp_call (by kernel_rfl) rfl (hv1 (zh.ev rfl))) (compact_own hO34 (by simpa using Nat.le_trans hle hz) (fun x hx => hI x (by have := (hm33 x).1 hx; simpa using this))) ?_
 rintro _ w43 ⟨l2, a2, c2, rfl, q1, q2, q3, q4, hC42⟩
 have hb44 := chg_below hb38 hC42 (fun b hb => (by (try dsimp only at *); omega))
 have hb45 := chg_below hb39 hC42 (fun b hb => (by (try dsimp only at *); omega))
 have hB46 := chg_blk hB40 hC42 (by (try dsimp only at *); omega)
 have hB47 := chg_blk hB41 hC42 (by (try dsimp only at *); omega)
 refine WL.asg rfl rfl rfl rfl rfl (WL.nil (WE.next (WC.ret (WE.ret1 rfl rfl ?_))))
 exact ⟨_, rfl, l2, a2, c2, rfl, q1, q2, q3, (fun x => by rw [q4, hm33]; simp), hb44⟩
end Go.Proofs.Ytnokgjajcnhkkaa

/- Terms that are the same: the program's way. -/
namespace Go.Proofs.Ytnokgjajcnhkkaa
open Go.RowKit Go.Sort Go
theorem T.sameL_len : ∀ (l q : List T), l.length ≠ q.length → T.sameL l q = false
  | [], [], h => absurd rfl h
  | _ :: r, _ :: q, h => by rw [T.sameL, T.sameL_len r q (by simpa using h), Bool.and_false]
  | [], _ :: _, _ => rfl
  | _ :: _, [], _ => rfl
theorem T.sameL_drop (l q : List T) (k : Nat) (h : k < l.length) (h' : k < q.length) : T.sameL (l.drop k) (q.drop k) = (T.same l[k] q[k] && T.sameL (l.drop (k + 1)) (q.drop (k + 1))) := by
  rw [List.drop_eq_getElem_cons h, List.drop_eq_getElem_cons h', T.sameL]
theorem T.sameL_end (l q : List T) (h : l.length = q.length) : T.sameL (l.drop l.length) (q.drop l.length) = true := by
  rw [List.drop_eq_nil_of_le (Nat.le_refl _), List.drop_eq_nil_of_le (by omega), T.sameL]
theorem equalFunc_any (l q : List T) (ih : ∀ a ∈ l, ∀ (t : T) (w : World) (v u : Value), IsT w a v → IsT w t u →
      Calls Try.prog 53 #[v, u] w fun e w' => e = .returned (.bool (T.same a t)) ∧ Below w.heap.size w w')
    (w : World) (a a' : Option Addr) (c c' : Nat) (hc : l.length ≤ c) (_hc' : q.length ≤ c') (hm : c ≤ maxLen) (_hm' : c' ≤ maxLen) (hl : IsTs w l a 0) (hq : IsTs w q a' 0) :
    Calls Try.prog 57 #[.slice a l.length c, .slice a' q.length c', .func (.func 53) #[] #[]] w fun e w' => e = .returned (.bool (T.sameL l q)) ∧ Below w.heap.size w w' := by
  unfold maxLen at hm
  by_cases hlen : l.length = q.length
  · have hne : ((l.length : Int) != (q.length : Int)) = false := by simp [hlen]
    have HL := Lib.hid hlen
    go_enter Try.func57, Try.ntmps57
    clear hlen
    go_wp2_with fail
    go_loopw [17] (fun i wr => ∃ (k : Nat), k ≤ l.length ∧ i = .int .i64 k ∧ Hid (T.sameL l q = T.sameL (l.drop k) (q.drop k)) ∧ Below w.heap.size w wr) (fun i _ => l.length - (intOf i).toNat)
    case atStart => exact ⟨0, Nat.zero_le _, rfl, rfl, Below.refl _ _⟩
    case round =>
      obtain ⟨k, hk, rfl, hx, hw⟩ := hrel
      by_cases hlt : k < l.length
      · have hlq : k < q.length := by have := HL.out; omega
        obtain ⟨b1, o1, a1, c1, rfl, g1, g2, h3⟩ := hl.at_ hw k hlt
        obtain ⟨b2, o2, a2, c2, rfl, g3, g4, h4⟩ := hq.at_ hw k hlq
        have IH := fun w v u => ih l[k] (List.getElem_mem hlt) q[k] w v u
        have q5 := T.sameL_drop l q k hlt hlq
        have g3 := calloc g3
        have g4 := calloc g4
        cases hz : T.same l[k] q[k] with
        | true =>
          rw [hz] at IH
          have Hh3 := Lib.hid h3
          have Hh4 := Lib.hid h4
          have Hhw := Lib.hid hw
          have Hq5 := Lib.hid q5
          have Hhx := Lib.hid hx
          have Hhz := Lib.hid hz
          clear h3 h4 hw q5 hx hz
          clear ih hl hq
          go_wp2_with (go_at_call 53; refine (IH _ _ _ (Hh3.out.below (balloc2 _ _ _)) (Hh4.out.below (balloc2 _ _ _))).mono ?_; rintro e w' ⟨rfl, hb'⟩)
          go_roundw
          case rel => exact ⟨k + 1, by omega, by go_num, by unfold Hid; rw [Hhx.out, Hq5.out, Hhz.out, Bool.true_and], bstep (bstep Hhw.out (balloc2 _ _ _)) hb'⟩
          case measure => simp [intOf]; omega
        | false =>
          rw [hz] at IH
          have Hh3 := Lib.hid h3
          have Hh4 := Lib.hid h4
          have Hhw := Lib.hid hw
          have Hq5 := Lib.hid q5
          have Hhx := Lib.hid hx
          have Hhz := Lib.hid hz
          clear h3 h4 hw q5 hx hz
          clear ih hl hq
          go_wp2_with (go_at_call 53; refine (IH _ _ _ (Hh3.out.below (balloc2 _ _ _)) (Hh4.out.below (balloc2 _ _ _))).mono ?_; rintro e w' ⟨rfl, hb'⟩)
          go_ret
          exact ⟨rbool (by rw [Hhx.out, Hq5.out, Hhz.out, Bool.false_and]), bstep (bstep Hhw.out (balloc2 _ _ _)) hb'⟩
      · obtain rfl : k = l.length := by omega
        have Q := Lib.hid (T.sameL_end l q HL.out)
        have Hhw := Lib.hid hw
        have Hhx := Lib.hid hx
        clear hw hx
        clear ih hl hq
        go_wp2_with fail
        go_ret
        exact ⟨rbool (by rw [Hhx.out, Q.out]), Hhw.out⟩
  · have hne : ((l.length : Int) != (q.length : Int)) = true := by simpa using fun h => hlen (by omega)
    have E := Lib.hid (T.sameL_len l q hlen)
    clear ih hl hq hlen
    go_enter Try.func57, Try.ntmps57
    go_wp2_with fail
    go_ret
    exact ⟨rbool E.out, Below.refl _ _⟩
theorem same_any (s : T) : ∀ (t : T) (w : World) (v u : Value), IsT w s v → IsT w t u →
    Calls Try.prog 53 #[v, u] w fun e w' => e = .returned (.bool (T.same s t)) ∧ Below w.heap.size w w' := by
  induction s using T.ind with
  | h f l ih =>
  intro t w v u hv hu
  obtain ⟨g, q⟩ := t
  obtain ⟨_, a, c, rfl, hc, hm, hl⟩ := hv
  obtain ⟨_, a', c', rfl, hc', hm', hq⟩ := hu
  have EF := fun (w' : World) hb => equalFunc_any l q ih w' a a' c c' hc hc' hm hm' (IsTs.below (w := w) (w' := w') hb hl) (hq.below hb)
  clear ih hl hq
  by_cases hfg : f = g
  · have hne : (f == g) = true := by simpa using hfg
    have E := Lib.hid (show T.same (.mk f l) (.mk g q) = T.sameL l q by rw [T.same, hne, Bool.true_and])
    subst hfg
    go_enter Try.func53, Try.ntmps53
    go_wp2_with (go_at_call 57; refine (EF _ (balloc2 _ _ _)).mono ?_; rintro e w' ⟨rfl, hb'⟩)
    go_ret
    exact ⟨rbool E.out, bstep (balloc2 _ _ _) hb'⟩
  · have hne : (f == g) = false := by simpa using hfg
    have E := Lib.hid (show T.same (.mk f l) (.mk g q) = false by rw [T.same, hne, Bool.false_and])
    clear hfg
    go_enter Try.func53, Try.ntmps53
    go_wp2_with fail
    go_ret
    exact ⟨rbool E.out, balloc2 _ _ _⟩
end Go.Proofs.Ytnokgjajcnhkkaa

namespace Go.Proofs.Ytnokgjajcnhkkaa
open Go.RowKit Go
set_option linter.unusedVariables false
set_option linter.unusedSimpArgs false
theorem lstep_all {o : Od} {s : T} {l : List T} {k : Nat} (h : k < l.length) {u : T} (hu : u = tget l k) (hall : (l.take k).all (o.lg s) = true) (hx : o.lg s u = true) : (l.take (k + 1)).all (o.lg s) = true := by
 rw [all_take_t _ _ _ h, hall, ← hu, hx]; rfl
theorem all_no {o : Od} {s : T} {l : List T} {k : Nat} (h : k < l.length) {u : T} (hu : u = tget l k) (hx : ¬ o.lg s u = true) : false = l.all (o.lg s) := by
 have : l.all (o.lg s) = false := by rw [List.all_eq_false]; exact ⟨tget l k, tget_mem h, hu ▸ hx⟩
 exact this.symm
theorem all_yes {o : Od} {s : T} {l : List T} {k : Nat} (h : ¬ k < l.length) (hall : (l.take k).all (o.lg s) = true) : true = l.all (o.lg s) := by
 rw [List.take_of_length_le (by omega)] at hall; exact hall.symm
theorem any_step {p : T → Bool} {l : List T} {k : Nat} (h : k < l.length) (hall : (l.take k).any p = false) (hx : p (tget l k) = false) : (l.take (k + 1)).any p = false := by
 rw [any_take_t _ _ _ h, hall, hx]; rfl
theorem any_hit {p : T → Bool} {l : List T} {k : Nat} (h : k < l.length) (hx : p (tget l k) = true) : l.any p = true := List.any_eq_true.2 ⟨_, tget_mem h, hx⟩
theorem lex_same {R : T → T → Bool} {l q : List T} {k : Nat} (h : k < l.length) (h' : k < q.length) (hx : T.same (tget l k) (tget q k) = true) : lexR R (l.drop k) (q.drop k) = lexR R (l.drop (k + 1)) (q.drop (k + 1)) := by
 rw [List.drop_eq_getElem_cons h, List.drop_eq_getElem_cons h', lexR, ← tget_lt h, ← tget_lt h', if_pos hx]
theorem lex_no {f g : Int} {A B : Bool} (h : ¬ f = g ∨ ¬ (A = true)) : false = ((decide (f = g) && A) && B) := by
 rcases h with h | h <;> simp [h]
theorem lex_yes {f g : Int} {A : Bool} (h : f = g ∧ A = true) : (decide (f = g) && A) = true := by simp [h.1, h.2]
theorem lex_hit {c : Bool} {R : T → T → Bool} {l q : List T} {k : Nat} {u v : T} (hc : c = true) (hlex : lexR R l q = lexR R (l.drop k) (q.drop k)) (h : k < l.length) (h' : k < q.length) (hx : T.same (tget l k) (tget q k) = false) (hu : u = tget l k) (hv : v = tget q k) : R u v = (c && lexR R l q) := by
 rw [hc, hlex, List.drop_eq_getElem_cons h, List.drop_eq_getElem_cons h', lexR, ← tget_lt h, ← tget_lt h', if_neg (by rw [hx]; decide), hu, hv]; rfl
theorem lex_end {c : Bool} {R : T → T → Bool} {l q : List T} {k m n : Nat} (hc : c = true) (hlex : lexR R l q = lexR R (l.drop k) (q.drop k)) (hm : m = l.length) (hn : n = q.length) (h : k = min l.length q.length) : decide ((n : Int) < (m : Int)) = (c && lexR R l q) := by
 subst hm hn
 rw [hc, hlex, Bool.true_and]
 by_cases h1 : k < l.length
 ·have h2 : q.length ≤ k := by omega
  rw [List.drop_eq_getElem_cons h1, List.drop_of_length_le h2, lexR]; simp; omega
 ·rw [List.drop_of_length_le (by omega), lexR]; simp; omega
theorem size_child {t : T} {k : Nat} (h : k < t.args.length) : (tget t.args k).size < t.size := by
 have h1 := T.size_le_sizeL (tget_mem h)
 have h2 := T.size_eq t
 omega
set_option maxRecDepth 100000 in
theorem lall_any (o : Od) (L1 L2 : List Nd) (q : LpoQ) (w0 : World) (n : Nat) (hH : LpoH o L1 L2) (hA : AboveOK o L1 L2 q w0 n) (i k : Nat) (w : World) (hi : i < L1.length) (hk : k < L2.length) (hz : (ndget L1 i).t.size + (ndget L2 k).t.size ≤ n + 1) (hst : LpoSt o L1 L2 q w0 w) :
  Calls Try.prog 71 #[.pointer (some ⟨q.gw, 0, none⟩), .int .i64 (i : Int), .int .i64 (k : Int)] w (Ret fun v' w' => v' = .bool ((ndget L2 k).t.args.all (o.lg (ndget L1 i).t)) ∧ LpoSt o L1 L2 q w0 w' ∧ Chg (fun b => b = q.gm) w w') := by
 have hg2 := (hH.g2 k hk).1
 have hz2 := hH.z2 k hk
 have ha2 := args_le (ndget L2 k).t
 have hst0 := hst
 obtain ⟨hl1, hl2, hl3, hl4⟩ := hst.glt
 have hgm := hst.hgm
 refine Calls.walk (l := [.pointer (some ⟨q.gw, 0, none⟩), .int .i64 (((i : Nat) : Int)), .int .i64 (((k : Nat) : Int))]) Try.func71 rfl (by kernel_rfl) ?_
 refine WC.sub (K' := [(0, .pointer (some ⟨q.gw, 0, none⟩)), (1, .int .i64 (((i : Nat) : Int))), (2, .int .i64 (((k : Nat) : Int)))]) ⟨rfl, rfl, rfl, trivial⟩ ?_
 refine WC.seq (WC.region (WL.asg rfl rfl rfl rfl rfl (WL.nil (WE.next (WC.seq (WC.region (WL.mv rfl rfl rfl rfl rfl ?_)))))))
 refine WL.val (.func (Fn.func 59) #[.pointer (some ⟨q.gw, 0, none⟩)] #[]) rfl rfl rfl (fun za zC zh zk => mkfn rfl (hv1 (zh.ev rfl)) (hv0) zk) ?_
 refine WL.asg rfl rfl rfl rfl rfl (WL.nil (WE.next (WC.seq (WC.seq (WC.region (WL.mv rfl rfl rfl rfl rfl ?_))))))
 refine WL.val _ rfl rfl rfl (fun za zC zh zk => nilCheck_ rfl (zh.ev rfl) zk) ?_
 refine WL.val _ rfl rfl rfl (fun za zC zh zk => fld_87_2 rfl (zh.ev rfl) zk) ?_
 refine WL.val _ rfl rfl rfl (fun za zC zh zk => ld_83 rfl (zh.ev rfl) ((hst.blk.cell 5).trans rfl) zk) ?_
 refine WL.mv rfl rfl rfl rfl rfl ?_
 refine WL.val _ rfl rfl rfl (fun za zC zh zk => ix_83 (k := k) rfl (zh.ev rfl) rfl (zh.ev rfl) (by first | omega | (simp; omega)) zk) ?_
 refine WL.val _ rfl rfl rfl (fun za zC zh zk => fld_92_1 rfl (zh.ev rfl) zk) ?_
 refine WL.val _ rfl rfl rfl (fun za zC zh zk => ld_22 rfl (zh.ev rfl) (hst.n2.c2 k (by first | omega | (simp; omega))) zk) ?_
 refine WL.val (.int .i64 ((((ndget L2 k).args.length : Nat) : Int))) rfl rfl rfl (fun za zC zh zk => len_22 rfl (zh.ev rfl) zk) ?_
 refine WL.mv rfl rfl rfl rfl rfl (WL.nil (WE.next (WC.block ?_)))
 refine WC.loop (X := Nat) (fun j => (ndget L2 k).args.length - j) (fun j => [(0, .pointer (some ⟨q.gw, 0, none⟩)), (1, .int .i64 (((i : Nat) : Int))), (2, .int .i64 (((k : Nat) : Int))), (7, .func (Fn.func 59) #[.pointer (some ⟨q.gw, 0, none⟩)] #[]), (19, .slice ((q.X2 k)) ((ndget L2 k).args.length) ((q.Z2 k))), (20, .int .i64 ((((ndget L2 k).args.length : Nat) : Int))), (21, .int .i64 (((j : Nat) : Int)))]) (fun j w1 => j ≤ (ndget L2 k).args.length ∧ ((ndget L2 k).t.args.take j).all (o.lg (ndget L1 i).t) = true ∧ LpoSt o L1 L2 q w0 w1 ∧ Below w0.heap.size w0 w1 ∧ Blk w1 q.gw 87 #[.bool o.lpo, .slice q.p1 o.prec.length q.k1, .slice q.p2 o.weights.length q.k2, .int .i64 o.var, .slice ((some ⟨q.b1, 0, none⟩)) L1.length q.r1, .slice ((some ⟨q.b2, 0, none⟩)) L2.length q.r2, .map ((some q.gm))] ∧ Chg ((fun b => b = q.gm)) w w1) 0 ⟨rfl, rfl, rfl, rfl, rfl, rfl, rfl, trivial⟩ ?_ ?_
 ·have hs2 : Chg ((fun b => b = q.gm)) w w := (Chg.refl ((fun b => b = q.gm)) _)
  exact ⟨Nat.zero_le _, rfl, hst, hst.below, hst.blk, hs2⟩
 ·rintro j w1 ⟨hj, hall, hstl, hb3, hB4, hc5⟩
  obtain ⟨hl6, hl7, hl8, hl9⟩ := hstl.glt
  refine WC.seq (WC.region ?_)
  refine WL.val (.bool ((decide ((((j : Nat) : Int) : Int) < ((((ndget L2 k).args.length : Nat) : Int) : Int))))) rfl rfl rfl (fun za zC zh zk => lss_3 rfl (zh.ev rfl) (zh.ev rfl) zk) ?_
  refine WL.nil (WE.next (WC.seq ?_))
  refine WC.cond rfl (fun h10 => ?_) (fun h10 => ?_)
  ·have h10 : (((j : Nat) : Int) : Int) < ((((ndget L2 k).args.length : Nat) : Int) : Int) := by simpa using h10
   refine WC.skip (WE.next (WC.seq (WC.block (WC.seq (WC.region ?_)))))
   refine WL.val _ rfl rfl rfl (fun za zC zh zk => ix_22 (k := j) rfl (zh.ev rfl) (hst0.n2.x k j (by omega) (by first | omega | (simp; omega))).1 (zh.ev rfl) (by first | omega | (simp; omega)) zk) ?_
   refine WL.val _ rfl rfl rfl (fun za zC zh zk => ld_3 rfl (zh.ev rfl) (hstl.n2.x k j (by omega) (by first | omega | (simp; omega))).2 zk) ?_
   refine WL.asg rfl rfl rfl rfl rfl (WL.nil (WE.next (WC.seq (WC.region (WL.mv rfl rfl rfl rfl rfl (WL.mv rfl rfl rfl rfl rfl (WL.mv rfl rfl rfl rfl rfl ?_)))))))
   have hch := nd_child (hH.g2 k hk) (j := j) (by omega)
   have hcs := size_child (t := (ndget L2 k).t) (k := j) (by omega)
   have hce := congrArg T.size hch.2
   refine WL.call rfl rfl rfl (fun za zh zC => wp_callv (by kernel_rfl) rfl (zh.ev rfl) (hv2 (zh.ev rfl) (zh.ev rfl))) (hA i (((ndget L2 k).args.getD j 0)) _ (by omega) (by omega) (by omega) hstl) ?_
   rintro _ w13 ⟨rfl, hst11, hc12⟩
   have hl14 := hB4.lt
   have hb15 := chg_below hb3 hc12 (fun b hb => (by (try dsimp only at *); omega))
   have hB16 := chg_blk hB4 hc12 (by (try dsimp only at *); omega)
   obtain ⟨hl17, hl18, hl19, hl20⟩ := hst11.glt
   refine WL.val (.bool ((!(o.lg (ndget L1 i).t (ndget L2 (((ndget L2 k).args.getD j 0))).t)))) rfl rfl rfl (fun za zC zh zk => wp_not rfl (zh.ev rfl) zk) ?_
   refine WL.nil (WE.next ?_)
   refine WC.cond rfl (fun h21 => ?_) (fun h21 => ?_)
   ·have h21 : ¬ ((o.lg (ndget L1 i).t (ndget L2 (((ndget L2 k).args.getD j 0))).t) = true) := by simpa using h21
    refine WC.seq (WC.region (WL.asg rfl rfl rfl rfl rfl (WL.nil (WE.next (WC.ret (WE.blockRet (WE.thenRet (WE.thenRet (WE.blockRet (WE.thenRet (WE.ret1 rfl rfl ?_)))))))))))
    have hs22 : Chg ((fun b => b = q.gm)) w w13 := (Chg.trans2 (Chg.trans2 (Chg.refl ((fun b => b = q.gm)) _) hc5 (fun i h1 h2 => by first | exact h2 | exact .inl ⟨h2, h1⟩ | exact .inl h2 | exact .inr h2 | exact .inr (.inl h2) | exact .inr (.inr h2) | ((try dsimp only at *); omega))) hc12 (fun i h1 h2 => by first | exact h2 | exact .inl ⟨h2, h1⟩ | exact .inl h2 | exact .inr h2 | exact .inr (.inl h2) | exact .inr (.inr h2) | ((try dsimp only at *); omega)))
    exact ⟨_, rfl, congrArg Value.bool (all_no (by omega) hch.2 (by simpa using h21)), hst11, hs22⟩
   ·have h21 : ¬ (¬ ((o.lg (ndget L1 i).t (ndget L2 (((ndget L2 k).args.getD j 0))).t) = true)) := by simpa using h21
    refine WC.skip (WE.blockNormal (WE.next (WC.region ?_)))
    refine WL.val (.int .i64 ((((j + 1) : Nat) : Int))) rfl rfl rfl (fun za zC zh zk => addb_3 rfl (zh.ev rfl) (zh.ev rfl) (wrap_eq (by omega) (by omega) (by omega)) zk) ?_
    refine WL.mv rfl rfl rfl rfl rfl (WL.nil ?_)
    refine WE.round (j + 1) ⟨rfl, rfl, rfl, rfl, rfl, rfl, rfl, trivial⟩ ?_ ?_
    ·have hs23 : Chg ((fun b => b = q.gm)) w w13 := (Chg.trans2 (Chg.trans2 (Chg.refl ((fun b => b = q.gm)) _) hc5 (fun i h1 h2 => by first | exact h2 | exact .inl ⟨h2, h1⟩ | exact .inl h2 | exact .inr h2 | exact .inr (.inl h2) | exact .inr (.inr h2) | ((try dsimp only at *); omega))) hc12 (fun i h1 h2 => by first | exact h2 | exact .inl ⟨h2, h1⟩ | exact .inl h2 | exact .inr h2 | exact .inr (.inl h2) | exact .inr (.inr h2) | ((try dsimp only at *); omega)))
     exact ⟨by omega, lstep_all (by omega) hch.2 hall (by simpa using h21), hst11, hb15, hB16, hs23⟩
    ·omega
  ·have h10 : ¬ ((((j : Nat) : Int) : Int) < ((((ndget L2 k).args.length : Nat) : Int) : Int)) := by simpa using h10
   refine WC.exit (WE.thenExit (WE.thenExit (WE.blockIs rfl (WE.next (WC.seq (WC.region (WL.asg rfl rfl rfl rfl rfl (WL.nil (WE.next (WC.ret (WE.ret1 rfl rfl ?_)))))))))))
   have hs24 : Chg ((fun b => b = q.gm)) w w1 := (Chg.trans2 (Chg.refl ((fun b => b = q.gm)) _) hc5 (fun i h1 h2 => by first | exact h2 | exact .inl ⟨h2, h1⟩ | exact .inl h2 | exact .inr h2 | exact .inr (.inl h2) | exact .inr (.inr h2) | ((try dsimp only at *); omega)))
   exact ⟨_, rfl, congrArg Value.bool (all_yes (by omega) hall), hstl, hs24⟩
/-- The value is a row of the variables of t. -/
def VarsOf (t : T) (v : Value) (w : World) : Prop := ∃ (l : List Int) (a : Option Addr) (c : Nat), v = .slice a l.length c ∧ l.length ≤ c ∧ c ≤ maxLen ∧ IsInts w l a ∧ (∀ x, x ∈ l ↔ x ∈ varsT t)
theorem VarsOf.keep (t : T) (v : Value) (w w' : World) (hb : Below w.heap.size w w') : VarsOf t v w → VarsOf t v w' := by
 rintro ⟨l, a, c, h1, h2, h3, h4, h5⟩
 exact ⟨l, a, c, h1, h2, h3, h4.below hb, h5⟩
theorem vars_of (t : T) (w : World) (v : Value) (hz : t.size ≤ 4294967296) (hv : IsT w t v) : Calls Try.prog 70 #[v] w (Ret fun v' w' => VarsOf t v' w' ∧ Below w.heap.size w w') :=
 (vars_any t w v hz hv).mono (by rintro e w' ⟨v', rfl, l, a, c, h1, h2, h3, h4, h5, h6⟩; exact ⟨_, rfl, ⟨l, a, c, h1, h2, h3, h4, h5⟩, h6⟩)
theorem has_of {l : List Int} {t : T} {f : Int} (h : ∀ x, x ∈ l ↔ x ∈ varsT t) (hf : f < 0) : decide ((-1 - f) ∈ l) = T.has f t := by
 rw [Bool.eq_iff_iff, decide_eq_true_eq, h, varsT_has f hf]
set_option maxRecDepth 100000 in
theorem lvariable_any (o : Od) (L1 L2 : List Nd) (q : LpoQ) (w0 : World) (n : Nat) (hH : LpoH o L1 L2) (hA : AboveOK o L1 L2 q w0 n) (i k : Nat) (w : World) (hi : i < L1.length) (hk : k < L2.length) (hz : (ndget L1 i).t.size + (ndget L2 k).t.size ≤ n + 1) (hst : LpoSt o L1 L2 q w0 w) :
  Calls Try.prog 62 #[.pointer (some ⟨q.gw, 0, none⟩), .int .i64 (i : Int), .int .i64 (k : Int)] w (Ret fun v' w' => v' = .bool (decide ((ndget L2 k).t.f < 0) && T.has (ndget L2 k).t.f (ndget L1 i).t) ∧ LpoSt o L1 L2 q w0 w' ∧ Chg (fun b => b = q.gm) w w') := by
 have hg1 := (hH.g1 i hi).1
 have hg2 := (hH.g2 k hk).1
 have hz1 := hH.z1 i hi
 have hz2 := hH.z2 k hk
 have ha1 := args_le (ndget L1 i).t
 have ha2 := args_le (ndget L2 k).t
 have hf1 := (hst.n1.t i hi).form.1.1
 have hf1' := (hst.n1.t i hi).form.1.2
 have hf2 := (hst.n2.t k hk).form.1.1
 have hf2' := (hst.n2.t k hk).form.1.2
 have hp1 := (lknows_top (hH.k1 i hi)).1
 have hp2 := (lknows_top (hH.k2 k hk)).1
 have hst0 := hst
 obtain ⟨hl1, hl2, hl3, hl4⟩ := hst.glt
 have hgm := hst.hgm
 refine Calls.walk (l := [.pointer (some ⟨q.gw, 0, none⟩), .int .i64 (((i : Nat) : Int)), .int .i64 (((k : Nat) : Int))]) Try.func62 rfl (by kernel_rfl) ?_
 refine WC.sub (K' := [(0, .pointer (some ⟨q.gw, 0, none⟩)), (1, .int .i64 (((i : Nat) : Int))), (2, .int .i64 (((k : Nat) : Int)))]) ⟨rfl, rfl, rfl, trivial⟩ ?_
 refine WC.seq (WC.region (WL.asg rfl rfl rfl rfl rfl (WL.nil (WE.next (WC.seq (WC.region (WL.mv rfl rfl rfl rfl rfl ?_)))))))
 refine WL.val _ rfl rfl rfl (fun za zC zh zk => nilCheck_ rfl (zh.ev rfl) zk) ?_
 refine WL.val _ rfl rfl rfl (fun za zC zh zk => fld_87_2 rfl (zh.ev rfl) zk) ?_
 refine WL.val _ rfl rfl rfl (fun za zC zh zk => ld_83 rfl (zh.ev rfl) ((hst.blk.cell 5).trans rfl) zk) ?_
 refine WL.mv rfl rfl rfl rfl rfl ?_
 refine WL.val _ rfl rfl rfl (fun za zC zh zk => ix_83 (k := k) rfl (zh.ev rfl) rfl (zh.ev rfl) (by first | omega | (simp; omega)) zk) ?_
 refine WL.val _ rfl rfl rfl (fun za zC zh zk => fld_92_0 rfl (zh.ev rfl) zk) ?_
 refine WL.val _ rfl rfl rfl (fun za zC zh zk => ld_34 rfl (zh.ev rfl) (hst.n2.c0 k (by first | omega | (simp; omega))) (hst.n2.c1 k (by first | omega | (simp; omega))) zk) ?_
 refine WL.step (post := NewBlk w 34 #[.int .i64 0, .slice none 0 0]) rfl rfl rfl (fun za zC zh zk => alloc_34 rfl (zk _ _ (newBlk _ _ _))) ?_
 rintro _ w1 ⟨g2, rfl, hg3, hB4, hb5, hz6⟩
 have hl7 : q.gw < g2 := by have z1 := hst.blk.lt; omega
 have hl8 : w0.heap.size ≤ g2 := by have z2 := (hst.below).size; omega
 have hl9 : w.heap.size ≤ g2 := by omega
 refine WL.step (post := fun _ w' => Upd g2 w1 w' ∧ Blk w' g2 34 #[.int .i64 ((ndget L2 k).t.f), .slice ((q.A2 k)) ((ndget L2 k).t.args.length) ((q.C2 k))]) rfl rfl rfl (fun za zC zh zk => st_34 rfl (zh.ev rfl) (zh.ev rfl) rfl rfl hB4 (by first | decide | simp) (fun v => zk v _ ⟨(Upd.at_ _ _ _ _).trans (Upd.at_ _ _ _ _), (hB4.set_ 0 _).set_ 1 _⟩)) ?_
 rintro v13 w10 ⟨hu11, hB12⟩
 have hb14 : Below w0.heap.size w0 w1 := (bstep hst.below hb5)
 have hb15 := upd_below hb14 hu11 (by omega)
 have hb16 := upd_below hb5 hu11 (by omega)
 have hB17 := hst.blk.below hb5
 have hB18 := upd_blk hB17 hu11 (by omega)
 refine WL.nil (WE.next (WC.seq ?_))
 refine WC.opt [(true, .val (.pointer (some ⟨g2, 0, none⟩))), (true, .val (.int .i64 ((ndget L2 k).t.f))), (true, .val (.bool ((decide (((ndget L2 k).t.f : Int) < (0 : Int)))))), (true, .val (.bool ((decide (((ndget L2 k).t.f : Int) < (0 : Int)))))), ((true && (decide (((ndget L2 k).t.f : Int) < (0 : Int)))), .val (.pointer (some ⟨q.gw, 0, none⟩))), ((true && (decide (((ndget L2 k).t.f : Int) < (0 : Int)))), .val (.pointer (some ⟨q.gw, 0, none⟩))), ((true && (decide (((ndget L2 k).t.f : Int) < (0 : Int)))), .val (.pointer (some ⟨q.gw, 4, none⟩))), ((true && (decide (((ndget L2 k).t.f : Int) < (0 : Int)))), .val (.slice ((some ⟨q.b1, 0, none⟩)) L1.length q.r1)), ((true && (decide (((ndget L2 k).t.f : Int) < (0 : Int)))), .val (.int .i64 (((i : Nat) : Int)))), ((true && (decide (((ndget L2 k).t.f : Int) < (0 : Int)))), .val (.pointer (some ⟨q.b1, 0 + i * 3, none⟩))), ((true && (decide (((ndget L2 k).t.f : Int) < (0 : Int)))), .val (.pointer (some ⟨q.b1, 0 + i * 3, none⟩))), ((true && (decide (((ndget L2 k).t.f : Int) < (0 : Int)))), .val (.agg #[.int .i64 ((ndget L1 i).t.f), .slice ((q.A1 i)) ((ndget L1 i).t.args.length) ((q.C1 i))])), ((true && (decide (((ndget L2 k).t.f : Int) < (0 : Int)))), .mem (VarsOf (ndget L1 i).t) (fun v w w' hb h => VarsOf.keep _ _ _ _ hb h)), ((true && (decide (((ndget L2 k).t.f : Int) < (0 : Int)))), .val (.pointer (some ⟨g2, 0, none⟩))), ((true && (decide (((ndget L2 k).t.f : Int) < (0 : Int)))), .val (.int .i64 ((ndget L2 k).t.f))), ((true && (decide (((ndget L2 k).t.f : Int) < (0 : Int)))), .val (.int .i64 (((-1) - (ndget L2 k).t.f)))), ((true && (decide (((ndget L2 k).t.f : Int) < (0 : Int)))), .val (.bool ((T.has (ndget L2 k).t.f (ndget L1 i).t)))), (true, .val (.bool (((decide (((ndget L2 k).t.f : Int) < (0 : Int))) && (T.has (ndget L2 k).t.f (ndget L1 i).t))))), (true, .val (.bool (((decide (((ndget L2 k).t.f : Int) < (0 : Int))) && (T.has (ndget L2 k).t.f (ndget L1 i).t)))))] [(0, .pointer (some ⟨q.gw, 0, none⟩)), (1, .int .i64 (((i : Nat) : Int))), (2, .int .i64 (((k : Nat) : Int))), (7, .pointer (some ⟨g2, 0, none⟩))] ⟨rfl, rfl, rfl, rfl, trivial⟩ (by kernel_rfl) (by kernel_rfl) (by kernel_rfl) ?_ ?_
 ·refine ⟨⟨true, .none rfl, fun h w => optUndef h, fun zβ za zw zc => ?_⟩, ?_⟩
  ·exact fld_34_0 rfl (zc.kn.ev rfl) ⟨_, rfl, Below.refl _ _, optDef zβ rfl⟩
  refine ⟨⟨true, .none rfl, fun h w => optUndef h, fun zβ za zw zc => ?_⟩, ?_⟩
  ·exact ld_3 rfl ((evt za 16).trans (optVal (zc.dep 0 16 (by kernel_rfl)) rfl rfl)) (bkeeps zc.below _ _ ((hB12.cell 0).trans rfl)) ⟨_, rfl, Below.refl _ _, optDef zβ rfl⟩
  refine ⟨⟨true, .none rfl, fun h w => optUndef h, fun zβ za zw zc => ?_⟩, ?_⟩
  ·exact lss_3 rfl ((evt za 17).trans (optVal (zc.dep 1 17 (by kernel_rfl)) rfl rfl)) (zc.kn.ev rfl) ⟨_, rfl, Below.refl _ _, optDef zβ rfl⟩
  refine ⟨⟨true, .none rfl, fun h w => optUndef h, fun zβ za zw zc => ?_⟩, ?_⟩
  ·exact wp_move rfl ((evt za 18).trans (optVal (zc.dep 2 18 (by kernel_rfl)) rfl rfl)) ⟨_, rfl, Below.refl _ _, optDef zβ rfl⟩
  refine ⟨⟨_, .yes (c := (decide (((ndget L2 k).t.f : Int) < (0 : Int)))) (d := true) rfl (fun v w h => h), fun h w => optUndef h, fun zβ za zw zc => ?_⟩, ?_⟩
  ·exact wp_move rfl (zc.kn.ev rfl) ⟨_, rfl, Below.refl _ _, optDef zβ rfl⟩
  refine ⟨⟨_, .yes (c := (decide (((ndget L2 k).t.f : Int) < (0 : Int)))) (d := true) rfl (fun v w h => h), fun h w => optUndef h, fun zβ za zw zc => ?_⟩, ?_⟩
  ·exact nilCheck_ rfl ((evt za 20).trans (optVal (zc.dep 4 20 (by kernel_rfl)) rfl zβ)) ⟨_, rfl, Below.refl _ _, optDef zβ rfl⟩
  refine ⟨⟨_, .yes (c := (decide (((ndget L2 k).t.f : Int) < (0 : Int)))) (d := true) rfl (fun v w h => h), fun h w => optUndef h, fun zβ za zw zc => ?_⟩, ?_⟩
  ·exact fld_87_1 rfl ((evt za 21).trans (optVal (zc.dep 5 21 (by kernel_rfl)) rfl zβ)) ⟨_, rfl, Below.refl _ _, optDef zβ rfl⟩
  refine ⟨⟨_, .yes (c := (decide (((ndget L2 k).t.f : Int) < (0 : Int)))) (d := true) rfl (fun v w h => h), fun h w => optUndef h, fun zβ za zw zc => ?_⟩, ?_⟩
  ·exact ld_83 rfl ((evt za 22).trans (optVal (zc.dep 6 22 (by kernel_rfl)) rfl zβ)) (bkeeps zc.below _ _ ((hB18.cell 4).trans rfl)) ⟨_, rfl, Below.refl _ _, optDef zβ rfl⟩
  refine ⟨⟨_, .yes (c := (decide (((ndget L2 k).t.f : Int) < (0 : Int)))) (d := true) rfl (fun v w h => h), fun h w => optUndef h, fun zβ za zw zc => ?_⟩, ?_⟩
  ·exact wp_move rfl (zc.kn.ev rfl) ⟨_, rfl, Below.refl _ _, optDef zβ rfl⟩
  refine ⟨⟨_, .yes (c := (decide (((ndget L2 k).t.f : Int) < (0 : Int)))) (d := true) rfl (fun v w h => h), fun h w => optUndef h, fun zβ za zw zc => ?_⟩, ?_⟩
  ·exact ix_83 (k := i) rfl ((evt za 23).trans (optVal (zc.dep 7 23 (by kernel_rfl)) rfl zβ)) rfl ((evt za 24).trans (optVal (zc.dep 8 24 (by kernel_rfl)) rfl zβ)) (by first | omega | (have zz := zβ; simp only [Bool.and_eq_true, Bool.or_eq_true, Bool.true_and, Bool.not_eq_true', Bool.or_eq_false_iff, Bool.and_eq_false_iff, beq_eq_false_iff_ne, ne_eq, beq_iff_eq, decide_eq_true_eq, decide_eq_false_iff_not, bne_iff_ne, bne_eq_false_iff_eq] at zz; omega)) ⟨_, rfl, Below.refl _ _, optDef zβ rfl⟩
  refine ⟨⟨_, .yes (c := (decide (((ndget L2 k).t.f : Int) < (0 : Int)))) (d := true) rfl (fun v w h => h), fun h w => optUndef h, fun zβ za zw zc => ?_⟩, ?_⟩
  ·exact fld_92_0 rfl ((evt za 25).trans (optVal (zc.dep 9 25 (by kernel_rfl)) rfl zβ)) ⟨_, rfl, Below.refl _ _, optDef zβ rfl⟩
  refine ⟨⟨_, .yes (c := (decide (((ndget L2 k).t.f : Int) < (0 : Int)))) (d := true) rfl (fun v w h => h), fun h w => optUndef h, fun zβ za zw zc => ?_⟩, ?_⟩
  ·exact ld_34 rfl ((evt za 26).trans (optVal (zc.dep 10 26 (by kernel_rfl)) rfl zβ)) ((hst.bel (bstep hb16 zc.below)).n1.c0 i (by first | omega | (have zz := zβ; simp only [Bool.and_eq_true, Bool.or_eq_true, Bool.true_and, Bool.not_eq_true', Bool.or_eq_false_iff, Bool.and_eq_false_iff, beq_eq_false_iff_ne, ne_eq, beq_iff_eq, decide_eq_true_eq, decide_eq_false_iff_not, bne_iff_ne, bne_eq_false_iff_eq] at zz; omega))) ((hst.bel (bstep hb16 zc.below)).n1.c1 i (by first | omega | (have zz := zβ; simp only [Bool.and_eq_true, Bool.or_eq_true, Bool.true_and, Bool.not_eq_true', Bool.or_eq_false_iff, Bool.and_eq_false_iff, beq_eq_false_iff_ne, ne_eq, beq_iff_eq, decide_eq_true_eq, decide_eq_false_iff_not, bne_iff_ne, bne_eq_false_iff_eq] at zz; omega))) ⟨_, rfl, Below.refl _ _, optDef zβ rfl⟩
  refine ⟨⟨_, .yes (c := (decide (((ndget L2 k).t.f : Int) < (0 : Int)))) (d := true) rfl (fun v w h => h), fun h w => optUndef h, fun zβ za zw zc => ?_⟩, ?_⟩
  ·exact wp_call (by kernel_rfl) rfl (hv1 ((evt za 27).trans (optVal (zc.dep 11 27 (by kernel_rfl)) rfl zβ))) (vars_of (ndget L1 i).t _ _ hz1 (IsT.below (bstep hb15 zc.below) (hst0.n1.t i (by omega)))) (fun v w' h => ⟨v, rfl, h.2, optDef zβ h.1⟩)
  refine ⟨⟨_, .yes (c := (decide (((ndget L2 k).t.f : Int) < (0 : Int)))) (d := true) rfl (fun v w h => h), fun h w => optUndef h, fun zβ za zw zc => ?_⟩, ?_⟩
  ·exact fld_34_0 rfl (zc.kn.ev rfl) ⟨_, rfl, Below.refl _ _, optDef zβ rfl⟩
  refine ⟨⟨_, .yes (c := (decide (((ndget L2 k).t.f : Int) < (0 : Int)))) (d := true) rfl (fun v w h => h), fun h w => optUndef h, fun zβ za zw zc => ?_⟩, ?_⟩
  ·exact ld_3 rfl ((evt za 29).trans (optVal (zc.dep 13 29 (by kernel_rfl)) rfl zβ)) (bkeeps zc.below _ _ ((hB12.cell 0).trans rfl)) ⟨_, rfl, Below.refl _ _, optDef zβ rfl⟩
  refine ⟨⟨_, .yes (c := (decide (((ndget L2 k).t.f : Int) < (0 : Int)))) (d := true) rfl (fun v w h => h), fun h w => optUndef h, fun zβ za zw zc => ?_⟩, ?_⟩
  ·exact subb_3 rfl (zc.kn.ev rfl) ((evt za 30).trans (optVal (zc.dep 14 30 (by kernel_rfl)) rfl zβ)) (wrap_eq (by omega) (by omega) (by omega)) ⟨_, rfl, Below.refl _ _, optDef zβ rfl⟩
  refine ⟨⟨_, .yes (c := (decide (((ndget L2 k).t.f : Int) < (0 : Int)))) (d := true) rfl (fun v w h => h), fun h w => optUndef h, fun zβ za zw zc => ?_⟩, ?_⟩
  ·obtain ⟨l, a, c, e, h1, h2, h3, h4⟩ := (optMem (zc.dep 12 28 (by kernel_rfl)) rfl zβ)
   have hneg : (ndget L2 k).t.f < 0 := by simpa using zβ
   exact wp_call (by kernel_rfl) rfl (hv2 ((evt za 28).trans e) ((evt za 31).trans (optVal (zc.dep 15 31 (by kernel_rfl)) rfl zβ))) (contains_any l (-1 - (ndget L2 k).t.f) _ a c h1 h2 h3) (fun v w' h => ⟨v, rfl, h.2, optDef zβ (h.1.trans (congrArg Value.bool (has_of h4 hneg)))⟩)
  refine ⟨⟨true, .none rfl, fun h w => optUndef h, fun zβ za zw zc => ?_⟩, ?_⟩
  ·exact wp_and rfl ((evt za 19).trans (optVal (zc.dep 3 19 (by kernel_rfl)) rfl rfl)) (fun hp => ((evt za 32).trans (optVal (zc.dep 16 32 (by kernel_rfl)) rfl (bMk zβ hp)))) ⟨_, rfl, Below.refl _ _, optDef zβ rfl⟩
  refine ⟨⟨true, .none rfl, fun h w => optUndef h, fun zβ za zw zc => ?_⟩, ?_⟩
  ·exact wp_assign rfl ((evt za 33).trans (optVal (zc.dep 17 33 (by kernel_rfl)) rfl rfl)) ⟨_, rfl, Below.refl _ _, optDef zβ rfl⟩
  exact trivial
 ·intro za w19 zh hb20 zu
  have zh := zh.cons (d := 6) (v := .bool (((decide (((ndget L2 k).t.f : Int) < (0 : Int))) && (T.has (ndget L2 k).t.f (ndget L1 i).t)))) (optVal (zu 18 6 (by kernel_rfl)) rfl rfl)
  clear zu
  refine WE.go zh ?_
  refine WE.next (WC.ret (WE.ret1 rfl rfl ?_))
  have hb21 : Below w.heap.size w w19 := (bstep hb16 hb20)
  have hs22 : Chg ((fun b => b = q.gm)) w w19 := (Chg.trans2 (Chg.refl ((fun b => b = q.gm)) _) (Chg.ofBelow (S := fun k => k < 0) hb21) (fun i h1 h2 => by first | exact h2 | exact .inl ⟨h2, h1⟩ | exact .inl h2 | exact .inr h2 | exact .inr (.inl h2) | exact .inr (.inr h2) | ((try dsimp only at *); omega)))
  exact ⟨_, rfl, congrArg Value.bool (rfl), (hst.bel hb21), hs22⟩
set_option maxRecDepth 100000 in
theorem lwithin_any (o : Od) (L1 L2 : List Nd) (q : LpoQ) (w0 : World) (n : Nat) (hH : LpoH o L1 L2) (hA : AboveOK o L1 L2 q w0 n) (i k : Nat) (w : World) (hi : i < L1.length) (hk : k < L2.length) (hz : (ndget L1 i).t.size + (ndget L2 k).t.size ≤ n + 1) (hst : LpoSt o L1 L2 q w0 w) :
  Calls Try.prog 63 #[.pointer (some ⟨q.gw, 0, none⟩), .int .i64 (i : Int), .int .i64 (k : Int)] w (Ret fun v' w' => v' = .bool (!decide ((ndget L2 k).t.f < 0) && (ndget L1 i).t.args.any (fun a => T.same a (ndget L2 k).t || o.lg a (ndget L2 k).t)) ∧ LpoSt o L1 L2 q w0 w' ∧ Chg (fun b => b = q.gm) w w') := by
 have hg1 := (hH.g1 i hi).1
 have hg2 := (hH.g2 k hk).1
 have hz1 := hH.z1 i hi
 have hz2 := hH.z2 k hk
 have ha1 := args_le (ndget L1 i).t
 have ha2 := args_le (ndget L2 k).t
 have hf1 := (hst.n1.t i hi).form.1.1
 have hf1' := (hst.n1.t i hi).form.1.2
 have hf2 := (hst.n2.t k hk).form.1.1
 have hf2' := (hst.n2.t k hk).form.1.2
 have hp1 := (lknows_top (hH.k1 i hi)).1
 have hp2 := (lknows_top (hH.k2 k hk)).1
 have hst0 := hst
 obtain ⟨hl1, hl2, hl3, hl4⟩ := hst.glt
 have hgm := hst.hgm
 refine Calls.walk (l := [.pointer (some ⟨q.gw, 0, none⟩), .int .i64 (((i : Nat) : Int)), .int .i64 (((k : Nat) : Int))]) Try.func63 rfl (by kernel_rfl) ?_
 refine WC.sub (K' := [(0, .pointer (some ⟨q.gw, 0, none⟩)), (1, .int .i64 (((i : Nat) : Int))), (2, .int .i64 (((k : Nat) : Int)))]) ⟨rfl, rfl, rfl, trivial⟩ ?_
 refine WC.seq (WC.region (WL.asg rfl rfl rfl rfl rfl (WL.nil (WE.next (WC.seq (WC.seq (WC.region (WL.mv rfl rfl rfl rfl rfl ?_))))))))
 refine WL.val _ rfl rfl rfl (fun za zC zh zk => nilCheck_ rfl (zh.ev rfl) zk) ?_
 refine WL.val _ rfl rfl rfl (fun za zC zh zk => fld_87_2 rfl (zh.ev rfl) zk) ?_
 refine WL.val _ rfl rfl rfl (fun za zC zh zk => ld_83 rfl (zh.ev rfl) ((hst.blk.cell 5).trans rfl) zk) ?_
 refine WL.mv rfl rfl rfl rfl rfl ?_
 refine WL.val _ rfl rfl rfl (fun za zC zh zk => ix_83 (k := k) rfl (zh.ev rfl) rfl (zh.ev rfl) (by first | omega | (simp; omega)) zk) ?_
 refine WL.val _ rfl rfl rfl (fun za zC zh zk => fld_92_0 rfl (zh.ev rfl) zk) ?_
 refine WL.val _ rfl rfl rfl (fun za zC zh zk => fld_34_0 rfl (zh.ev rfl) zk) ?_
 refine WL.val _ rfl rfl rfl (fun za zC zh zk => ld_3 rfl (zh.ev rfl) (hst.n2.c0 k (by first | omega | (simp; omega))) zk) ?_
 refine WL.val (.bool ((decide (((ndget L2 k).t.f : Int) < (0 : Int))))) rfl rfl rfl (fun za zC zh zk => lss_3 rfl (zh.ev rfl) (zh.ev rfl) zk) ?_
 refine WL.nil (WE.next ?_)
 refine WC.cond rfl (fun h1 => ?_) (fun h1 => ?_)
 ·have h1 : ((ndget L2 k).t.f : Int) < (0 : Int) := by simpa using h1
  refine WC.seq (WC.region (WL.asg rfl rfl rfl rfl rfl (WL.nil (WE.next (WC.ret (WE.thenRet (WE.ret1 rfl rfl ?_)))))))
  have hs2 : Chg ((fun b => b = q.gm)) w w := (Chg.refl ((fun b => b = q.gm)) _)
  exact ⟨_, rfl, congrArg Value.bool (by simp; omega), hst, hs2⟩
 ·have h1 : ¬ (((ndget L2 k).t.f : Int) < (0 : Int)) := by simpa using h1
  refine WC.skip (WE.next (WC.seq (WC.seq (WC.region (WL.mv rfl rfl rfl rfl rfl ?_)))))
  refine WL.val _ rfl rfl rfl (fun za zC zh zk => nilCheck_ rfl (zh.ev rfl) zk) ?_
  refine WL.val _ rfl rfl rfl (fun za zC zh zk => fld_87_1 rfl (zh.ev rfl) zk) ?_
  refine WL.val _ rfl rfl rfl (fun za zC zh zk => ld_83 rfl (zh.ev rfl) ((hst.blk.cell 4).trans rfl) zk) ?_
  refine WL.mv rfl rfl rfl rfl rfl ?_
  refine WL.val _ rfl rfl rfl (fun za zC zh zk => ix_83 (k := i) rfl (zh.ev rfl) rfl (zh.ev rfl) (by first | omega | (simp; omega)) zk) ?_
  refine WL.val _ rfl rfl rfl (fun za zC zh zk => fld_92_1 rfl (zh.ev rfl) zk) ?_
  refine WL.val _ rfl rfl rfl (fun za zC zh zk => ld_22 rfl (zh.ev rfl) (hst.n1.c2 i (by first | omega | (simp; omega))) zk) ?_
  refine WL.val (.int .i64 ((((ndget L1 i).args.length : Nat) : Int))) rfl rfl rfl (fun za zC zh zk => len_22 rfl (zh.ev rfl) zk) ?_
  refine WL.mv rfl rfl rfl rfl rfl (WL.nil (WE.next (WC.block ?_)))
  refine WC.loop (X := Nat) (fun j => (ndget L1 i).args.length - j) (fun j => [(0, .pointer (some ⟨q.gw, 0, none⟩)), (1, .int .i64 (((i : Nat) : Int))), (2, .int .i64 (((k : Nat) : Int))), (18, .bool ((decide (((ndget L2 k).t.f : Int) < (0 : Int))))), (26, .slice ((q.X1 i)) ((ndget L1 i).args.length) ((q.Z1 i))), (27, .int .i64 ((((ndget L1 i).args.length : Nat) : Int))), (28, .int .i64 (((j : Nat) : Int)))]) (fun j w3 => j ≤ (ndget L1 i).args.length ∧ ((ndget L1 i).t.args.take j).any (fun a => T.same a (ndget L2 k).t || o.lg a (ndget L2 k).t) = false ∧ LpoSt o L1 L2 q w0 w3 ∧ Below w0.heap.size w0 w3 ∧ Blk w3 q.gw 87 #[.bool o.lpo, .slice q.p1 o.prec.length q.k1, .slice q.p2 o.weights.length q.k2, .int .i64 o.var, .slice ((some ⟨q.b1, 0, none⟩)) L1.length q.r1, .slice ((some ⟨q.b2, 0, none⟩)) L2.length q.r2, .map ((some q.gm))] ∧ Chg ((fun b => b = q.gm)) w w3) 0 ⟨rfl, rfl, rfl, rfl, rfl, rfl, rfl, trivial⟩ ?_ ?_
  ·have hs4 : Chg ((fun b => b = q.gm)) w w := (Chg.refl ((fun b => b = q.gm)) _)
   exact ⟨Nat.zero_le _, rfl, hst, hst.below, hst.blk, hs4⟩
  ·rintro j w3 ⟨hj, hall, hstl, hb5, hB6, hc7⟩
   obtain ⟨hl8, hl9, hl10, hl11⟩ := hstl.glt
   refine WC.seq (WC.region ?_)
   refine WL.val (.bool ((decide ((((j : Nat) : Int) : Int) < ((((ndget L1 i).args.length : Nat) : Int) : Int))))) rfl rfl rfl (fun za zC zh zk => lss_3 rfl (zh.ev rfl) (zh.ev rfl) zk) ?_
   refine WL.nil (WE.next (WC.seq ?_))
   refine WC.cond rfl (fun h12 => ?_) (fun h12 => ?_)
   ·have h12 : (((j : Nat) : Int) : Int) < ((((ndget L1 i).args.length : Nat) : Int) : Int) := by simpa using h12
    refine WC.skip (WE.next (WC.seq (WC.block (WC.seq (WC.region (WL.mv rfl rfl rfl rfl rfl ?_))))))
    refine WL.val _ rfl rfl rfl (fun za zC zh zk => ix_22 (k := j) rfl (zh.ev rfl) (hst0.n1.x i j (by omega) (by first | omega | (simp; omega))).1 (zh.ev rfl) (by first | omega | (simp; omega)) zk) ?_
    refine WL.val _ rfl rfl rfl (fun za zC zh zk => ld_3 rfl (zh.ev rfl) (hstl.n1.x i j (by omega) (by first | omega | (simp; omega))).2 zk) ?_
    refine WL.asg rfl rfl rfl rfl rfl (WL.asg rfl rfl rfl rfl rfl (WL.nil (WE.next (WC.seq ?_))))
    obtain ⟨b13, o14, A15, C16, ha17, hc18⟩ := IsTs.open (isT_row (hst0.n1.t i (by omega))).2.2.2
    have hch := nd_child (hH.g1 i hi) (j := j) (by omega)
    have hcs := size_child (t := (ndget L1 i).t) (k := j) (by omega)
    have hce := congrArg T.size hch.2
    refine WC.optc [(true, .pointer (some ⟨q.gw, 0, none⟩)), (true, .pointer (some ⟨q.gw, 0, none⟩)), (true, .pointer (some ⟨q.gw, 4, none⟩)), (true, .slice ((some ⟨q.b1, 0, none⟩)) L1.length q.r1), (true, .int .i64 (((i : Nat) : Int))), (true, .pointer (some ⟨q.b1, 0 + i * 3, none⟩)), (true, .pointer (some ⟨q.b1, 0 + i * 3, none⟩)), (true, .pointer (some ⟨q.b1, 0 + i * 3 + 1, none⟩)), (true, .slice ((q.A1 i)) ((ndget L1 i).t.args.length) ((q.C1 i))), (true, .int .i64 (((j : Nat) : Int))), (true, .pointer (some ⟨b13, o14 + j * 2, none⟩)), (true, .agg #[.int .i64 ((tget ((ndget L1 i).t.args) j).f), .slice ((A15 j)) ((tget ((ndget L1 i).t.args) j).args.length) ((C16 j))]), (true, .pointer (some ⟨q.gw, 0, none⟩)), (true, .pointer (some ⟨q.gw, 0, none⟩)), (true, .pointer (some ⟨q.gw, 5, none⟩)), (true, .slice ((some ⟨q.b2, 0, none⟩)) L2.length q.r2), (true, .int .i64 (((k : Nat) : Int))), (true, .pointer (some ⟨q.b2, 0 + k * 3, none⟩)), (true, .pointer (some ⟨q.b2, 0 + k * 3, none⟩)), (true, .agg #[.int .i64 ((ndget L2 k).t.f), .slice ((q.A2 k)) ((ndget L2 k).t.args.length) ((q.C2 k))]), (true, .bool ((T.same ((tget ((ndget L1 i).t.args) j)) ((ndget L2 k).t)))), (true, .bool ((T.same ((tget ((ndget L1 i).t.args) j)) ((ndget L2 k).t)))), ((true && !(T.same ((tget ((ndget L1 i).t.args) j)) ((ndget L2 k).t))), .pointer (some ⟨q.gw, 0, none⟩)), ((true && !(T.same ((tget ((ndget L1 i).t.args) j)) ((ndget L2 k).t))), .int .i64 (((((ndget L1 i).args.getD j 0) : Nat) : Int))), ((true && !(T.same ((tget ((ndget L1 i).t.args) j)) ((ndget L2 k).t))), .int .i64 (((k : Nat) : Int))), ((true && !(T.same ((tget ((ndget L1 i).t.args) j)) ((ndget L2 k).t))), .bool ((o.lg (ndget L1 (((ndget L1 i).args.getD j 0))).t (ndget L2 k).t))), (true, .bool (((T.same ((tget ((ndget L1 i).t.args) j)) ((ndget L2 k).t)) || (o.lg (ndget L1 (((ndget L1 i).args.getD j 0))).t (ndget L2 k).t))))] [(0, .pointer (some ⟨q.gw, 0, none⟩)), (1, .int .i64 (((i : Nat) : Int))), (2, .int .i64 (((k : Nat) : Int))), (7, .int .i64 (((j : Nat) : Int))), (8, .int .i64 (((((ndget L1 i).args.getD j 0) : Nat) : Int))), (18, .bool ((decide (((ndget L2 k).t.f : Int) < (0 : Int))))), (26, .slice ((q.X1 i)) ((ndget L1 i).args.length) ((q.Z1 i))), (27, .int .i64 ((((ndget L1 i).args.length : Nat) : Int))), (28, .int .i64 (((j : Nat) : Int))), (29, .bool ((decide ((((j : Nat) : Int) : Int) < ((((ndget L1 i).args.length : Nat) : Int) : Int)))))] (S := (fun b => b = q.gm)) (I := (LpoSt o L1 L2 q w0)) (fun _ _ hb h => h.bel hb) hstl ⟨rfl, rfl, rfl, rfl, rfl, rfl, rfl, rfl, rfl, rfl, trivial⟩ (by kernel_rfl) (by kernel_rfl) (by kernel_rfl) ?_ ?_
    ·refine ⟨⟨true, .none rfl, fun h => optUndef h, fun zβ za zw zc => ?_⟩, ?_⟩
     ·exact wp_move rfl (zc.kn.ev rfl) ⟨_, rfl, zc.chg, zc.inv, optDef zβ rfl⟩
     refine ⟨⟨true, .none rfl, fun h => optUndef h, fun zβ za zw zc => ?_⟩, ?_⟩
     ·exact nilCheck_ rfl ((evt za 33).trans (valVal (zc.dep 0 33 (by kernel_rfl)) rfl rfl)) ⟨_, rfl, zc.chg, zc.inv, optDef zβ rfl⟩
     refine ⟨⟨true, .none rfl, fun h => optUndef h, fun zβ za zw zc => ?_⟩, ?_⟩
     ·exact fld_87_1 rfl ((evt za 34).trans (valVal (zc.dep 1 34 (by kernel_rfl)) rfl rfl)) ⟨_, rfl, zc.chg, zc.inv, optDef zβ rfl⟩
     refine ⟨⟨true, .none rfl, fun h => optUndef h, fun zβ za zw zc => ?_⟩, ?_⟩
     ·exact ld_83 rfl ((evt za 35).trans (valVal (zc.dep 2 35 (by kernel_rfl)) rfl rfl)) (chg_cell zc.chg (by (try dsimp only at *); omega) ((hB6.cell 4).trans rfl)) ⟨_, rfl, zc.chg, zc.inv, optDef zβ rfl⟩
     refine ⟨⟨true, .none rfl, fun h => optUndef h, fun zβ za zw zc => ?_⟩, ?_⟩
     ·exact wp_move rfl (zc.kn.ev rfl) ⟨_, rfl, zc.chg, zc.inv, optDef zβ rfl⟩
     refine ⟨⟨true, .none rfl, fun h => optUndef h, fun zβ za zw zc => ?_⟩, ?_⟩
     ·exact ix_83 (k := i) rfl ((evt za 36).trans (valVal (zc.dep 3 36 (by kernel_rfl)) rfl rfl)) rfl ((evt za 37).trans (valVal (zc.dep 4 37 (by kernel_rfl)) rfl rfl)) (by first | omega | (simp; omega)) ⟨_, rfl, zc.chg, zc.inv, optDef zβ rfl⟩
     refine ⟨⟨true, .none rfl, fun h => optUndef h, fun zβ za zw zc => ?_⟩, ?_⟩
     ·exact fld_92_0 rfl ((evt za 38).trans (valVal (zc.dep 5 38 (by kernel_rfl)) rfl rfl)) ⟨_, rfl, zc.chg, zc.inv, optDef zβ rfl⟩
     refine ⟨⟨true, .none rfl, fun h => optUndef h, fun zβ za zw zc => ?_⟩, ?_⟩
     ·exact fld_34_1 rfl ((evt za 39).trans (valVal (zc.dep 6 39 (by kernel_rfl)) rfl rfl)) ⟨_, rfl, zc.chg, zc.inv, optDef zβ rfl⟩
     refine ⟨⟨true, .none rfl, fun h => optUndef h, fun zβ za zw zc => ?_⟩, ?_⟩
     ·exact ld_32 rfl ((evt za 40).trans (valVal (zc.dep 7 40 (by kernel_rfl)) rfl rfl)) (zc.inv.n1.c1 i (by first | omega | (simp; omega))) ⟨_, rfl, zc.chg, zc.inv, optDef zβ rfl⟩
     refine ⟨⟨true, .none rfl, fun h => optUndef h, fun zβ za zw zc => ?_⟩, ?_⟩
     ·exact wp_move rfl (zc.kn.ev rfl) ⟨_, rfl, zc.chg, zc.inv, optDef zβ rfl⟩
     refine ⟨⟨true, .none rfl, fun h => optUndef h, fun zβ za zw zc => ?_⟩, ?_⟩
     ·exact ix_32 (k := j) rfl ((evt za 41).trans (valVal (zc.dep 8 41 (by kernel_rfl)) rfl rfl)) (ha17 j (by first | omega | (simp; omega))) ((evt za 42).trans (valVal (zc.dep 9 42 (by kernel_rfl)) rfl rfl)) (by first | omega | (simp; omega)) ⟨_, rfl, zc.chg, zc.inv, optDef zβ rfl⟩
     refine ⟨⟨true, .none rfl, fun h => optUndef h, fun zβ za zw zc => ?_⟩, ?_⟩
     ·exact ld_34 rfl ((evt za 43).trans (valVal (zc.dep 10 43 (by kernel_rfl)) rfl rfl)) (chg_old hb5 zc.chg (fun b hb => by (try dsimp only at *); omega) (hc18 j (by first | omega | (simp; omega))).1) (chg_old hb5 zc.chg (fun b hb => by (try dsimp only at *); omega) (hc18 j (by first | omega | (simp; omega))).2.1) ⟨_, rfl, zc.chg, zc.inv, optDef zβ rfl⟩
     refine ⟨⟨true, .none rfl, fun h => optUndef h, fun zβ za zw zc => ?_⟩, ?_⟩
     ·exact wp_move rfl (zc.kn.ev rfl) ⟨_, rfl, zc.chg, zc.inv, optDef zβ rfl⟩
     refine ⟨⟨true, .none rfl, fun h => optUndef h, fun zβ za zw zc => ?_⟩, ?_⟩
     ·exact nilCheck_ rfl ((evt za 45).trans (valVal (zc.dep 12 45 (by kernel_rfl)) rfl rfl)) ⟨_, rfl, zc.chg, zc.inv, optDef zβ rfl⟩
     refine ⟨⟨true, .none rfl, fun h => optUndef h, fun zβ za zw zc => ?_⟩, ?_⟩
     ·exact fld_87_2 rfl ((evt za 46).trans (valVal (zc.dep 13 46 (by kernel_rfl)) rfl rfl)) ⟨_, rfl, zc.chg, zc.inv, optDef zβ rfl⟩
     refine ⟨⟨true, .none rfl, fun h => optUndef h, fun zβ za zw zc => ?_⟩, ?_⟩
     ·exact ld_83 rfl ((evt za 47).trans (valVal (zc.dep 14 47 (by kernel_rfl)) rfl rfl)) (chg_cell zc.chg (by (try dsimp only at *); omega) ((hB6.cell 5).trans rfl)) ⟨_, rfl, zc.chg, zc.inv, optDef zβ rfl⟩
     refine ⟨⟨true, .none rfl, fun h => optUndef h, fun zβ za zw zc => ?_⟩, ?_⟩
     ·exact wp_move rfl (zc.kn.ev rfl) ⟨_, rfl, zc.chg, zc.inv, optDef zβ rfl⟩
     refine ⟨⟨true, .none rfl, fun h => optUndef h, fun zβ za zw zc => ?_⟩, ?_⟩
     ·exact ix_83 (k := k) rfl ((evt za 48).trans (valVal (zc.dep 15 48 (by kernel_rfl)) rfl rfl)) rfl ((evt za 49).trans (valVal (zc.dep 16 49 (by kernel_rfl)) rfl rfl)) (by first | omega | (simp; omega)) ⟨_, rfl, zc.chg, zc.inv, optDef zβ rfl⟩
     refine ⟨⟨true, .none rfl, fun h => optUndef h, fun zβ za zw zc => ?_⟩, ?_⟩
     ·exact fld_92_0 rfl ((evt za 50).trans (valVal (zc.dep 17 50 (by kernel_rfl)) rfl rfl)) ⟨_, rfl, zc.chg, zc.inv, optDef zβ rfl⟩
     refine ⟨⟨true, .none rfl, fun h => optUndef h, fun zβ za zw zc => ?_⟩, ?_⟩
     ·exact ld_34 rfl ((evt za 51).trans (valVal (zc.dep 18 51 (by kernel_rfl)) rfl rfl)) (zc.inv.n2.c0 k (by first | omega | (simp; omega))) (zc.inv.n2.c1 k (by first | omega | (simp; omega))) ⟨_, rfl, zc.chg, zc.inv, optDef zβ rfl⟩
     refine ⟨⟨true, .none rfl, fun h => optUndef h, fun zβ za zw zc => ?_⟩, ?_⟩
     ·exact wp_call (by kernel_rfl) rfl (hv2 ((evt za 44).trans (valVal (zc.dep 11 44 (by kernel_rfl)) rfl rfl)) ((evt za 52).trans (valVal (zc.dep 19 52 (by kernel_rfl)) rfl rfl))) (ret_of (same_any ((tget ((ndget L1 i).t.args) j)) ((ndget L2 k).t) _ _ _ (IsT.below zc.inv.below (hc18 j (by first | omega | (simp; omega))).2.2) (IsT.below zc.inv.below (hst0.n2.t k (by omega))))) (fun v w' h => ⟨v, rfl, zc.chg.trans (.ofBelow h.2), zc.inv.bel h.2, optDef zβ h.1⟩)
     refine ⟨⟨true, .none rfl, fun h => optUndef h, fun zβ za zw zc => ?_⟩, ?_⟩
     ·exact wp_move rfl ((evt za 53).trans (valVal (zc.dep 20 53 (by kernel_rfl)) rfl rfl)) ⟨_, rfl, zc.chg, zc.inv, optDef zβ rfl⟩
     refine ⟨⟨_, .no (c := (T.same ((tget ((ndget L1 i).t.args) j)) ((ndget L2 k).t))) (d := true) rfl (fun v w h => h), fun h => optUndef h, fun zβ za zw zc => ?_⟩, ?_⟩
     ·exact wp_move rfl (zc.kn.ev rfl) ⟨_, rfl, zc.chg, zc.inv, optDef zβ rfl⟩
     refine ⟨⟨_, .no (c := (T.same ((tget ((ndget L1 i).t.args) j)) ((ndget L2 k).t))) (d := true) rfl (fun v w h => h), fun h => optUndef h, fun zβ za zw zc => ?_⟩, ?_⟩
     ·exact wp_move rfl (zc.kn.ev rfl) ⟨_, rfl, zc.chg, zc.inv, optDef zβ rfl⟩
     refine ⟨⟨_, .no (c := (T.same ((tget ((ndget L1 i).t.args) j)) ((ndget L2 k).t))) (d := true) rfl (fun v w h => h), fun h => optUndef h, fun zβ za zw zc => ?_⟩, ?_⟩
     ·exact wp_move rfl (zc.kn.ev rfl) ⟨_, rfl, zc.chg, zc.inv, optDef zβ rfl⟩
     refine ⟨⟨_, .no (c := (T.same ((tget ((ndget L1 i).t.args) j)) ((ndget L2 k).t))) (d := true) rfl (fun v w h => h), fun h => optUndef h, fun zβ za zw zc => ?_⟩, ?_⟩
     ·exact wp_call (by kernel_rfl) rfl (hv3 ((evt za 55).trans (valVal (zc.dep 22 55 (by kernel_rfl)) rfl zβ)) ((evt za 56).trans (valVal (zc.dep 23 56 (by kernel_rfl)) rfl zβ)) ((evt za 57).trans (valVal (zc.dep 24 57 (by kernel_rfl)) rfl zβ))) (hA (((ndget L1 i).args.getD j 0)) k _ (by omega) (by omega) (by omega) zc.inv) (fun v w' h => ⟨v, rfl, zc.chg.trans h.2.2, h.2.1, optDef zβ h.1⟩)
     refine ⟨⟨true, .none rfl, fun h => optUndef h, fun zβ za zw zc => ?_⟩, ?_⟩
     ·exact wp_or rfl ((evt za 54).trans (valVal (zc.dep 21 54 (by kernel_rfl)) rfl rfl)) (fun hp => ((evt za 58).trans (valVal (zc.dep 25 58 (by kernel_rfl)) rfl (bMkN zβ hp)))) ⟨_, rfl, zc.chg, zc.inv, optDef zβ rfl⟩
     exact trivial
    ·intro za w21 zh hb22 hst23 zu
     have hl24 := hB6.lt
     have hb25 := chg_below hb5 hb22 (fun b hb => (by (try dsimp only at *); omega))
     have hB26 := chg_blk hB6 hb22 (by (try dsimp only at *); omega)
     obtain ⟨hl27, hl28, hl29, hl30⟩ := hst23.glt
     have zh := zh.cons (d := 59) (v := .bool (((T.same ((tget ((ndget L1 i).t.args) j)) ((ndget L2 k).t)) || (o.lg (ndget L1 (((ndget L1 i).args.getD j 0))).t (ndget L2 k).t)))) (valVal (zu 26 59 (by kernel_rfl)) rfl rfl)
     clear zu
     refine WE.go zh ?_
     refine WE.next ?_
     refine WC.cond rfl (fun h31 => ?_) (fun h31 => ?_)
     ·have h31 : ((T.same ((tget ((ndget L1 i).t.args) j)) ((ndget L2 k).t)) = true) ∨ ((o.lg (ndget L1 (((ndget L1 i).args.getD j 0))).t (ndget L2 k).t) = true) := by simpa using h31
      refine WC.seq (WC.region (WL.asg rfl rfl rfl rfl rfl (WL.nil (WE.next (WC.ret (WE.blockRet (WE.thenRet (WE.thenRet (WE.blockRet (WE.thenRet (WE.ret1 rfl rfl ?_)))))))))))
      have hs32 : Chg ((fun b => b = q.gm)) w w21 := (Chg.trans2 (Chg.trans2 (Chg.refl ((fun b => b = q.gm)) _) hc7 (fun i h1 h2 => by first | exact h2 | exact .inl ⟨h2, h1⟩ | exact .inl h2 | exact .inr h2 | exact .inr (.inl h2) | exact .inr (.inr h2) | ((try dsimp only at *); omega))) hb22 (fun i h1 h2 => by first | exact h2 | exact .inl ⟨h2, h1⟩ | exact .inl h2 | exact .inr h2 | exact .inr (.inl h2) | exact .inr (.inr h2) | ((try dsimp only at *); omega)))
      exact ⟨_, rfl, congrArg Value.bool (by rw [any_hit (l := (ndget L1 i).t.args) (k := j) (by omega) (by have z := h31; rw [hch.2] at z; simpa using z)]; simp; omega), hst23, hs32⟩
     ·have h31 : ¬ (((T.same ((tget ((ndget L1 i).t.args) j)) ((ndget L2 k).t)) = true) ∨ ((o.lg (ndget L1 (((ndget L1 i).args.getD j 0))).t (ndget L2 k).t) = true)) := by simpa using h31
      refine WC.skip (WE.blockNormal (WE.next (WC.region ?_)))
      refine WL.val (.int .i64 ((((j + 1) : Nat) : Int))) rfl rfl rfl (fun za zC zh zk => addb_3 rfl (zh.ev rfl) (zh.ev rfl) (wrap_eq (by omega) (by omega) (by omega)) zk) ?_
      refine WL.mv rfl rfl rfl rfl rfl (WL.nil ?_)
      refine WE.round (j + 1) ⟨rfl, rfl, rfl, rfl, rfl, rfl, rfl, trivial⟩ ?_ ?_
      ·have hs33 : Chg ((fun b => b = q.gm)) w w21 := (Chg.trans2 (Chg.trans2 (Chg.refl ((fun b => b = q.gm)) _) hc7 (fun i h1 h2 => by first | exact h2 | exact .inl ⟨h2, h1⟩ | exact .inl h2 | exact .inr h2 | exact .inr (.inl h2) | exact .inr (.inr h2) | ((try dsimp only at *); omega))) hb22 (fun i h1 h2 => by first | exact h2 | exact .inl ⟨h2, h1⟩ | exact .inl h2 | exact .inr h2 | exact .inr (.inl h2) | exact .inr (.inr h2) | ((try dsimp only at *); omega)))
       exact ⟨by omega, any_step (by omega) hall (by have z := h31; rw [hch.2] at z; simpa using z), hst23, hb25, hB26, hs33⟩
      ·omega
   ·have h12 : ¬ ((((j : Nat) : Int) : Int) < ((((ndget L1 i).args.length : Nat) : Int) : Int)) := by simpa using h12
    refine WC.exit (WE.thenExit (WE.thenExit (WE.blockIs rfl (WE.next (WC.seq (WC.region (WL.asg rfl rfl rfl rfl rfl (WL.nil (WE.next (WC.ret (WE.ret1 rfl rfl ?_)))))))))))
    have hs34 : Chg ((fun b => b = q.gm)) w w3 := (Chg.trans2 (Chg.refl ((fun b => b = q.gm)) _) hc7 (fun i h1 h2 => by first | exact h2 | exact .inl ⟨h2, h1⟩ | exact .inl h2 | exact .inr h2 | exact .inr (.inl h2) | exact .inr (.inr h2) | ((try dsimp only at *); omega)))
    exact ⟨_, rfl, congrArg Value.bool (by rw [List.take_of_length_le (by omega)] at hall; rw [hall]; simp), hstl, hs34⟩
set_option maxRecDepth 100000 in
theorem lranked_any (o : Od) (L1 L2 : List Nd) (q : LpoQ) (w0 : World) (n : Nat) (hH : LpoH o L1 L2) (hA : AboveOK o L1 L2 q w0 n) (i k : Nat) (w : World) (hi : i < L1.length) (hk : k < L2.length) (hz : (ndget L1 i).t.size + (ndget L2 k).t.size ≤ n + 1) (hf : 0 ≤ (ndget L1 i).t.f) (hst : LpoSt o L1 L2 q w0 w) :
  Calls Try.prog 64 #[.pointer (some ⟨q.gw, 0, none⟩), .int .i64 (i : Int), .int .i64 (k : Int)] w (Ret fun v' w' => v' = .bool (((decide ((0 : Int) ≤ (ndget L2 k).t.f) && ((ndget L1 i).t.f != (ndget L2 k).t.f)) && decide (o.rank (ndget L2 k).t.f < o.rank (ndget L1 i).t.f)) && (ndget L2 k).t.args.all (o.lg (ndget L1 i).t)) ∧ LpoSt o L1 L2 q w0 w' ∧ Chg (fun b => b = q.gm) w w') := by
 have hg1 := (hH.g1 i hi).1
 have hg2 := (hH.g2 k hk).1
 have hz1 := hH.z1 i hi
 have hz2 := hH.z2 k hk
 have ha1 := args_le (ndget L1 i).t
 have ha2 := args_le (ndget L2 k).t
 have hf1 := (hst.n1.t i hi).form.1.1
 have hf1' := (hst.n1.t i hi).form.1.2
 have hf2 := (hst.n2.t k hk).form.1.1
 have hf2' := (hst.n2.t k hk).form.1.2
 have hp1 := (lknows_top (hH.k1 i hi)).1
 have hp2 := (lknows_top (hH.k2 k hk)).1
 have hst0 := hst
 obtain ⟨hl1, hl2, hl3, hl4⟩ := hst.glt
 have hgm := hst.hgm
 refine Calls.walk (l := [.pointer (some ⟨q.gw, 0, none⟩), .int .i64 (((i : Nat) : Int)), .int .i64 (((k : Nat) : Int))]) Try.func64 rfl (by kernel_rfl) ?_
 refine WC.sub (K' := [(0, .pointer (some ⟨q.gw, 0, none⟩)), (1, .int .i64 (((i : Nat) : Int))), (2, .int .i64 (((k : Nat) : Int)))]) ⟨rfl, rfl, rfl, trivial⟩ ?_
 refine WC.seq (WC.region (WL.asg rfl rfl rfl rfl rfl (WL.nil (WE.next (WC.seq ?_)))))
 refine WC.opt [(true, .val (.pointer (some ⟨q.gw, 0, none⟩))), (true, .val (.pointer (some ⟨q.gw, 0, none⟩))), (true, .val (.pointer (some ⟨q.gw, 4, none⟩))), (true, .val (.slice ((some ⟨q.b1, 0, none⟩)) L1.length q.r1)), (true, .val (.int .i64 (((i : Nat) : Int)))), (true, .val (.pointer (some ⟨q.b1, 0 + i * 3, none⟩))), (true, .val (.pointer (some ⟨q.b1, 0 + i * 3, none⟩))), (true, .val (.pointer (some ⟨q.b1, 0 + i * 3, none⟩))), (true, .val (.int .i64 ((ndget L1 i).t.f))), (true, .val (.pointer (some ⟨q.gw, 0, none⟩))), (true, .val (.pointer (some ⟨q.gw, 0, none⟩))), (true, .val (.pointer (some ⟨q.gw, 5, none⟩))), (true, .val (.slice ((some ⟨q.b2, 0, none⟩)) L2.length q.r2)), (true, .val (.int .i64 (((k : Nat) : Int)))), (true, .val (.pointer (some ⟨q.b2, 0 + k * 3, none⟩))), (true, .val (.pointer (some ⟨q.b2, 0 + k * 3, none⟩))), (true, .val (.pointer (some ⟨q.b2, 0 + k * 3, none⟩))), (true, .val (.int .i64 ((ndget L2 k).t.f))), (true, .val (.int .i64 ((ndget L1 i).t.f))), (true, .val (.int .i64 ((ndget L2 k).t.f)))] [(0, .pointer (some ⟨q.gw, 0, none⟩)), (1, .int .i64 (((i : Nat) : Int))), (2, .int .i64 (((k : Nat) : Int))), (6, .bool false)] ⟨rfl, rfl, rfl, rfl, trivial⟩ (by kernel_rfl) (by kernel_rfl) (by kernel_rfl) ?_ ?_
 ·refine ⟨⟨true, .none rfl, fun h w => optUndef h, fun zβ za zw zc => ?_⟩, ?_⟩
  ·exact wp_move rfl (zc.kn.ev rfl) ⟨_, rfl, Below.refl _ _, optDef zβ rfl⟩
  refine ⟨⟨true, .none rfl, fun h w => optUndef h, fun zβ za zw zc => ?_⟩, ?_⟩
  ·exact nilCheck_ rfl ((evt za 9).trans (optVal (zc.dep 0 9 (by kernel_rfl)) rfl rfl)) ⟨_, rfl, Below.refl _ _, optDef zβ rfl⟩
  refine ⟨⟨true, .none rfl, fun h w => optUndef h, fun zβ za zw zc => ?_⟩, ?_⟩
  ·exact fld_87_1 rfl ((evt za 10).trans (optVal (zc.dep 1 10 (by kernel_rfl)) rfl rfl)) ⟨_, rfl, Below.refl _ _, optDef zβ rfl⟩
  refine ⟨⟨true, .none rfl, fun h w => optUndef h, fun zβ za zw zc => ?_⟩, ?_⟩
  ·exact ld_83 rfl ((evt za 11).trans (optVal (zc.dep 2 11 (by kernel_rfl)) rfl rfl)) (bkeeps zc.below _ _ ((hst.blk.cell 4).trans rfl)) ⟨_, rfl, Below.refl _ _, optDef zβ rfl⟩
  refine ⟨⟨true, .none rfl, fun h w => optUndef h, fun zβ za zw zc => ?_⟩, ?_⟩
  ·exact wp_move rfl (zc.kn.ev rfl) ⟨_, rfl, Below.refl _ _, optDef zβ rfl⟩
  refine ⟨⟨true, .none rfl, fun h w => optUndef h, fun zβ za zw zc => ?_⟩, ?_⟩
  ·exact ix_83 (k := i) rfl ((evt za 12).trans (optVal (zc.dep 3 12 (by kernel_rfl)) rfl rfl)) rfl ((evt za 13).trans (optVal (zc.dep 4 13 (by kernel_rfl)) rfl rfl)) (by first | omega | (simp; omega)) ⟨_, rfl, Below.refl _ _, optDef zβ rfl⟩
  refine ⟨⟨true, .none rfl, fun h w => optUndef h, fun zβ za zw zc => ?_⟩, ?_⟩
  ·exact fld_92_0 rfl ((evt za 14).trans (optVal (zc.dep 5 14 (by kernel_rfl)) rfl rfl)) ⟨_, rfl, Below.refl _ _, optDef zβ rfl⟩
  refine ⟨⟨true, .none rfl, fun h w => optUndef h, fun zβ za zw zc => ?_⟩, ?_⟩
  ·exact fld_34_0 rfl ((evt za 15).trans (optVal (zc.dep 6 15 (by kernel_rfl)) rfl rfl)) ⟨_, rfl, Below.refl _ _, optDef zβ rfl⟩
  refine ⟨⟨true, .none rfl, fun h w => optUndef h, fun zβ za zw zc => ?_⟩, ?_⟩
  ·exact ld_3 rfl ((evt za 16).trans (optVal (zc.dep 7 16 (by kernel_rfl)) rfl rfl)) ((hst.bel zc.below).n1.c0 i (by first | omega | (simp; omega))) ⟨_, rfl, Below.refl _ _, optDef zβ rfl⟩
  refine ⟨⟨true, .none rfl, fun h w => optUndef h, fun zβ za zw zc => ?_⟩, ?_⟩
  ·exact wp_move rfl (zc.kn.ev rfl) ⟨_, rfl, Below.refl _ _, optDef zβ rfl⟩
  refine ⟨⟨true, .none rfl, fun h w => optUndef h, fun zβ za zw zc => ?_⟩, ?_⟩
  ·exact nilCheck_ rfl ((evt za 18).trans (optVal (zc.dep 9 18 (by kernel_rfl)) rfl rfl)) ⟨_, rfl, Below.refl _ _, optDef zβ rfl⟩
  refine ⟨⟨true, .none rfl, fun h w => optUndef h, fun zβ za zw zc => ?_⟩, ?_⟩
  ·exact fld_87_2 rfl ((evt za 19).trans (optVal (zc.dep 10 19 (by kernel_rfl)) rfl rfl)) ⟨_, rfl, Below.refl _ _, optDef zβ rfl⟩
  refine ⟨⟨true, .none rfl, fun h w => optUndef h, fun zβ za zw zc => ?_⟩, ?_⟩
  ·exact ld_83 rfl ((evt za 20).trans (optVal (zc.dep 11 20 (by kernel_rfl)) rfl rfl)) (bkeeps zc.below _ _ ((hst.blk.cell 5).trans rfl)) ⟨_, rfl, Below.refl _ _, optDef zβ rfl⟩
  refine ⟨⟨true, .none rfl, fun h w => optUndef h, fun zβ za zw zc => ?_⟩, ?_⟩
  ·exact wp_move rfl (zc.kn.ev rfl) ⟨_, rfl, Below.refl _ _, optDef zβ rfl⟩
  refine ⟨⟨true, .none rfl, fun h w => optUndef h, fun zβ za zw zc => ?_⟩, ?_⟩
  ·exact ix_83 (k := k) rfl ((evt za 21).trans (optVal (zc.dep 12 21 (by kernel_rfl)) rfl rfl)) rfl ((evt za 22).trans (optVal (zc.dep 13 22 (by kernel_rfl)) rfl rfl)) (by first | omega | (simp; omega)) ⟨_, rfl, Below.refl _ _, optDef zβ rfl⟩
  refine ⟨⟨true, .none rfl, fun h w => optUndef h, fun zβ za zw zc => ?_⟩, ?_⟩
  ·exact fld_92_0 rfl ((evt za 23).trans (optVal (zc.dep 14 23 (by kernel_rfl)) rfl rfl)) ⟨_, rfl, Below.refl _ _, optDef zβ rfl⟩
  refine ⟨⟨true, .none rfl, fun h w => optUndef h, fun zβ za zw zc => ?_⟩, ?_⟩
  ·exact fld_34_0 rfl ((evt za 24).trans (optVal (zc.dep 15 24 (by kernel_rfl)) rfl rfl)) ⟨_, rfl, Below.refl _ _, optDef zβ rfl⟩
  refine ⟨⟨true, .none rfl, fun h w => optUndef h, fun zβ za zw zc => ?_⟩, ?_⟩
  ·exact ld_3 rfl ((evt za 25).trans (optVal (zc.dep 16 25 (by kernel_rfl)) rfl rfl)) ((hst.bel zc.below).n2.c0 k (by first | omega | (simp; omega))) ⟨_, rfl, Below.refl _ _, optDef zβ rfl⟩
  refine ⟨⟨true, .none rfl, fun h w => optUndef h, fun zβ za zw zc => ?_⟩, ?_⟩
  ·exact wp_assign rfl ((evt za 17).trans (optVal (zc.dep 8 17 (by kernel_rfl)) rfl rfl)) ⟨_, rfl, Below.refl _ _, optDef zβ rfl⟩
  refine ⟨⟨true, .none rfl, fun h w => optUndef h, fun zβ za zw zc => ?_⟩, ?_⟩
  ·exact wp_assign rfl ((evt za 26).trans (optVal (zc.dep 17 26 (by kernel_rfl)) rfl rfl)) ⟨_, rfl, Below.refl _ _, optDef zβ rfl⟩
  exact trivial
 ·intro za w1 zh hb2 zu
  have zh := zh.cons (d := 7) (v := .int .i64 ((ndget L1 i).t.f)) (optVal (zu 18 7 (by kernel_rfl)) rfl rfl)
  have zh := zh.cons (d := 8) (v := .int .i64 ((ndget L2 k).t.f)) (optVal (zu 19 8 (by kernel_rfl)) rfl rfl)
  clear zu
  refine WE.go zh ?_
  refine WE.next (WC.seq ?_)
  have hB3 := hst.blk.below hb2
  obtain ⟨b4, o5, ha6, hc7⟩ := IsInts.open hst0.prec
  have hb8 : Below w0.heap.size w0 w1 := (bstep hst.below hb2)
  refine WC.optc [(true, .int .i64 ((ndget L2 k).t.f)), (true, .bool ((decide ((0 : Int) ≤ ((ndget L2 k).t.f : Int))))), (true, .bool ((decide ((0 : Int) ≤ ((ndget L2 k).t.f : Int))))), ((true && (decide ((0 : Int) ≤ ((ndget L2 k).t.f : Int)))), .int .i64 ((ndget L1 i).t.f)), ((true && (decide ((0 : Int) ≤ ((ndget L2 k).t.f : Int)))), .int .i64 ((ndget L2 k).t.f)), ((true && (decide ((0 : Int) ≤ ((ndget L2 k).t.f : Int)))), .bool ((((ndget L1 i).t.f : Int) != ((ndget L2 k).t.f : Int)))), (true, .bool (((decide ((0 : Int) ≤ ((ndget L2 k).t.f : Int))) && (((ndget L1 i).t.f : Int) != ((ndget L2 k).t.f : Int))))), (true, .bool (((decide ((0 : Int) ≤ ((ndget L2 k).t.f : Int))) && (((ndget L1 i).t.f : Int) != ((ndget L2 k).t.f : Int))))), ((true && ((decide ((0 : Int) ≤ ((ndget L2 k).t.f : Int))) && (((ndget L1 i).t.f : Int) != ((ndget L2 k).t.f : Int)))), .pointer (some ⟨q.gw, 0, none⟩)), ((true && ((decide ((0 : Int) ≤ ((ndget L2 k).t.f : Int))) && (((ndget L1 i).t.f : Int) != ((ndget L2 k).t.f : Int)))), .pointer (some ⟨q.gw, 0, none⟩)), ((true && ((decide ((0 : Int) ≤ ((ndget L2 k).t.f : Int))) && (((ndget L1 i).t.f : Int) != ((ndget L2 k).t.f : Int)))), .pointer (some ⟨q.gw, 0, none⟩)), ((true && ((decide ((0 : Int) ≤ ((ndget L2 k).t.f : Int))) && (((ndget L1 i).t.f : Int) != ((ndget L2 k).t.f : Int)))), .pointer (some ⟨q.gw, 1, none⟩)), ((true && ((decide ((0 : Int) ≤ ((ndget L2 k).t.f : Int))) && (((ndget L1 i).t.f : Int) != ((ndget L2 k).t.f : Int)))), .slice q.p1 o.prec.length q.k1), ((true && ((decide ((0 : Int) ≤ ((ndget L2 k).t.f : Int))) && (((ndget L1 i).t.f : Int) != ((ndget L2 k).t.f : Int)))), .int .i64 ((ndget L1 i).t.f)), ((true && ((decide ((0 : Int) ≤ ((ndget L2 k).t.f : Int))) && (((ndget L1 i).t.f : Int) != ((ndget L2 k).t.f : Int)))), .pointer (some ⟨b4, o5 + (Int.toNat ((ndget L1 i).t.f)), none⟩)), ((true && ((decide ((0 : Int) ≤ ((ndget L2 k).t.f : Int))) && (((ndget L1 i).t.f : Int) != ((ndget L2 k).t.f : Int)))), .int .i64 ((iget o.prec (Int.toNat ((ndget L1 i).t.f))))), ((true && ((decide ((0 : Int) ≤ ((ndget L2 k).t.f : Int))) && (((ndget L1 i).t.f : Int) != ((ndget L2 k).t.f : Int)))), .pointer (some ⟨q.gw, 0, none⟩)), ((true && ((decide ((0 : Int) ≤ ((ndget L2 k).t.f : Int))) && (((ndget L1 i).t.f : Int) != ((ndget L2 k).t.f : Int)))), .pointer (some ⟨q.gw, 0, none⟩)), ((true && ((decide ((0 : Int) ≤ ((ndget L2 k).t.f : Int))) && (((ndget L1 i).t.f : Int) != ((ndget L2 k).t.f : Int)))), .pointer (some ⟨q.gw, 0, none⟩)), ((true && ((decide ((0 : Int) ≤ ((ndget L2 k).t.f : Int))) && (((ndget L1 i).t.f : Int) != ((ndget L2 k).t.f : Int)))), .pointer (some ⟨q.gw, 1, none⟩)), ((true && ((decide ((0 : Int) ≤ ((ndget L2 k).t.f : Int))) && (((ndget L1 i).t.f : Int) != ((ndget L2 k).t.f : Int)))), .slice q.p1 o.prec.length q.k1), ((true && ((decide ((0 : Int) ≤ ((ndget L2 k).t.f : Int))) && (((ndget L1 i).t.f : Int) != ((ndget L2 k).t.f : Int)))), .int .i64 ((ndget L2 k).t.f)), ((true && ((decide ((0 : Int) ≤ ((ndget L2 k).t.f : Int))) && (((ndget L1 i).t.f : Int) != ((ndget L2 k).t.f : Int)))), .pointer (some ⟨b4, o5 + (Int.toNat ((ndget L2 k).t.f)), none⟩)), ((true && ((decide ((0 : Int) ≤ ((ndget L2 k).t.f : Int))) && (((ndget L1 i).t.f : Int) != ((ndget L2 k).t.f : Int)))), .int .i64 ((iget o.prec (Int.toNat ((ndget L2 k).t.f))))), ((true && ((decide ((0 : Int) ≤ ((ndget L2 k).t.f : Int))) && (((ndget L1 i).t.f : Int) != ((ndget L2 k).t.f : Int)))), .bool ((decide (((iget o.prec (Int.toNat ((ndget L2 k).t.f))) : Int) < ((iget o.prec (Int.toNat ((ndget L1 i).t.f))) : Int))))), (true, .bool ((((decide ((0 : Int) ≤ ((ndget L2 k).t.f : Int))) && (((ndget L1 i).t.f : Int) != ((ndget L2 k).t.f : Int))) && (decide (((iget o.prec (Int.toNat ((ndget L2 k).t.f))) : Int) < ((iget o.prec (Int.toNat ((ndget L1 i).t.f))) : Int)))))), (true, .bool ((((decide ((0 : Int) ≤ ((ndget L2 k).t.f : Int))) && (((ndget L1 i).t.f : Int) != ((ndget L2 k).t.f : Int))) && (decide (((iget o.prec (Int.toNat ((ndget L2 k).t.f))) : Int) < ((iget o.prec (Int.toNat ((ndget L1 i).t.f))) : Int)))))), ((true && (((decide ((0 : Int) ≤ ((ndget L2 k).t.f : Int))) && (((ndget L1 i).t.f : Int) != ((ndget L2 k).t.f : Int))) && (decide (((iget o.prec (Int.toNat ((ndget L2 k).t.f))) : Int) < ((iget o.prec (Int.toNat ((ndget L1 i).t.f))) : Int))))), .pointer (some ⟨q.gw, 0, none⟩)), ((true && (((decide ((0 : Int) ≤ ((ndget L2 k).t.f : Int))) && (((ndget L1 i).t.f : Int) != ((ndget L2 k).t.f : Int))) && (decide (((iget o.prec (Int.toNat ((ndget L2 k).t.f))) : Int) < ((iget o.prec (Int.toNat ((ndget L1 i).t.f))) : Int))))), .int .i64 (((i : Nat) : Int))), ((true && (((decide ((0 : Int) ≤ ((ndget L2 k).t.f : Int))) && (((ndget L1 i).t.f : Int) != ((ndget L2 k).t.f : Int))) && (decide (((iget o.prec (Int.toNat ((ndget L2 k).t.f))) : Int) < ((iget o.prec (Int.toNat ((ndget L1 i).t.f))) : Int))))), .int .i64 (((k : Nat) : Int))), ((true && (((decide ((0 : Int) ≤ ((ndget L2 k).t.f : Int))) && (((ndget L1 i).t.f : Int) != ((ndget L2 k).t.f : Int))) && (decide (((iget o.prec (Int.toNat ((ndget L2 k).t.f))) : Int) < ((iget o.prec (Int.toNat ((ndget L1 i).t.f))) : Int))))), .bool (((ndget L2 k).t.args.all (o.lg (ndget L1 i).t)))), (true, .bool (((((decide ((0 : Int) ≤ ((ndget L2 k).t.f : Int))) && (((ndget L1 i).t.f : Int) != ((ndget L2 k).t.f : Int))) && (decide (((iget o.prec (Int.toNat ((ndget L2 k).t.f))) : Int) < ((iget o.prec (Int.toNat ((ndget L1 i).t.f))) : Int)))) && ((ndget L2 k).t.args.all (o.lg (ndget L1 i).t))))), (true, .bool (((((decide ((0 : Int) ≤ ((ndget L2 k).t.f : Int))) && (((ndget L1 i).t.f : Int) != ((ndget L2 k).t.f : Int))) && (decide (((iget o.prec (Int.toNat ((ndget L2 k).t.f))) : Int) < ((iget o.prec (Int.toNat ((ndget L1 i).t.f))) : Int)))) && ((ndget L2 k).t.args.all (o.lg (ndget L1 i).t)))))] [(0, .pointer (some ⟨q.gw, 0, none⟩)), (1, .int .i64 (((i : Nat) : Int))), (2, .int .i64 (((k : Nat) : Int))), (7, .int .i64 ((ndget L1 i).t.f)), (8, .int .i64 ((ndget L2 k).t.f))] (S := (fun b => b = q.gm)) (I := (LpoSt o L1 L2 q w0)) (fun _ _ hb h => h.bel hb) (hst.bel hb2) ⟨rfl, rfl, rfl, rfl, rfl, trivial⟩ (by kernel_rfl) (by kernel_rfl) (by kernel_rfl) ?_ ?_
  ·refine ⟨⟨true, .none rfl, fun h => optUndef h, fun zβ za zw zc => ?_⟩, ?_⟩
   ·exact wp_move rfl (zc.kn.ev rfl) ⟨_, rfl, zc.chg, zc.inv, optDef zβ rfl⟩
   refine ⟨⟨true, .none rfl, fun h => optUndef h, fun zβ za zw zc => ?_⟩, ?_⟩
   ·exact geq_3 rfl ((evt za 27).trans (valVal (zc.dep 0 27 (by kernel_rfl)) rfl rfl)) (zc.kn.ev rfl) ⟨_, rfl, zc.chg, zc.inv, optDef zβ rfl⟩
   refine ⟨⟨true, .none rfl, fun h => optUndef h, fun zβ za zw zc => ?_⟩, ?_⟩
   ·exact wp_move rfl ((evt za 28).trans (valVal (zc.dep 1 28 (by kernel_rfl)) rfl rfl)) ⟨_, rfl, zc.chg, zc.inv, optDef zβ rfl⟩
   refine ⟨⟨_, .yes (c := (decide ((0 : Int) ≤ ((ndget L2 k).t.f : Int)))) (d := true) rfl (fun v w h => h), fun h => optUndef h, fun zβ za zw zc => ?_⟩, ?_⟩
   ·exact wp_move rfl (zc.kn.ev rfl) ⟨_, rfl, zc.chg, zc.inv, optDef zβ rfl⟩
   refine ⟨⟨_, .yes (c := (decide ((0 : Int) ≤ ((ndget L2 k).t.f : Int)))) (d := true) rfl (fun v w h => h), fun h => optUndef h, fun zβ za zw zc => ?_⟩, ?_⟩
   ·exact wp_move rfl (zc.kn.ev rfl) ⟨_, rfl, zc.chg, zc.inv, optDef zβ rfl⟩
   refine ⟨⟨_, .yes (c := (decide ((0 : Int) ≤ ((ndget L2 k).t.f : Int)))) (d := true) rfl (fun v w h => h), fun h => optUndef h, fun zβ za zw zc => ?_⟩, ?_⟩
   ·exact neq_3 rfl ((evt za 30).trans (valVal (zc.dep 3 30 (by kernel_rfl)) rfl zβ)) ((evt za 31).trans (valVal (zc.dep 4 31 (by kernel_rfl)) rfl zβ)) ⟨_, rfl, zc.chg, zc.inv, optDef zβ rfl⟩
   refine ⟨⟨true, .none rfl, fun h => optUndef h, fun zβ za zw zc => ?_⟩, ?_⟩
   ·exact wp_and rfl ((evt za 29).trans (valVal (zc.dep 2 29 (by kernel_rfl)) rfl rfl)) (fun hp => ((evt za 32).trans (valVal (zc.dep 5 32 (by kernel_rfl)) rfl (bMk zβ hp)))) ⟨_, rfl, zc.chg, zc.inv, optDef zβ rfl⟩
   refine ⟨⟨true, .none rfl, fun h => optUndef h, fun zβ za zw zc => ?_⟩, ?_⟩
   ·exact wp_move rfl ((evt za 33).trans (valVal (zc.dep 6 33 (by kernel_rfl)) rfl rfl)) ⟨_, rfl, zc.chg, zc.inv, optDef zβ rfl⟩
   refine ⟨⟨_, .yes (c := ((decide ((0 : Int) ≤ ((ndget L2 k).t.f : Int))) && (((ndget L1 i).t.f : Int) != ((ndget L2 k).t.f : Int)))) (d := true) rfl (fun v w h => h), fun h => optUndef h, fun zβ za zw zc => ?_⟩, ?_⟩
   ·exact wp_move rfl (zc.kn.ev rfl) ⟨_, rfl, zc.chg, zc.inv, optDef zβ rfl⟩
   refine ⟨⟨_, .yes (c := ((decide ((0 : Int) ≤ ((ndget L2 k).t.f : Int))) && (((ndget L1 i).t.f : Int) != ((ndget L2 k).t.f : Int)))) (d := true) rfl (fun v w h => h), fun h => optUndef h, fun zβ za zw zc => ?_⟩, ?_⟩
   ·exact nilCheck_ rfl ((evt za 35).trans (valVal (zc.dep 8 35 (by kernel_rfl)) rfl zβ)) ⟨_, rfl, zc.chg, zc.inv, optDef zβ rfl⟩
   refine ⟨⟨_, .yes (c := ((decide ((0 : Int) ≤ ((ndget L2 k).t.f : Int))) && (((ndget L1 i).t.f : Int) != ((ndget L2 k).t.f : Int)))) (d := true) rfl (fun v w h => h), fun h => optUndef h, fun zβ za zw zc => ?_⟩, ?_⟩
   ·exact fld_87_0 rfl ((evt za 36).trans (valVal (zc.dep 9 36 (by kernel_rfl)) rfl zβ)) ⟨_, rfl, zc.chg, zc.inv, optDef zβ rfl⟩
   refine ⟨⟨_, .yes (c := ((decide ((0 : Int) ≤ ((ndget L2 k).t.f : Int))) && (((ndget L1 i).t.f : Int) != ((ndget L2 k).t.f : Int)))) (d := true) rfl (fun v w h => h), fun h => optUndef h, fun zβ za zw zc => ?_⟩, ?_⟩
   ·exact fld_24_1 rfl ((evt za 37).trans (valVal (zc.dep 10 37 (by kernel_rfl)) rfl zβ)) ⟨_, rfl, zc.chg, zc.inv, optDef zβ rfl⟩
   refine ⟨⟨_, .yes (c := ((decide ((0 : Int) ≤ ((ndget L2 k).t.f : Int))) && (((ndget L1 i).t.f : Int) != ((ndget L2 k).t.f : Int)))) (d := true) rfl (fun v w h => h), fun h => optUndef h, fun zβ za zw zc => ?_⟩, ?_⟩
   ·exact ld_22 rfl ((evt za 38).trans (valVal (zc.dep 11 38 (by kernel_rfl)) rfl zβ)) (chg_cell zc.chg (by (try dsimp only at *); omega) ((hB3.cell 1).trans rfl)) ⟨_, rfl, zc.chg, zc.inv, optDef zβ rfl⟩
   refine ⟨⟨_, .yes (c := ((decide ((0 : Int) ≤ ((ndget L2 k).t.f : Int))) && (((ndget L1 i).t.f : Int) != ((ndget L2 k).t.f : Int)))) (d := true) rfl (fun v w h => h), fun h => optUndef h, fun zβ za zw zc => ?_⟩, ?_⟩
   ·exact wp_move rfl (zc.kn.ev rfl) ⟨_, rfl, zc.chg, zc.inv, optDef zβ rfl⟩
   refine ⟨⟨_, .yes (c := ((decide ((0 : Int) ≤ ((ndget L2 k).t.f : Int))) && (((ndget L1 i).t.f : Int) != ((ndget L2 k).t.f : Int)))) (d := true) rfl (fun v w h => h), fun h => optUndef h, fun zβ za zw zc => ?_⟩, ?_⟩
   ·exact ix_22 (k := Int.toNat ((ndget L1 i).t.f)) rfl ((evt za 39).trans (valVal (zc.dep 12 39 (by kernel_rfl)) rfl zβ)) (ha6 (Int.toNat ((ndget L1 i).t.f)) (by first | omega | (have zz := zβ; simp only [Bool.and_eq_true, Bool.or_eq_true, Bool.true_and, Bool.not_eq_true', Bool.or_eq_false_iff, Bool.and_eq_false_iff, beq_eq_false_iff_ne, ne_eq, beq_iff_eq, decide_eq_true_eq, decide_eq_false_iff_not, bne_iff_ne, bne_eq_false_iff_eq] at zz; omega))) (((evt za 40).trans (valVal (zc.dep 13 40 (by kernel_rfl)) rfl zβ)).trans (congrArg (Value.int .i64) (Int.toNat_of_nonneg (by have zz := zβ; simp only [Bool.and_eq_true, Bool.or_eq_true, Bool.true_and, beq_iff_eq, decide_eq_true_eq, bne_iff_ne, ne_eq] at zz; omega)).symm)) (by first | omega | (have zz := zβ; simp only [Bool.and_eq_true, Bool.or_eq_true, Bool.true_and, Bool.not_eq_true', Bool.or_eq_false_iff, Bool.and_eq_false_iff, beq_eq_false_iff_ne, ne_eq, beq_iff_eq, decide_eq_true_eq, decide_eq_false_iff_not, bne_iff_ne, bne_eq_false_iff_eq] at zz; omega)) ⟨_, rfl, zc.chg, zc.inv, optDef zβ rfl⟩
   refine ⟨⟨_, .yes (c := ((decide ((0 : Int) ≤ ((ndget L2 k).t.f : Int))) && (((ndget L1 i).t.f : Int) != ((ndget L2 k).t.f : Int)))) (d := true) rfl (fun v w h => h), fun h => optUndef h, fun zβ za zw zc => ?_⟩, ?_⟩
   ·exact ld_3 rfl ((evt za 41).trans (valVal (zc.dep 14 41 (by kernel_rfl)) rfl zβ)) (chg_old hb8 zc.chg (fun b hb => by (try dsimp only at *); omega) (hc7 (Int.toNat ((ndget L1 i).t.f)) (by first | omega | (have zz := zβ; simp only [Bool.and_eq_true, Bool.or_eq_true, Bool.true_and, Bool.not_eq_true', Bool.or_eq_false_iff, Bool.and_eq_false_iff, beq_eq_false_iff_ne, ne_eq, beq_iff_eq, decide_eq_true_eq, decide_eq_false_iff_not, bne_iff_ne, bne_eq_false_iff_eq] at zz; omega)))) ⟨_, rfl, zc.chg, zc.inv, optDef zβ rfl⟩
   refine ⟨⟨_, .yes (c := ((decide ((0 : Int) ≤ ((ndget L2 k).t.f : Int))) && (((ndget L1 i).t.f : Int) != ((ndget L2 k).t.f : Int)))) (d := true) rfl (fun v w h => h), fun h => optUndef h, fun zβ za zw zc => ?_⟩, ?_⟩
   ·exact wp_move rfl (zc.kn.ev rfl) ⟨_, rfl, zc.chg, zc.inv, optDef zβ rfl⟩
   refine ⟨⟨_, .yes (c := ((decide ((0 : Int) ≤ ((ndget L2 k).t.f : Int))) && (((ndget L1 i).t.f : Int) != ((ndget L2 k).t.f : Int)))) (d := true) rfl (fun v w h => h), fun h => optUndef h, fun zβ za zw zc => ?_⟩, ?_⟩
   ·exact nilCheck_ rfl ((evt za 43).trans (valVal (zc.dep 16 43 (by kernel_rfl)) rfl zβ)) ⟨_, rfl, zc.chg, zc.inv, optDef zβ rfl⟩
   refine ⟨⟨_, .yes (c := ((decide ((0 : Int) ≤ ((ndget L2 k).t.f : Int))) && (((ndget L1 i).t.f : Int) != ((ndget L2 k).t.f : Int)))) (d := true) rfl (fun v w h => h), fun h => optUndef h, fun zβ za zw zc => ?_⟩, ?_⟩
   ·exact fld_87_0 rfl ((evt za 44).trans (valVal (zc.dep 17 44 (by kernel_rfl)) rfl zβ)) ⟨_, rfl, zc.chg, zc.inv, optDef zβ rfl⟩
   refine ⟨⟨_, .yes (c := ((decide ((0 : Int) ≤ ((ndget L2 k).t.f : Int))) && (((ndget L1 i).t.f : Int) != ((ndget L2 k).t.f : Int)))) (d := true) rfl (fun v w h => h), fun h => optUndef h, fun zβ za zw zc => ?_⟩, ?_⟩
   ·exact fld_24_1 rfl ((evt za 45).trans (valVal (zc.dep 18 45 (by kernel_rfl)) rfl zβ)) ⟨_, rfl, zc.chg, zc.inv, optDef zβ rfl⟩
   refine ⟨⟨_, .yes (c := ((decide ((0 : Int) ≤ ((ndget L2 k).t.f : Int))) && (((ndget L1 i).t.f : Int) != ((ndget L2 k).t.f : Int)))) (d := true) rfl (fun v w h => h), fun h => optUndef h, fun zβ za zw zc => ?_⟩, ?_⟩
   ·exact ld_22 rfl ((evt za 46).trans (valVal (zc.dep 19 46 (by kernel_rfl)) rfl zβ)) (chg_cell zc.chg (by (try dsimp only at *); omega) ((hB3.cell 1).trans rfl)) ⟨_, rfl, zc.chg, zc.inv, optDef zβ rfl⟩
   refine ⟨⟨_, .yes (c := ((decide ((0 : Int) ≤ ((ndget L2 k).t.f : Int))) && (((ndget L1 i).t.f : Int) != ((ndget L2 k).t.f : Int)))) (d := true) rfl (fun v w h => h), fun h => optUndef h, fun zβ za zw zc => ?_⟩, ?_⟩
   ·exact wp_move rfl (zc.kn.ev rfl) ⟨_, rfl, zc.chg, zc.inv, optDef zβ rfl⟩
   refine ⟨⟨_, .yes (c := ((decide ((0 : Int) ≤ ((ndget L2 k).t.f : Int))) && (((ndget L1 i).t.f : Int) != ((ndget L2 k).t.f : Int)))) (d := true) rfl (fun v w h => h), fun h => optUndef h, fun zβ za zw zc => ?_⟩, ?_⟩
   ·exact ix_22 (k := Int.toNat ((ndget L2 k).t.f)) rfl ((evt za 47).trans (valVal (zc.dep 20 47 (by kernel_rfl)) rfl zβ)) (ha6 (Int.toNat ((ndget L2 k).t.f)) (by first | omega | (have zz := zβ; simp only [Bool.and_eq_true, Bool.or_eq_true, Bool.true_and, Bool.not_eq_true', Bool.or_eq_false_iff, Bool.and_eq_false_iff, beq_eq_false_iff_ne, ne_eq, beq_iff_eq, decide_eq_true_eq, decide_eq_false_iff_not, bne_iff_ne, bne_eq_false_iff_eq] at zz; omega))) (((evt za 48).trans (valVal (zc.dep 21 48 (by kernel_rfl)) rfl zβ)).trans (congrArg (Value.int .i64) (Int.toNat_of_nonneg (by have zz := zβ; simp only [Bool.and_eq_true, Bool.or_eq_true, Bool.true_and, beq_iff_eq, decide_eq_true_eq, bne_iff_ne, ne_eq] at zz; omega)).symm)) (by first | omega | (have zz := zβ; simp only [Bool.and_eq_true, Bool.or_eq_true, Bool.true_and, Bool.not_eq_true', Bool.or_eq_false_iff, Bool.and_eq_false_iff, beq_eq_false_iff_ne, ne_eq, beq_iff_eq, decide_eq_true_eq, decide_eq_false_iff_not, bne_iff_ne, bne_eq_false_iff_eq] at zz; omega)) ⟨_, rfl, zc.chg, zc.inv, optDef zβ rfl⟩
   refine ⟨⟨_, .yes (c := ((decide ((0 : Int) ≤ ((ndget L2 k).t.f : Int))) && (((ndget L1 i).t.f : Int) != ((ndget L2 k).t.f : Int)))) (d := true) rfl (fun v w h => h), fun h => optUndef h, fun zβ za zw zc => ?_⟩, ?_⟩
   ·exact ld_3 rfl ((evt za 49).trans (valVal (zc.dep 22 49 (by kernel_rfl)) rfl zβ)) (chg_old hb8 zc.chg (fun b hb => by (try dsimp only at *); omega) (hc7 (Int.toNat ((ndget L2 k).t.f)) (by first | omega | (have zz := zβ; simp only [Bool.and_eq_true, Bool.or_eq_true, Bool.true_and, Bool.not_eq_true', Bool.or_eq_false_iff, Bool.and_eq_false_iff, beq_eq_false_iff_ne, ne_eq, beq_iff_eq, decide_eq_true_eq, decide_eq_false_iff_not, bne_iff_ne, bne_eq_false_iff_eq] at zz; omega)))) ⟨_, rfl, zc.chg, zc.inv, optDef zβ rfl⟩
   refine ⟨⟨_, .yes (c := ((decide ((0 : Int) ≤ ((ndget L2 k).t.f : Int))) && (((ndget L1 i).t.f : Int) != ((ndget L2 k).t.f : Int)))) (d := true) rfl (fun v w h => h), fun h => optUndef h, fun zβ za zw zc => ?_⟩, ?_⟩
   ·exact gtr_3 rfl ((evt za 42).trans (valVal (zc.dep 15 42 (by kernel_rfl)) rfl zβ)) ((evt za 50).trans (valVal (zc.dep 23 50 (by kernel_rfl)) rfl zβ)) ⟨_, rfl, zc.chg, zc.inv, optDef zβ rfl⟩
   refine ⟨⟨true, .none rfl, fun h => optUndef h, fun zβ za zw zc => ?_⟩, ?_⟩
   ·exact wp_and rfl ((evt za 34).trans (valVal (zc.dep 7 34 (by kernel_rfl)) rfl rfl)) (fun hp => ((evt za 51).trans (valVal (zc.dep 24 51 (by kernel_rfl)) rfl (bMk zβ hp)))) ⟨_, rfl, zc.chg, zc.inv, optDef zβ rfl⟩
   refine ⟨⟨true, .none rfl, fun h => optUndef h, fun zβ za zw zc => ?_⟩, ?_⟩
   ·exact wp_move rfl ((evt za 52).trans (valVal (zc.dep 25 52 (by kernel_rfl)) rfl rfl)) ⟨_, rfl, zc.chg, zc.inv, optDef zβ rfl⟩
   refine ⟨⟨_, .yes (c := (((decide ((0 : Int) ≤ ((ndget L2 k).t.f : Int))) && (((ndget L1 i).t.f : Int) != ((ndget L2 k).t.f : Int))) && (decide (((iget o.prec (Int.toNat ((ndget L2 k).t.f))) : Int) < ((iget o.prec (Int.toNat ((ndget L1 i).t.f))) : Int))))) (d := true) rfl (fun v w h => h), fun h => optUndef h, fun zβ za zw zc => ?_⟩, ?_⟩
   ·exact wp_move rfl (zc.kn.ev rfl) ⟨_, rfl, zc.chg, zc.inv, optDef zβ rfl⟩
   refine ⟨⟨_, .yes (c := (((decide ((0 : Int) ≤ ((ndget L2 k).t.f : Int))) && (((ndget L1 i).t.f : Int) != ((ndget L2 k).t.f : Int))) && (decide (((iget o.prec (Int.toNat ((ndget L2 k).t.f))) : Int) < ((iget o.prec (Int.toNat ((ndget L1 i).t.f))) : Int))))) (d := true) rfl (fun v w h => h), fun h => optUndef h, fun zβ za zw zc => ?_⟩, ?_⟩
   ·exact wp_move rfl (zc.kn.ev rfl) ⟨_, rfl, zc.chg, zc.inv, optDef zβ rfl⟩
   refine ⟨⟨_, .yes (c := (((decide ((0 : Int) ≤ ((ndget L2 k).t.f : Int))) && (((ndget L1 i).t.f : Int) != ((ndget L2 k).t.f : Int))) && (decide (((iget o.prec (Int.toNat ((ndget L2 k).t.f))) : Int) < ((iget o.prec (Int.toNat ((ndget L1 i).t.f))) : Int))))) (d := true) rfl (fun v w h => h), fun h => optUndef h, fun zβ za zw zc => ?_⟩, ?_⟩
   ·exact wp_move rfl (zc.kn.ev rfl) ⟨_, rfl, zc.chg, zc.inv, optDef zβ rfl⟩
   refine ⟨⟨_, .yes (c := (((decide ((0 : Int) ≤ ((ndget L2 k).t.f : Int))) && (((ndget L1 i).t.f : Int) != ((ndget L2 k).t.f : Int))) && (decide (((iget o.prec (Int.toNat ((ndget L2 k).t.f))) : Int) < ((iget o.prec (Int.toNat ((ndget L1 i).t.f))) : Int))))) (d := true) rfl (fun v w h => h), fun h => optUndef h, fun zβ za zw zc => ?_⟩, ?_⟩
   ·exact wp_call (by kernel_rfl) rfl (hv3 ((evt za 54).trans (valVal (zc.dep 27 54 (by kernel_rfl)) rfl zβ)) ((evt za 55).trans (valVal (zc.dep 28 55 (by kernel_rfl)) rfl zβ)) ((evt za 56).trans (valVal (zc.dep 29 56 (by kernel_rfl)) rfl zβ))) (lall_any o L1 L2 q w0 n hH hA i k _ hi hk hz zc.inv) (fun v w' h => ⟨v, rfl, zc.chg.trans h.2.2, h.2.1, optDef zβ h.1⟩)
   refine ⟨⟨true, .none rfl, fun h => optUndef h, fun zβ za zw zc => ?_⟩, ?_⟩
   ·exact wp_and rfl ((evt za 53).trans (valVal (zc.dep 26 53 (by kernel_rfl)) rfl rfl)) (fun hp => ((evt za 57).trans (valVal (zc.dep 30 57 (by kernel_rfl)) rfl (bMk zβ hp)))) ⟨_, rfl, zc.chg, zc.inv, optDef zβ rfl⟩
   refine ⟨⟨true, .none rfl, fun h => optUndef h, fun zβ za zw zc => ?_⟩, ?_⟩
   ·exact wp_assign rfl ((evt za 58).trans (valVal (zc.dep 31 58 (by kernel_rfl)) rfl rfl)) ⟨_, rfl, zc.chg, zc.inv, optDef zβ rfl⟩
   exact trivial
  ·intro za w11 zh hb12 hst13 zu
   have hl14 := hB3.lt
   have hb15 := chg_below hb8 hb12 (fun b hb => (by (try dsimp only at *); omega))
   have hB16 := chg_blk hB3 hb12 (by (try dsimp only at *); omega)
   obtain ⟨hl17, hl18, hl19, hl20⟩ := hst13.glt
   have zh := zh.cons (d := 6) (v := .bool (((((decide ((0 : Int) ≤ ((ndget L2 k).t.f : Int))) && (((ndget L1 i).t.f : Int) != ((ndget L2 k).t.f : Int))) && (decide (((iget o.prec (Int.toNat ((ndget L2 k).t.f))) : Int) < ((iget o.prec (Int.toNat ((ndget L1 i).t.f))) : Int)))) && ((ndget L2 k).t.args.all (o.lg (ndget L1 i).t))))) (valVal (zu 32 6 (by kernel_rfl)) rfl rfl)
   clear zu
   refine WE.go zh ?_
   refine WE.next (WC.ret (WE.ret1 rfl rfl ?_))
   have hs21 : Chg ((fun b => b = q.gm)) w w11 := (Chg.trans2 (Chg.trans2 (Chg.refl ((fun b => b = q.gm)) _) (Chg.ofBelow (S := fun k => k < 0) hb2) (fun i h1 h2 => by first | exact h2 | exact .inl ⟨h2, h1⟩ | exact .inl h2 | exact .inr h2 | exact .inr (.inl h2) | exact .inr (.inr h2) | ((try dsimp only at *); omega))) hb12 (fun i h1 h2 => by first | exact h2 | exact .inl ⟨h2, h1⟩ | exact .inl h2 | exact .inr h2 | exact .inr (.inl h2) | exact .inr (.inr h2) | ((try dsimp only at *); omega)))
   exact ⟨_, rfl, congrArg Value.bool (rfl), hst13, hs21⟩
set_option maxRecDepth 100000 in
theorem llexical_any (o : Od) (L1 L2 : List Nd) (q : LpoQ) (w0 : World) (n : Nat) (hH : LpoH o L1 L2) (hA : AboveOK o L1 L2 q w0 n) (i k : Nat) (w : World) (hi : i < L1.length) (hk : k < L2.length) (hz : (ndget L1 i).t.size + (ndget L2 k).t.size ≤ n + 1) (hst : LpoSt o L1 L2 q w0 w) :
  Calls Try.prog 65 #[.pointer (some ⟨q.gw, 0, none⟩), .int .i64 (i : Int), .int .i64 (k : Int)] w (Ret fun v' w' => v' = .bool ((decide ((ndget L1 i).t.f = (ndget L2 k).t.f) && (ndget L2 k).t.args.all (o.lg (ndget L1 i).t)) && lexR o.lg (ndget L1 i).t.args (ndget L2 k).t.args) ∧ LpoSt o L1 L2 q w0 w' ∧ Chg (fun b => b = q.gm) w w') := by
 have hg1 := (hH.g1 i hi).1
 have hg2 := (hH.g2 k hk).1
 have hz1 := hH.z1 i hi
 have hz2 := hH.z2 k hk
 have ha1 := args_le (ndget L1 i).t
 have ha2 := args_le (ndget L2 k).t
 have hf1 := (hst.n1.t i hi).form.1.1
 have hf1' := (hst.n1.t i hi).form.1.2
 have hf2 := (hst.n2.t k hk).form.1.1
 have hf2' := (hst.n2.t k hk).form.1.2
 have hp1 := (lknows_top (hH.k1 i hi)).1
 have hp2 := (lknows_top (hH.k2 k hk)).1
 have hst0 := hst
 obtain ⟨hl1, hl2, hl3, hl4⟩ := hst.glt
 have hgm := hst.hgm
 refine Calls.walk (l := [.pointer (some ⟨q.gw, 0, none⟩), .int .i64 (((i : Nat) : Int)), .int .i64 (((k : Nat) : Int))]) Try.func65 rfl (by kernel_rfl) ?_
 refine WC.sub (K' := [(0, .pointer (some ⟨q.gw, 0, none⟩)), (1, .int .i64 (((i : Nat) : Int))), (2, .int .i64 (((k : Nat) : Int)))]) ⟨rfl, rfl, rfl, trivial⟩ ?_
 refine WC.seq (WC.region (WL.asg rfl rfl rfl rfl rfl (WL.nil (WE.next (WC.seq ?_)))))
 refine WC.two [(true, .pointer (some ⟨q.gw, 0, none⟩)), (true, .pointer (some ⟨q.gw, 0, none⟩)), (true, .pointer (some ⟨q.gw, 4, none⟩)), (true, .slice ((some ⟨q.b1, 0, none⟩)) L1.length q.r1), (true, .int .i64 (((i : Nat) : Int))), (true, .pointer (some ⟨q.b1, 0 + i * 3, none⟩)), (true, .agg #[.int .i64 ((ndget L1 i).t.f), .slice ((q.A1 i)) ((ndget L1 i).t.args.length) ((q.C1 i)), .slice ((q.X1 i)) ((ndget L1 i).args.length) ((q.Z1 i))]), (true, .pointer (some ⟨q.gw, 0, none⟩)), (true, .pointer (some ⟨q.gw, 0, none⟩)), (true, .pointer (some ⟨q.gw, 5, none⟩)), (true, .slice ((some ⟨q.b2, 0, none⟩)) L2.length q.r2), (true, .int .i64 (((k : Nat) : Int))), (true, .pointer (some ⟨q.b2, 0 + k * 3, none⟩)), (true, .agg #[.int .i64 ((ndget L2 k).t.f), .slice ((q.A2 k)) ((ndget L2 k).t.args.length) ((q.C2 k)), .slice ((q.X2 k)) ((ndget L2 k).args.length) ((q.Z2 k))]), (true, undef), (true, undef), (true, undef), (true, undef)] [(0, .pointer (some ⟨q.gw, 0, none⟩)), (1, .int .i64 (((i : Nat) : Int))), (2, .int .i64 (((k : Nat) : Int))), (6, .bool false)] (t1 := 92) (z1 := #[.int .i64 0, .slice none 0 0, .slice none 0 0]) (c1 := #[.int .i64 ((ndget L1 i).t.f), .slice ((q.A1 i)) ((ndget L1 i).t.args.length) ((q.C1 i)), .slice ((q.X1 i)) ((ndget L1 i).args.length) ((q.Z1 i))]) (t2 := 92) (z2 := #[.int .i64 0, .slice none 0 0, .slice none 0 0]) (c2 := #[.int .i64 ((ndget L2 k).t.f), .slice ((q.A2 k)) ((ndget L2 k).t.args.length) ((q.C2 k)), .slice ((q.X2 k)) ((ndget L2 k).args.length) ((q.Z2 k))]) 14 15 16 17 7 8 (by decide) (by kernel_rfl) rfl rfl ⟨rfl, rfl, rfl, rfl, trivial⟩ (by kernel_rfl) (by kernel_rfl) (by kernel_rfl) ?_ ?_
 ·refine ⟨.inl ⟨by decide, rfl, fun za zw zc => ?_⟩, ?_⟩
  ·exact wp_move rfl (zc.kn.ev rfl) ⟨_, rfl, rfl, optDef rfl rfl⟩
  refine ⟨.inl ⟨by decide, rfl, fun za zw zc => ?_⟩, ?_⟩
  ·exact nilCheck_ rfl ((evt za 10).trans (valVal (zc.dep 0 10 (by kernel_rfl) (by decide)) rfl rfl)) ⟨_, rfl, rfl, optDef rfl rfl⟩
  refine ⟨.inl ⟨by decide, rfl, fun za zw zc => ?_⟩, ?_⟩
  ·exact fld_87_1 rfl ((evt za 11).trans (valVal (zc.dep 1 11 (by kernel_rfl) (by decide)) rfl rfl)) ⟨_, rfl, rfl, optDef rfl rfl⟩
  refine ⟨.inl ⟨by decide, rfl, fun za zw zc => ?_⟩, ?_⟩
  ·exact ld_83 rfl ((evt za 12).trans (valVal (zc.dep 2 12 (by kernel_rfl) (by decide)) rfl rfl)) (bkeeps zc.below _ _ ((hst.blk.cell 4).trans rfl)) ⟨_, rfl, rfl, optDef rfl rfl⟩
  refine ⟨.inl ⟨by decide, rfl, fun za zw zc => ?_⟩, ?_⟩
  ·exact wp_move rfl (zc.kn.ev rfl) ⟨_, rfl, rfl, optDef rfl rfl⟩
  refine ⟨.inl ⟨by decide, rfl, fun za zw zc => ?_⟩, ?_⟩
  ·exact ix_83 (k := i) rfl ((evt za 13).trans (valVal (zc.dep 3 13 (by kernel_rfl) (by decide)) rfl rfl)) rfl ((evt za 14).trans (valVal (zc.dep 4 14 (by kernel_rfl) (by decide)) rfl rfl)) (by first | omega | (simp; omega)) ⟨_, rfl, rfl, optDef rfl rfl⟩
  refine ⟨.inl ⟨by decide, rfl, fun za zw zc => ?_⟩, ?_⟩
  ·exact ld_92 rfl ((evt za 15).trans (valVal (zc.dep 5 15 (by kernel_rfl) (by decide)) rfl rfl)) ((hst.bel zc.below).n1.c0 i (by first | omega | (simp; omega))) ((hst.bel zc.below).n1.c1 i (by first | omega | (simp; omega))) ((hst.bel zc.below).n1.c2 i (by first | omega | (simp; omega))) ⟨_, rfl, rfl, optDef rfl rfl⟩
  refine ⟨.inl ⟨by decide, rfl, fun za zw zc => ?_⟩, ?_⟩
  ·exact wp_move rfl (zc.kn.ev rfl) ⟨_, rfl, rfl, optDef rfl rfl⟩
  refine ⟨.inl ⟨by decide, rfl, fun za zw zc => ?_⟩, ?_⟩
  ·exact nilCheck_ rfl ((evt za 17).trans (valVal (zc.dep 7 17 (by kernel_rfl) (by decide)) rfl rfl)) ⟨_, rfl, rfl, optDef rfl rfl⟩
  refine ⟨.inl ⟨by decide, rfl, fun za zw zc => ?_⟩, ?_⟩
  ·exact fld_87_2 rfl ((evt za 18).trans (valVal (zc.dep 8 18 (by kernel_rfl) (by decide)) rfl rfl)) ⟨_, rfl, rfl, optDef rfl rfl⟩
  refine ⟨.inl ⟨by decide, rfl, fun za zw zc => ?_⟩, ?_⟩
  ·exact ld_83 rfl ((evt za 19).trans (valVal (zc.dep 9 19 (by kernel_rfl) (by decide)) rfl rfl)) (bkeeps zc.below _ _ ((hst.blk.cell 5).trans rfl)) ⟨_, rfl, rfl, optDef rfl rfl⟩
  refine ⟨.inl ⟨by decide, rfl, fun za zw zc => ?_⟩, ?_⟩
  ·exact wp_move rfl (zc.kn.ev rfl) ⟨_, rfl, rfl, optDef rfl rfl⟩
  refine ⟨.inl ⟨by decide, rfl, fun za zw zc => ?_⟩, ?_⟩
  ·exact ix_83 (k := k) rfl ((evt za 20).trans (valVal (zc.dep 10 20 (by kernel_rfl) (by decide)) rfl rfl)) rfl ((evt za 21).trans (valVal (zc.dep 11 21 (by kernel_rfl) (by decide)) rfl rfl)) (by first | omega | (simp; omega)) ⟨_, rfl, rfl, optDef rfl rfl⟩
  refine ⟨.inl ⟨by decide, rfl, fun za zw zc => ?_⟩, ?_⟩
  ·exact ld_92 rfl ((evt za 22).trans (valVal (zc.dep 12 22 (by kernel_rfl) (by decide)) rfl rfl)) ((hst.bel zc.below).n2.c0 k (by first | omega | (simp; omega))) ((hst.bel zc.below).n2.c1 k (by first | omega | (simp; omega))) ((hst.bel zc.below).n2.c2 k (by first | omega | (simp; omega))) ⟨_, rfl, rfl, optDef rfl rfl⟩
  refine ⟨.inr (.inl ⟨rfl, rfl, fun za zw zc => ?_⟩), ?_⟩
  ·exact alloc_92 rfl ⟨rfl, rfl⟩
  refine ⟨.inr (.inr (.inl ⟨rfl, rfl, fun za zw zc => ?_⟩)), ?_⟩
  ·exact alloc_92 rfl ⟨rfl, rfl⟩
  refine ⟨.inr (.inr (.inr (.inl ⟨rfl, rfl, 7, by kernel_rfl, fun za zw g zc z1 zB => ?_⟩))), ?_⟩
  ·exact st_92 rfl ((evt za 7).trans z1) ((evt za 16).trans (valVal (zc.dep 6 16 (by kernel_rfl) (by decide)) rfl rfl)) rfl rfl rfl zB (by first | decide | simp) (fun v => ⟨v, rfl, ((Upd.at_ _ _ _ _).trans (Upd.at_ _ _ _ _)).trans (Upd.at_ _ _ _ _), ((zB.set_ 0 _).set_ 1 _).set_ 2 _⟩)
  refine ⟨.inr (.inr (.inr (.inr ⟨rfl, rfl, 8, by kernel_rfl, fun za zw g zc z1 zB => ?_⟩))), ?_⟩
  ·exact st_92 rfl ((evt za 8).trans z1) ((evt za 23).trans (valVal (zc.dep 13 23 (by kernel_rfl) (by decide)) rfl rfl)) rfl rfl rfl zB (by first | decide | simp) (fun v => ⟨v, rfl, ((Upd.at_ _ _ _ _).trans (Upd.at_ _ _ _ _)).trans (Upd.at_ _ _ _ _), ((zB.set_ 0 _).set_ 1 _).set_ 2 _⟩)
  exact trivial
 ·intro za w1 g2 g3 zh hb4 hg5 hg6 hne7 hB8 hB9 ha10 hb11 zu
  have hl12 : q.gw < g2 := by have z1 := hst.blk.lt; omega
  have hl13 : w0.heap.size ≤ g2 := by have z2 := (hst.below).size; omega
  have hl14 : w.heap.size ≤ g2 := by omega
  have hl15 : q.gw < g3 := by have z1 := hst.blk.lt; omega
  have hl16 : w0.heap.size ≤ g3 := by have z2 := (hst.below).size; omega
  have hl17 : w.heap.size ≤ g3 := by omega
  have zh := zh.cons (d := 7) ha10
  have zh := zh.cons (d := 8) hb11
  clear zu
  refine WE.go zh ?_
  refine WE.next (WC.seq (WC.seq ?_))
  refine WC.optc [(true, .pointer (some ⟨g2, 0, none⟩)), (true, .pointer (some ⟨g2, 0, none⟩)), (true, .int .i64 ((ndget L1 i).t.f)), (true, .pointer (some ⟨g3, 0, none⟩)), (true, .pointer (some ⟨g3, 0, none⟩)), (true, .int .i64 ((ndget L2 k).t.f)), (true, .bool ((((ndget L1 i).t.f : Int) != ((ndget L2 k).t.f : Int)))), (true, .bool ((((ndget L1 i).t.f : Int) != ((ndget L2 k).t.f : Int)))), ((true && !(((ndget L1 i).t.f : Int) != ((ndget L2 k).t.f : Int))), .pointer (some ⟨q.gw, 0, none⟩)), ((true && !(((ndget L1 i).t.f : Int) != ((ndget L2 k).t.f : Int))), .int .i64 (((i : Nat) : Int))), ((true && !(((ndget L1 i).t.f : Int) != ((ndget L2 k).t.f : Int))), .int .i64 (((k : Nat) : Int))), ((true && !(((ndget L1 i).t.f : Int) != ((ndget L2 k).t.f : Int))), .bool (((ndget L2 k).t.args.all (o.lg (ndget L1 i).t)))), ((true && !(((ndget L1 i).t.f : Int) != ((ndget L2 k).t.f : Int))), .bool ((!((ndget L2 k).t.args.all (o.lg (ndget L1 i).t))))), (true, .bool (((((ndget L1 i).t.f : Int) != ((ndget L2 k).t.f : Int)) || (!((ndget L2 k).t.args.all (o.lg (ndget L1 i).t))))))] [(0, .pointer (some ⟨q.gw, 0, none⟩)), (1, .int .i64 (((i : Nat) : Int))), (2, .int .i64 (((k : Nat) : Int))), (6, .bool false), (7, .pointer (some ⟨g2, 0, none⟩)), (8, .pointer (some ⟨g3, 0, none⟩))] (S := (fun b => b = q.gm)) (I := (LpoSt o L1 L2 q w0)) (fun _ _ hb h => h.bel hb) (hst.bel hb4) ⟨rfl, rfl, rfl, rfl, rfl, rfl, trivial⟩ (by kernel_rfl) (by kernel_rfl) (by kernel_rfl) ?_ ?_
  ·refine ⟨⟨true, .none rfl, fun h => optUndef h, fun zβ za zw zc => ?_⟩, ?_⟩
   ·exact fld_92_0 rfl (zc.kn.ev rfl) ⟨_, rfl, zc.chg, zc.inv, optDef zβ rfl⟩
   refine ⟨⟨true, .none rfl, fun h => optUndef h, fun zβ za zw zc => ?_⟩, ?_⟩
   ·exact fld_34_0 rfl ((evt za 24).trans (valVal (zc.dep 0 24 (by kernel_rfl)) rfl rfl)) ⟨_, rfl, zc.chg, zc.inv, optDef zβ rfl⟩
   refine ⟨⟨true, .none rfl, fun h => optUndef h, fun zβ za zw zc => ?_⟩, ?_⟩
   ·exact ld_3 rfl ((evt za 25).trans (valVal (zc.dep 1 25 (by kernel_rfl)) rfl rfl)) (chg_cell zc.chg (by (try dsimp only at *); omega) ((hB8.cell 0).trans rfl)) ⟨_, rfl, zc.chg, zc.inv, optDef zβ rfl⟩
   refine ⟨⟨true, .none rfl, fun h => optUndef h, fun zβ za zw zc => ?_⟩, ?_⟩
   ·exact fld_92_0 rfl (zc.kn.ev rfl) ⟨_, rfl, zc.chg, zc.inv, optDef zβ rfl⟩
   refine ⟨⟨true, .none rfl, fun h => optUndef h, fun zβ za zw zc => ?_⟩, ?_⟩
   ·exact fld_34_0 rfl ((evt za 27).trans (valVal (zc.dep 3 27 (by kernel_rfl)) rfl rfl)) ⟨_, rfl, zc.chg, zc.inv, optDef zβ rfl⟩
   refine ⟨⟨true, .none rfl, fun h => optUndef h, fun zβ za zw zc => ?_⟩, ?_⟩
   ·exact ld_3 rfl ((evt za 28).trans (valVal (zc.dep 4 28 (by kernel_rfl)) rfl rfl)) (chg_cell zc.chg (by (try dsimp only at *); omega) ((hB9.cell 0).trans rfl)) ⟨_, rfl, zc.chg, zc.inv, optDef zβ rfl⟩
   refine ⟨⟨true, .none rfl, fun h => optUndef h, fun zβ za zw zc => ?_⟩, ?_⟩
   ·exact neq_3 rfl ((evt za 26).trans (valVal (zc.dep 2 26 (by kernel_rfl)) rfl rfl)) ((evt za 29).trans (valVal (zc.dep 5 29 (by kernel_rfl)) rfl rfl)) ⟨_, rfl, zc.chg, zc.inv, optDef zβ rfl⟩
   refine ⟨⟨true, .none rfl, fun h => optUndef h, fun zβ za zw zc => ?_⟩, ?_⟩
   ·exact wp_move rfl ((evt za 30).trans (valVal (zc.dep 6 30 (by kernel_rfl)) rfl rfl)) ⟨_, rfl, zc.chg, zc.inv, optDef zβ rfl⟩
   refine ⟨⟨_, .no (c := (((ndget L1 i).t.f : Int) != ((ndget L2 k).t.f : Int))) (d := true) rfl (fun v w h => h), fun h => optUndef h, fun zβ za zw zc => ?_⟩, ?_⟩
   ·exact wp_move rfl (zc.kn.ev rfl) ⟨_, rfl, zc.chg, zc.inv, optDef zβ rfl⟩
   refine ⟨⟨_, .no (c := (((ndget L1 i).t.f : Int) != ((ndget L2 k).t.f : Int))) (d := true) rfl (fun v w h => h), fun h => optUndef h, fun zβ za zw zc => ?_⟩, ?_⟩
   ·exact wp_move rfl (zc.kn.ev rfl) ⟨_, rfl, zc.chg, zc.inv, optDef zβ rfl⟩
   refine ⟨⟨_, .no (c := (((ndget L1 i).t.f : Int) != ((ndget L2 k).t.f : Int))) (d := true) rfl (fun v w h => h), fun h => optUndef h, fun zβ za zw zc => ?_⟩, ?_⟩
   ·exact wp_move rfl (zc.kn.ev rfl) ⟨_, rfl, zc.chg, zc.inv, optDef zβ rfl⟩
   refine ⟨⟨_, .no (c := (((ndget L1 i).t.f : Int) != ((ndget L2 k).t.f : Int))) (d := true) rfl (fun v w h => h), fun h => optUndef h, fun zβ za zw zc => ?_⟩, ?_⟩
   ·exact wp_call (by kernel_rfl) rfl (hv3 ((evt za 32).trans (valVal (zc.dep 8 32 (by kernel_rfl)) rfl zβ)) ((evt za 33).trans (valVal (zc.dep 9 33 (by kernel_rfl)) rfl zβ)) ((evt za 34).trans (valVal (zc.dep 10 34 (by kernel_rfl)) rfl zβ))) (lall_any o L1 L2 q w0 n hH hA i k _ hi hk hz zc.inv) (fun v w' h => ⟨v, rfl, zc.chg.trans h.2.2, h.2.1, optDef zβ h.1⟩)
   refine ⟨⟨_, .no (c := (((ndget L1 i).t.f : Int) != ((ndget L2 k).t.f : Int))) (d := true) rfl (fun v w h => h), fun h => optUndef h, fun zβ za zw zc => ?_⟩, ?_⟩
   ·exact wp_not rfl ((evt za 35).trans (valVal (zc.dep 11 35 (by kernel_rfl)) rfl zβ)) ⟨_, rfl, zc.chg, zc.inv, optDef zβ rfl⟩
   refine ⟨⟨true, .none rfl, fun h => optUndef h, fun zβ za zw zc => ?_⟩, ?_⟩
   ·exact wp_or rfl ((evt za 31).trans (valVal (zc.dep 7 31 (by kernel_rfl)) rfl rfl)) (fun hp => ((evt za 36).trans (valVal (zc.dep 12 36 (by kernel_rfl)) rfl (bMkN zβ hp)))) ⟨_, rfl, zc.chg, zc.inv, optDef zβ rfl⟩
   exact trivial
  ·intro za w20 zh hb21 hst22 zu
   have hB23 := hst.blk.below hb4
   have hl24 := hB23.lt
   have hl25 := hB8.lt
   have hl26 := hB9.lt
   have hb27 : Below w0.heap.size w0 w1 := (bstep hst.below hb4)
   have hb28 := chg_below hb27 hb21 (fun b hb => (by (try dsimp only at *); omega))
   have hB29 := chg_blk hB23 hb21 (by (try dsimp only at *); omega)
   have hB30 := chg_blk hB8 hb21 (by (try dsimp only at *); omega)
   have hB31 := chg_blk hB9 hb21 (by (try dsimp only at *); omega)
   obtain ⟨hl32, hl33, hl34, hl35⟩ := hst22.glt
   have zh := zh.cons (d := 37) (v := .bool (((((ndget L1 i).t.f : Int) != ((ndget L2 k).t.f : Int)) || (!((ndget L2 k).t.args.all (o.lg (ndget L1 i).t)))))) (valVal (zu 13 37 (by kernel_rfl)) rfl rfl)
   clear zu
   refine WE.go zh ?_
   refine WE.next ?_
   refine WC.cond rfl (fun h36 => ?_) (fun h36 => ?_)
   ·have h36 : (((ndget L1 i).t.f : Int) ≠ ((ndget L2 k).t.f : Int)) ∨ (¬ (((ndget L2 k).t.args.all (o.lg (ndget L1 i).t)) = true)) := by simpa using h36
    refine WC.seq (WC.region (WL.asg rfl rfl rfl rfl rfl (WL.nil (WE.next (WC.ret (WE.thenRet (WE.ret1 rfl rfl ?_)))))))
    have hs37 : Chg ((fun b => b = q.gm)) w w20 := (Chg.trans2 (Chg.trans2 (Chg.refl ((fun b => b = q.gm)) _) (Chg.ofBelow (S := fun k => k < 0) hb4) (fun i h1 h2 => by first | exact h2 | exact .inl ⟨h2, h1⟩ | exact .inl h2 | exact .inr h2 | exact .inr (.inl h2) | exact .inr (.inr h2) | ((try dsimp only at *); omega))) hb21 (fun i h1 h2 => by first | exact h2 | exact .inl ⟨h2, h1⟩ | exact .inl h2 | exact .inr h2 | exact .inr (.inl h2) | exact .inr (.inr h2) | ((try dsimp only at *); omega)))
    exact ⟨_, rfl, congrArg Value.bool (lex_no (by have z := h36; simpa using z)), hst22, hs37⟩
   ·have h36 : ¬ ((((ndget L1 i).t.f : Int) ≠ ((ndget L2 k).t.f : Int)) ∨ (¬ (((ndget L2 k).t.args.all (o.lg (ndget L1 i).t)) = true))) := by simpa using h36
    have hall0 := lex_yes (f := (ndget L1 i).t.f) (g := (ndget L2 k).t.f) (A := (ndget L2 k).t.args.all (o.lg (ndget L1 i).t)) (by have z := h36; simpa using z)
    refine WC.skip (WE.next (WC.seq (WC.seq (WC.region ?_))))
    refine WL.val _ rfl rfl rfl (fun za zC zh zk => fld_92_1 rfl (zh.ev rfl) zk) ?_
    refine WL.val _ rfl rfl rfl (fun za zC zh zk => ld_22 rfl (zh.ev rfl) ((hB30.cell 2).trans rfl) zk) ?_
    refine WL.val (.int .i64 ((((ndget L1 i).args.length : Nat) : Int))) rfl rfl rfl (fun za zC zh zk => len_22 rfl (zh.ev rfl) zk) ?_
    refine WL.val _ rfl rfl rfl (fun za zC zh zk => fld_92_1 rfl (zh.ev rfl) zk) ?_
    refine WL.val _ rfl rfl rfl (fun za zC zh zk => ld_22 rfl (zh.ev rfl) ((hB31.cell 2).trans rfl) zk) ?_
    refine WL.val (.int .i64 ((((ndget L2 k).args.length : Nat) : Int))) rfl rfl rfl (fun za zC zh zk => len_22 rfl (zh.ev rfl) zk) ?_
    refine WL.val (.int .i64 ((min ((((ndget L1 i).args.length : Nat) : Int)) ((((ndget L2 k).args.length : Nat) : Int))))) rfl rfl rfl (fun za zC zh zk => min_3 rfl (zh.ev rfl) (zh.ev rfl) zk) ?_
    refine WL.mv rfl rfl rfl rfl rfl (WL.nil (WE.next (WC.block ?_)))
    refine WC.loop (X := Nat) (fun j => (ndget L1 i).args.length - j) (fun j => [(0, .pointer (some ⟨q.gw, 0, none⟩)), (1, .int .i64 (((i : Nat) : Int))), (2, .int .i64 (((k : Nat) : Int))), (7, .pointer (some ⟨g2, 0, none⟩)), (8, .pointer (some ⟨g3, 0, none⟩)), (37, .bool (((((ndget L1 i).t.f : Int) != ((ndget L2 k).t.f : Int)) || (!((ndget L2 k).t.args.all (o.lg (ndget L1 i).t)))))), (44, .int .i64 ((min ((((ndget L1 i).args.length : Nat) : Int)) ((((ndget L2 k).args.length : Nat) : Int))))), (45, .int .i64 (((j : Nat) : Int)))]) (fun j w38 => j ≤ (ndget L1 i).args.length ∧ j ≤ (ndget L2 k).args.length ∧ lexR o.lg (ndget L1 i).t.args (ndget L2 k).t.args = lexR o.lg ((ndget L1 i).t.args.drop j) ((ndget L2 k).t.args.drop j) ∧ LpoSt o L1 L2 q w0 w38 ∧ Below w0.heap.size w0 w38 ∧ Blk w38 q.gw 87 #[.bool o.lpo, .slice q.p1 o.prec.length q.k1, .slice q.p2 o.weights.length q.k2, .int .i64 o.var, .slice ((some ⟨q.b1, 0, none⟩)) L1.length q.r1, .slice ((some ⟨q.b2, 0, none⟩)) L2.length q.r2, .map ((some q.gm))] ∧ Blk w38 g2 92 #[.int .i64 ((ndget L1 i).t.f), .slice ((q.A1 i)) ((ndget L1 i).t.args.length) ((q.C1 i)), .slice ((q.X1 i)) ((ndget L1 i).args.length) ((q.Z1 i))] ∧ Blk w38 g3 92 #[.int .i64 ((ndget L2 k).t.f), .slice ((q.A2 k)) ((ndget L2 k).t.args.length) ((q.C2 k)), .slice ((q.X2 k)) ((ndget L2 k).args.length) ((q.Z2 k))] ∧ Chg ((fun b => b = q.gm)) w w38) 0 ⟨rfl, rfl, rfl, rfl, rfl, rfl, rfl, rfl, trivial⟩ ?_ ?_
    ·have hs39 : Chg ((fun b => b = q.gm)) w w20 := (Chg.trans2 (Chg.trans2 (Chg.refl ((fun b => b = q.gm)) _) (Chg.ofBelow (S := fun k => k < 0) hb4) (fun i h1 h2 => by first | exact h2 | exact .inl ⟨h2, h1⟩ | exact .inl h2 | exact .inr h2 | exact .inr (.inl h2) | exact .inr (.inr h2) | ((try dsimp only at *); omega))) hb21 (fun i h1 h2 => by first | exact h2 | exact .inl ⟨h2, h1⟩ | exact .inl h2 | exact .inr h2 | exact .inr (.inl h2) | exact .inr (.inr h2) | ((try dsimp only at *); omega)))
     exact ⟨Nat.zero_le _, Nat.zero_le _, rfl, hst22, hb28, hB29, hB30, hB31, hs39⟩
    ·rintro j w38 ⟨hj, hj2, hlex, hstl, hb40, hB41, hB42, hB43, hc44⟩
     obtain ⟨hl45, hl46, hl47, hl48⟩ := hstl.glt
     refine WC.seq (WC.region ?_)
     refine WL.val (.bool ((decide ((((j : Nat) : Int) : Int) < ((min ((((ndget L1 i).args.length : Nat) : Int)) ((((ndget L2 k).args.length : Nat) : Int))) : Int))))) rfl rfl rfl (fun za zC zh zk => lss_3 rfl (zh.ev rfl) (zh.ev rfl) zk) ?_
     refine WL.nil (WE.next (WC.seq ?_))
     refine WC.cond rfl (fun h49 => ?_) (fun h49 => ?_)
     ·have h49 : (((j : Nat) : Int) : Int) < ((min ((((ndget L1 i).args.length : Nat) : Int)) ((((ndget L2 k).args.length : Nat) : Int))) : Int) := by simpa using h49
      refine WC.skip (WE.next (WC.seq (WC.block (WC.seq (WC.region (WL.mv rfl rfl rfl rfl rfl (WL.asg rfl rfl rfl rfl rfl (WL.nil (WE.next (WC.seq ?_))))))))))
      obtain ⟨b50, o51, A52, C53, ha54, hc55⟩ := IsTs.open (isT_row (hst0.n1.t i (by omega))).2.2.2
      obtain ⟨b56, o57, A58, C59, ha60, hc61⟩ := IsTs.open (isT_row (hst0.n2.t k (by omega))).2.2.2
      refine WC.opt [(true, .val (.pointer (some ⟨g2, 0, none⟩))), (true, .val (.pointer (some ⟨g2, 1, none⟩))), (true, .val (.slice ((q.A1 i)) ((ndget L1 i).t.args.length) ((q.C1 i)))), (true, .val (.int .i64 (((j : Nat) : Int)))), (true, .val (.pointer (some ⟨b50, o51 + j * 2, none⟩))), (true, .val (.agg #[.int .i64 ((tget ((ndget L1 i).t.args) j).f), .slice ((A52 j)) ((tget ((ndget L1 i).t.args) j).args.length) ((C53 j))])), (true, .val (.pointer (some ⟨g3, 0, none⟩))), (true, .val (.pointer (some ⟨g3, 1, none⟩))), (true, .val (.slice ((q.A2 k)) ((ndget L2 k).t.args.length) ((q.C2 k)))), (true, .val (.int .i64 (((j : Nat) : Int)))), (true, .val (.pointer (some ⟨b56, o57 + j * 2, none⟩))), (true, .val (.agg #[.int .i64 ((tget ((ndget L2 k).t.args) j).f), .slice ((A58 j)) ((tget ((ndget L2 k).t.args) j).args.length) ((C59 j))])), (true, .val (.bool ((T.same ((tget ((ndget L1 i).t.args) j)) ((tget ((ndget L2 k).t.args) j)))))), (true, .val (.bool ((!(T.same ((tget ((ndget L1 i).t.args) j)) ((tget ((ndget L2 k).t.args) j)))))))] [(0, .pointer (some ⟨q.gw, 0, none⟩)), (1, .int .i64 (((i : Nat) : Int))), (2, .int .i64 (((k : Nat) : Int))), (7, .pointer (some ⟨g2, 0, none⟩)), (8, .pointer (some ⟨g3, 0, none⟩)), (9, .int .i64 (((j : Nat) : Int))), (37, .bool (((((ndget L1 i).t.f : Int) != ((ndget L2 k).t.f : Int)) || (!((ndget L2 k).t.args.all (o.lg (ndget L1 i).t)))))), (44, .int .i64 ((min ((((ndget L1 i).args.length : Nat) : Int)) ((((ndget L2 k).args.length : Nat) : Int))))), (45, .int .i64 (((j : Nat) : Int))), (46, .bool ((decide ((((j : Nat) : Int) : Int) < ((min ((((ndget L1 i).args.length : Nat) : Int)) ((((ndget L2 k).args.length : Nat) : Int))) : Int)))))] ⟨rfl, rfl, rfl, rfl, rfl, rfl, rfl, rfl, rfl, rfl, trivial⟩ (by kernel_rfl) (by kernel_rfl) (by kernel_rfl) ?_ ?_
      ·refine ⟨⟨true, .none rfl, fun h w => optUndef h, fun zβ za zw zc => ?_⟩, ?_⟩
       ·exact fld_92_0 rfl (zc.kn.ev rfl) ⟨_, rfl, Below.refl _ _, optDef zβ rfl⟩
       refine ⟨⟨true, .none rfl, fun h w => optUndef h, fun zβ za zw zc => ?_⟩, ?_⟩
       ·exact fld_34_1 rfl ((evt za 48).trans (optVal (zc.dep 0 48 (by kernel_rfl)) rfl rfl)) ⟨_, rfl, Below.refl _ _, optDef zβ rfl⟩
       refine ⟨⟨true, .none rfl, fun h w => optUndef h, fun zβ za zw zc => ?_⟩, ?_⟩
       ·exact ld_32 rfl ((evt za 49).trans (optVal (zc.dep 1 49 (by kernel_rfl)) rfl rfl)) (bkeeps zc.below _ _ ((hB42.cell 1).trans rfl)) ⟨_, rfl, Below.refl _ _, optDef zβ rfl⟩
       refine ⟨⟨true, .none rfl, fun h w => optUndef h, fun zβ za zw zc => ?_⟩, ?_⟩
       ·exact wp_move rfl (zc.kn.ev rfl) ⟨_, rfl, Below.refl _ _, optDef zβ rfl⟩
       refine ⟨⟨true, .none rfl, fun h w => optUndef h, fun zβ za zw zc => ?_⟩, ?_⟩
       ·exact ix_32 (k := j) rfl ((evt za 50).trans (optVal (zc.dep 2 50 (by kernel_rfl)) rfl rfl)) (ha54 j (by first | omega | (simp; omega))) ((evt za 51).trans (optVal (zc.dep 3 51 (by kernel_rfl)) rfl rfl)) (by first | omega | (simp; omega)) ⟨_, rfl, Below.refl _ _, optDef zβ rfl⟩
       refine ⟨⟨true, .none rfl, fun h w => optUndef h, fun zβ za zw zc => ?_⟩, ?_⟩
       ·exact ld_34 rfl ((evt za 52).trans (optVal (zc.dep 4 52 (by kernel_rfl)) rfl rfl)) (bkeeps (bstep hb40 zc.below) _ _ (hc55 j (by first | omega | (simp; omega))).1) (bkeeps (bstep hb40 zc.below) _ _ (hc55 j (by first | omega | (simp; omega))).2.1) ⟨_, rfl, Below.refl _ _, optDef zβ rfl⟩
       refine ⟨⟨true, .none rfl, fun h w => optUndef h, fun zβ za zw zc => ?_⟩, ?_⟩
       ·exact fld_92_0 rfl (zc.kn.ev rfl) ⟨_, rfl, Below.refl _ _, optDef zβ rfl⟩
       refine ⟨⟨true, .none rfl, fun h w => optUndef h, fun zβ za zw zc => ?_⟩, ?_⟩
       ·exact fld_34_1 rfl ((evt za 54).trans (optVal (zc.dep 6 54 (by kernel_rfl)) rfl rfl)) ⟨_, rfl, Below.refl _ _, optDef zβ rfl⟩
       refine ⟨⟨true, .none rfl, fun h w => optUndef h, fun zβ za zw zc => ?_⟩, ?_⟩
       ·exact ld_32 rfl ((evt za 55).trans (optVal (zc.dep 7 55 (by kernel_rfl)) rfl rfl)) (bkeeps zc.below _ _ ((hB43.cell 1).trans rfl)) ⟨_, rfl, Below.refl _ _, optDef zβ rfl⟩
       refine ⟨⟨true, .none rfl, fun h w => optUndef h, fun zβ za zw zc => ?_⟩, ?_⟩
       ·exact wp_move rfl (zc.kn.ev rfl) ⟨_, rfl, Below.refl _ _, optDef zβ rfl⟩
       refine ⟨⟨true, .none rfl, fun h w => optUndef h, fun zβ za zw zc => ?_⟩, ?_⟩
       ·exact ix_32 (k := j) rfl ((evt za 56).trans (optVal (zc.dep 8 56 (by kernel_rfl)) rfl rfl)) (ha60 j (by first | omega | (simp; omega))) ((evt za 57).trans (optVal (zc.dep 9 57 (by kernel_rfl)) rfl rfl)) (by first | omega | (simp; omega)) ⟨_, rfl, Below.refl _ _, optDef zβ rfl⟩
       refine ⟨⟨true, .none rfl, fun h w => optUndef h, fun zβ za zw zc => ?_⟩, ?_⟩
       ·exact ld_34 rfl ((evt za 58).trans (optVal (zc.dep 10 58 (by kernel_rfl)) rfl rfl)) (bkeeps (bstep hb40 zc.below) _ _ (hc61 j (by first | omega | (simp; omega))).1) (bkeeps (bstep hb40 zc.below) _ _ (hc61 j (by first | omega | (simp; omega))).2.1) ⟨_, rfl, Below.refl _ _, optDef zβ rfl⟩
       refine ⟨⟨true, .none rfl, fun h w => optUndef h, fun zβ za zw zc => ?_⟩, ?_⟩
       ·exact wp_call (by kernel_rfl) rfl (hv2 ((evt za 53).trans (optVal (zc.dep 5 53 (by kernel_rfl)) rfl rfl)) ((evt za 59).trans (optVal (zc.dep 11 59 (by kernel_rfl)) rfl rfl))) (ret_of (same_any ((tget ((ndget L1 i).t.args) j)) ((tget ((ndget L2 k).t.args) j)) _ _ _ (IsT.below (bstep hb40 zc.below) (hc55 j (by first | omega | (simp; omega))).2.2) (IsT.below (bstep hb40 zc.below) (hc61 j (by first | omega | (simp; omega))).2.2))) (fun v w' h => ⟨v, rfl, h.2, optDef zβ h.1⟩)
       refine ⟨⟨true, .none rfl, fun h w => optUndef h, fun zβ za zw zc => ?_⟩, ?_⟩
       ·exact wp_not rfl ((evt za 60).trans (optVal (zc.dep 12 60 (by kernel_rfl)) rfl rfl)) ⟨_, rfl, Below.refl _ _, optDef zβ rfl⟩
       exact trivial
      ·intro za w62 zh hb63 zu
       have zh := zh.cons (d := 61) (v := .bool ((!(T.same ((tget ((ndget L1 i).t.args) j)) ((tget ((ndget L2 k).t.args) j)))))) (optVal (zu 13 61 (by kernel_rfl)) rfl rfl)
       clear zu
       refine WE.go zh ?_
       refine WE.next ?_
       refine WC.cond rfl (fun h64 => ?_) (fun h64 => ?_)
       ·have h64 : ¬ ((T.same ((tget ((ndget L1 i).t.args) j)) ((tget ((ndget L2 k).t.args) j))) = true) := by simpa using h64
        refine WC.seq ?_
        have hB65 := hB42.below hb63
        have hB66 := hB43.below hb63
        have hc1 := nd_child (hH.g1 i hi) (j := j) (by omega)
        have hc2 := nd_child (hH.g2 k hk) (j := j) (by omega)
        have hs1 := size_child (t := (ndget L1 i).t) (k := j) (by omega)
        have hs2 := size_child (t := (ndget L2 k).t) (k := j) (by omega)
        have he1 := congrArg T.size hc1.2
        have he2 := congrArg T.size hc2.2
        refine WC.optc [(true, .pointer (some ⟨q.gw, 0, none⟩)), (true, .pointer (some ⟨g2, 2, none⟩)), (true, .slice ((q.X1 i)) ((ndget L1 i).args.length) ((q.Z1 i))), (true, .int .i64 (((j : Nat) : Int))), (true, .pointer (some ⟨(q.x1 i), 0 + j, none⟩)), (true, .int .i64 (((((ndget L1 i).args.getD j 0) : Nat) : Int))), (true, .pointer (some ⟨g3, 2, none⟩)), (true, .slice ((q.X2 k)) ((ndget L2 k).args.length) ((q.Z2 k))), (true, .int .i64 (((j : Nat) : Int))), (true, .pointer (some ⟨(q.x2 k), 0 + j, none⟩)), (true, .int .i64 (((((ndget L2 k).args.getD j 0) : Nat) : Int))), (true, .bool ((o.lg (ndget L1 (((ndget L1 i).args.getD j 0))).t (ndget L2 (((ndget L2 k).args.getD j 0))).t))), (true, .bool ((o.lg (ndget L1 (((ndget L1 i).args.getD j 0))).t (ndget L2 (((ndget L2 k).args.getD j 0))).t)))] [(0, .pointer (some ⟨q.gw, 0, none⟩)), (1, .int .i64 (((i : Nat) : Int))), (2, .int .i64 (((k : Nat) : Int))), (7, .pointer (some ⟨g2, 0, none⟩)), (8, .pointer (some ⟨g3, 0, none⟩)), (9, .int .i64 (((j : Nat) : Int))), (37, .bool (((((ndget L1 i).t.f : Int) != ((ndget L2 k).t.f : Int)) || (!((ndget L2 k).t.args.all (o.lg (ndget L1 i).t)))))), (44, .int .i64 ((min ((((ndget L1 i).args.length : Nat) : Int)) ((((ndget L2 k).args.length : Nat) : Int))))), (45, .int .i64 (((j : Nat) : Int))), (46, .bool ((decide ((((j : Nat) : Int) : Int) < ((min ((((ndget L1 i).args.length : Nat) : Int)) ((((ndget L2 k).args.length : Nat) : Int))) : Int))))), (61, .bool ((!(T.same ((tget ((ndget L1 i).t.args) j)) ((tget ((ndget L2 k).t.args) j))))))] (S := (fun b => b = q.gm)) (I := (LpoSt o L1 L2 q w0)) (fun _ _ hb h => h.bel hb) (hstl.bel hb63) ⟨rfl, rfl, rfl, rfl, rfl, rfl, rfl, rfl, rfl, rfl, rfl, trivial⟩ (by kernel_rfl) (by kernel_rfl) (by kernel_rfl) ?_ ?_
        ·refine ⟨⟨true, .none rfl, fun h => optUndef h, fun zβ za zw zc => ?_⟩, ?_⟩
         ·exact wp_move rfl (zc.kn.ev rfl) ⟨_, rfl, zc.chg, zc.inv, optDef zβ rfl⟩
         refine ⟨⟨true, .none rfl, fun h => optUndef h, fun zβ za zw zc => ?_⟩, ?_⟩
         ·exact fld_92_1 rfl (zc.kn.ev rfl) ⟨_, rfl, zc.chg, zc.inv, optDef zβ rfl⟩
         refine ⟨⟨true, .none rfl, fun h => optUndef h, fun zβ za zw zc => ?_⟩, ?_⟩
         ·exact ld_22 rfl ((evt za 63).trans (valVal (zc.dep 1 63 (by kernel_rfl)) rfl rfl)) (chg_cell zc.chg (by (try dsimp only at *); omega) ((hB65.cell 2).trans rfl)) ⟨_, rfl, zc.chg, zc.inv, optDef zβ rfl⟩
         refine ⟨⟨true, .none rfl, fun h => optUndef h, fun zβ za zw zc => ?_⟩, ?_⟩
         ·exact wp_move rfl (zc.kn.ev rfl) ⟨_, rfl, zc.chg, zc.inv, optDef zβ rfl⟩
         refine ⟨⟨true, .none rfl, fun h => optUndef h, fun zβ za zw zc => ?_⟩, ?_⟩
         ·exact ix_22 (k := j) rfl ((evt za 64).trans (valVal (zc.dep 2 64 (by kernel_rfl)) rfl rfl)) (hst0.n1.x i j (by omega) (by first | omega | (simp; omega))).1 ((evt za 65).trans (valVal (zc.dep 3 65 (by kernel_rfl)) rfl rfl)) (by first | omega | (simp; omega)) ⟨_, rfl, zc.chg, zc.inv, optDef zβ rfl⟩
         refine ⟨⟨true, .none rfl, fun h => optUndef h, fun zβ za zw zc => ?_⟩, ?_⟩
         ·exact ld_3 rfl ((evt za 66).trans (valVal (zc.dep 4 66 (by kernel_rfl)) rfl rfl)) (zc.inv.n1.x i j (by omega) (by first | omega | (simp; omega))).2 ⟨_, rfl, zc.chg, zc.inv, optDef zβ rfl⟩
         refine ⟨⟨true, .none rfl, fun h => optUndef h, fun zβ za zw zc => ?_⟩, ?_⟩
         ·exact fld_92_1 rfl (zc.kn.ev rfl) ⟨_, rfl, zc.chg, zc.inv, optDef zβ rfl⟩
         refine ⟨⟨true, .none rfl, fun h => optUndef h, fun zβ za zw zc => ?_⟩, ?_⟩
         ·exact ld_22 rfl ((evt za 68).trans (valVal (zc.dep 6 68 (by kernel_rfl)) rfl rfl)) (chg_cell zc.chg (by (try dsimp only at *); omega) ((hB66.cell 2).trans rfl)) ⟨_, rfl, zc.chg, zc.inv, optDef zβ rfl⟩
         refine ⟨⟨true, .none rfl, fun h => optUndef h, fun zβ za zw zc => ?_⟩, ?_⟩
         ·exact wp_move rfl (zc.kn.ev rfl) ⟨_, rfl, zc.chg, zc.inv, optDef zβ rfl⟩
         refine ⟨⟨true, .none rfl, fun h => optUndef h, fun zβ za zw zc => ?_⟩, ?_⟩
         ·exact ix_22 (k := j) rfl ((evt za 69).trans (valVal (zc.dep 7 69 (by kernel_rfl)) rfl rfl)) (hst0.n2.x k j (by omega) (by first | omega | (simp; omega))).1 ((evt za 70).trans (valVal (zc.dep 8 70 (by kernel_rfl)) rfl rfl)) (by first | omega | (simp; omega)) ⟨_, rfl, zc.chg, zc.inv, optDef zβ rfl⟩
         refine ⟨⟨true, .none rfl, fun h => optUndef h, fun zβ za zw zc => ?_⟩, ?_⟩
         ·exact ld_3 rfl ((evt za 71).trans (valVal (zc.dep 9 71 (by kernel_rfl)) rfl rfl)) (zc.inv.n2.x k j (by omega) (by first | omega | (simp; omega))).2 ⟨_, rfl, zc.chg, zc.inv, optDef zβ rfl⟩
         refine ⟨⟨true, .none rfl, fun h => optUndef h, fun zβ za zw zc => ?_⟩, ?_⟩
         ·exact wp_call (by kernel_rfl) rfl (hv3 ((evt za 62).trans (valVal (zc.dep 0 62 (by kernel_rfl)) rfl rfl)) ((evt za 67).trans (valVal (zc.dep 5 67 (by kernel_rfl)) rfl rfl)) ((evt za 72).trans (valVal (zc.dep 10 72 (by kernel_rfl)) rfl rfl))) (hA (((ndget L1 i).args.getD j 0)) (((ndget L2 k).args.getD j 0)) _ (by omega) (by omega) (by omega) zc.inv) (fun v w' h => ⟨v, rfl, zc.chg.trans h.2.2, h.2.1, optDef zβ h.1⟩)
         refine ⟨⟨true, .none rfl, fun h => optUndef h, fun zβ za zw zc => ?_⟩, ?_⟩
         ·exact wp_assign rfl ((evt za 73).trans (valVal (zc.dep 11 73 (by kernel_rfl)) rfl rfl)) ⟨_, rfl, zc.chg, zc.inv, optDef zβ rfl⟩
         exact trivial
        ·intro za w69 zh hb70 hst71 zu
         have hB72 := hB41.below hb63
         have hl73 := hB72.lt
         have hl74 := hB65.lt
         have hl75 := hB66.lt
         have hb76 : Below w0.heap.size w0 w62 := (bstep hb40 hb63)
         have hb77 := chg_below hb76 hb70 (fun b hb => (by (try dsimp only at *); omega))
         have hB78 := chg_blk hB72 hb70 (by (try dsimp only at *); omega)
         have hB79 := chg_blk hB65 hb70 (by (try dsimp only at *); omega)
         have hB80 := chg_blk hB66 hb70 (by (try dsimp only at *); omega)
         obtain ⟨hl81, hl82, hl83, hl84⟩ := hst71.glt
         have zh := zh.cons (d := 6) (v := .bool ((o.lg (ndget L1 (((ndget L1 i).args.getD j 0))).t (ndget L2 (((ndget L2 k).args.getD j 0))).t))) (valVal (zu 12 6 (by kernel_rfl)) rfl rfl)
         clear zu
         refine WE.go zh ?_
         refine WE.next (WC.ret (WE.blockRet (WE.thenRet (WE.thenRet (WE.blockRet (WE.thenRet (WE.ret1 rfl rfl ?_)))))))
         have hs85 : Chg ((fun b => b = q.gm)) w w69 := (Chg.trans2 (Chg.trans2 (Chg.trans2 (Chg.refl ((fun b => b = q.gm)) _) hc44 (fun i h1 h2 => by first | exact h2 | exact .inl ⟨h2, h1⟩ | exact .inl h2 | exact .inr h2 | exact .inr (.inl h2) | exact .inr (.inr h2) | ((try dsimp only at *); omega))) (Chg.ofBelow (S := fun k => k < 0) hb63) (fun i h1 h2 => by first | exact h2 | exact .inl ⟨h2, h1⟩ | exact .inl h2 | exact .inr h2 | exact .inr (.inl h2) | exact .inr (.inr h2) | ((try dsimp only at *); omega))) hb70 (fun i h1 h2 => by first | exact h2 | exact .inl ⟨h2, h1⟩ | exact .inl h2 | exact .inr h2 | exact .inr (.inl h2) | exact .inr (.inr h2) | ((try dsimp only at *); omega)))
         exact ⟨_, rfl, congrArg Value.bool (lex_hit hall0 hlex (by omega) (by omega) (by have z := h64; simpa using z) hc1.2 hc2.2), hst71, hs85⟩
       ·have h64 : ¬ (¬ ((T.same ((tget ((ndget L1 i).t.args) j)) ((tget ((ndget L2 k).t.args) j))) = true)) := by simpa using h64
        refine WC.skip (WE.blockNormal (WE.next (WC.region ?_)))
        refine WL.val (.int .i64 ((((j + 1) : Nat) : Int))) rfl rfl rfl (fun za zC zh zk => addb_3 rfl (zh.ev rfl) (zh.ev rfl) (wrap_eq (by omega) (by omega) (by omega)) zk) ?_
        refine WL.mv rfl rfl rfl rfl rfl (WL.nil ?_)
        refine WE.round (j + 1) ⟨rfl, rfl, rfl, rfl, rfl, rfl, rfl, rfl, trivial⟩ ?_ ?_
        ·have hb86 : Below w0.heap.size w0 w62 := (bstep hb40 hb63)
         have hB87 := hB41.below hb63
         have hB88 := hB42.below hb63
         have hB89 := hB43.below hb63
         have hs90 : Chg ((fun b => b = q.gm)) w w62 := (Chg.trans2 (Chg.trans2 (Chg.refl ((fun b => b = q.gm)) _) hc44 (fun i h1 h2 => by first | exact h2 | exact .inl ⟨h2, h1⟩ | exact .inl h2 | exact .inr h2 | exact .inr (.inl h2) | exact .inr (.inr h2) | ((try dsimp only at *); omega))) (Chg.ofBelow (S := fun k => k < 0) hb63) (fun i h1 h2 => by first | exact h2 | exact .inl ⟨h2, h1⟩ | exact .inl h2 | exact .inr h2 | exact .inr (.inl h2) | exact .inr (.inr h2) | ((try dsimp only at *); omega)))
         exact ⟨by omega, by omega, hlex.trans (lex_same (by omega) (by omega) (by have z := h64; simpa using z)), (hstl.bel hb63), hb86, hB87, hB88, hB89, hs90⟩
        ·omega
     ·have h49 : ¬ ((((j : Nat) : Int) : Int) < ((min ((((ndget L1 i).args.length : Nat) : Int)) ((((ndget L2 k).args.length : Nat) : Int))) : Int)) := by simpa using h49
      refine WC.exit (WE.thenExit (WE.thenExit (WE.blockIs rfl (WE.next (WC.seq (WC.region ?_))))))
      refine WL.val _ rfl rfl rfl (fun za zC zh zk => fld_92_1 rfl (zh.ev rfl) zk) ?_
      refine WL.val _ rfl rfl rfl (fun za zC zh zk => ld_22 rfl (zh.ev rfl) ((hB42.cell 2).trans rfl) zk) ?_
      refine WL.val (.int .i64 ((((ndget L1 i).args.length : Nat) : Int))) rfl rfl rfl (fun za zC zh zk => len_22 rfl (zh.ev rfl) zk) ?_
      refine WL.val _ rfl rfl rfl (fun za zC zh zk => fld_92_1 rfl (zh.ev rfl) zk) ?_
      refine WL.val _ rfl rfl rfl (fun za zC zh zk => ld_22 rfl (zh.ev rfl) ((hB43.cell 2).trans rfl) zk) ?_
      refine WL.val (.int .i64 ((((ndget L2 k).args.length : Nat) : Int))) rfl rfl rfl (fun za zC zh zk => len_22 rfl (zh.ev rfl) zk) ?_
      refine WL.val (.bool ((decide (((((ndget L2 k).args.length : Nat) : Int) : Int) < ((((ndget L1 i).args.length : Nat) : Int) : Int))))) rfl rfl rfl (fun za zC zh zk => gtr_3 rfl (zh.ev rfl) (zh.ev rfl) zk) ?_
      refine WL.asg rfl rfl rfl rfl rfl (WL.nil (WE.next (WC.ret (WE.ret1 rfl rfl ?_))))
      have hs91 : Chg ((fun b => b = q.gm)) w w38 := (Chg.trans2 (Chg.refl ((fun b => b = q.gm)) _) hc44 (fun i h1 h2 => by first | exact h2 | exact .inl ⟨h2, h1⟩ | exact .inl h2 | exact .inr h2 | exact .inr (.inl h2) | exact .inr (.inr h2) | ((try dsimp only at *); omega)))
      exact ⟨_, rfl, congrArg Value.bool (lex_end hall0 hlex (by omega) (by omega) (by omega)), hstl, hs91⟩
end Go.Proofs.Ytnokgjajcnhkkaa
