/- The library's Sort, Compact and Contains over rows of the call's own. -/
import Derived.Test.YtlkiabgpnboicaaSortLay
import Derived.Test.YtlkiabgpnboicaaTRows
import Derived.Test.YtlkiabgpnboicaaGrowR
import Derived.Sort.OwnSortedInts
namespace Go.Proofs.Ytlkiabgpnboicaa
open Go.RowKit Go.Sort Go.Shelf Go

theorem compact_sub (d : Array Int) (m : Nat) (x : Int) (h : x ∈ Lib.compactUpTo d m) : ∃ j, j < m ∧ d[j]! = x := by
  unfold Lib.compactUpTo at h
  simp only [List.mem_map, List.mem_filter, List.mem_range] at h
  obtain ⟨j, ⟨h1, _⟩, h2⟩ := h
  exact ⟨j, h1, h2⟩
theorem compact_sup (d : Array Int) (m : Nat) : ∀ j, j < m → d[j]! ∈ Lib.compactUpTo d m := by
  intro j
  induction j using Nat.strongRecOn with
  | ind j ih =>
    intro hj
    unfold Lib.compactUpTo
    simp only [List.mem_map, List.mem_filter, List.mem_range]
    by_cases hk : Lib.keeps d j = true
    · exact ⟨j, ⟨hj, hk⟩, rfl⟩
    · have h0 : j ≠ 0 := by rintro rfl; exact hk (Lib.keeps_lt_one d 0 (by omega))
      have he : d[j]! = d[j - 1]! := by
        unfold Lib.keeps at hk
        simp only [decide_eq_true_eq, ne_eq] at hk
        by_cases e : d[j]! = d[j - 1]!
        · exact e
        · exact absurd (by first | exact .inr e | exact .inr (fun h => e h.symm) | exact .inr (Ne.symm e)) hk
      have := ih (j - 1) (by omega) (by omega)
      unfold Lib.compactUpTo at this
      simp only [List.mem_map, List.mem_filter, List.mem_range] at this
      rw [he]; exact this
theorem compact_mem (l : List Int) (x : Int) : x ∈ Lib.compact l ↔ x ∈ l := by
  unfold Lib.compact
  have e : ∀ j, j < l.length → l.toArray[j]! = l[j]! := fun j hj => by simp
  constructor
  · intro h
    obtain ⟨j, hj, rfl⟩ := compact_sub _ _ _ h
    rw [e j hj, getElem!_pos l j hj]; exact List.getElem_mem hj
  · intro h
    obtain ⟨j, hj, rfl⟩ := List.getElem_of_mem h
    have := compact_sup l.toArray l.length j hj
    rwa [e j hj, getElem!_pos l j hj] at this
theorem compact_le (l : List Int) : (Lib.compact l).length ≤ l.length := by
  unfold Lib.compact Lib.compactUpTo
  rw [List.length_map]
  exact Nat.le_trans (List.length_filter_le _ _) (by simp)

section
variable {w : World} {S : Nat → Prop} {ra : Option Addr} {rc n : Nat} {L : List Int}

theorem holds_own {g : Nat} (h : w.ownsRow 0 3 1 (.slice (some ⟨g, 0, none⟩) n rc) n (L.map (Value.int .i64))) : Holds (Value.int .i64) w g 0 L.toArray := by
  rcases h.2 with ⟨e, _⟩ | ⟨g', cap, cur, e, _, hb, hc, hm, hs, hx⟩
  · cases e
  · cases e
    have hl : L.length = n := by have := h.1; simpa using this
    intro j hj
    have hj' : j < L.length := by simpa using hj
    have hx' := congrArg (fun l => l[j]?) hx
    simp only [Nat.mul_one, List.getElem?_map] at hx'
    rw [List.getElem?_take_of_lt (by omega), Array.getElem?_toList, List.getElem?_eq_getElem hj'] at hx'
    refine ⟨?_, ?_⟩
    · simp only [World.cell?, hb, Nat.zero_add]
      simp [hx', hj']
    · simp [World.frozen?, hb]

theorem sort_own (h : Own w S 3 1 ra rc n (L.map (Value.int .i64))) (hz : n ≤ 4294967296) :
    Calls Try.prog 63 #[.slice ra n rc] w (Ret fun v' w' => ∃ L' : List Int, v' = .tuple #[] ∧ (∀ x, x ∈ L' ↔ x ∈ L) ∧ Own w' S 3 1 ra rc n (L'.map (Value.int .i64)) ∧ Chg S w w') := by
  have hl : L.length = n := by have := h.1.1; simpa using this
  have h0 := h
  rcases h.1.2 with ⟨e, h0⟩ | ⟨g, cap, cur, e, h1, hb, hc, hm, hs, hx⟩
  · simp only [Value.slice.injEq] at e
    obtain ⟨rfl, rfl, rfl⟩ := e
    refine (AnyM.slices_Sort_int_none Try.lSort none 0 w).mono ?_
    rintro e w' ⟨rfl, rfl⟩
    exact ⟨_, rfl, L, rfl, fun _ => Iff.rfl, h, .refl _ _⟩
  · simp only [Value.slice.injEq, true_and] at e
    obtain ⟨rfl, rfl⟩ := e
    subst hl
    have hg : g < w.heap.size := (Array.getElem?_eq_some_iff.1 hb).1
    refine (AnyM.slices_Sort_int Try.lSort g 0 rc L w (holds_own h.1) hg (by omega)).mono ?_
    rintro e w' ⟨rfl, m, os, rfl⟩
    have hS : S g := h.2 g rfl
    have hL : (L.mergeSort fun x y => decide (x ≤ y)).length = L.length := by simp
    refine ⟨_, rfl, L.mergeSort fun x y => decide (x ≤ y), rfl, fun x => List.mem_mergeSort, ⟨ownsRow_sortedI hL h1 hb hc hm hs, h.2⟩, ?_⟩
    have hG := grownBy_sortedI (w := w) (g := g) (n := m) (os := os) (L.mergeSort fun x y => decide (x ≤ y)).toArray
    exact ⟨hG.os, hG.tape, hG.output, hG.size, fun k hk hn => hG.block k hk (fun e => hn (Option.some.inj e ▸ hS))⟩

theorem compact_own (h : Own w S 3 1 ra rc n (L.map (Value.int .i64))) (hz : n ≤ 4294967296) (hw : ∀ x ∈ L, I64 x) :
    Calls Try.prog 64 #[.slice ra n rc] w (Ret fun v' w' => ∃ (l : List Int) (a : Option Addr) (c : Nat), v' = .slice a l.length c ∧ l.length ≤ c ∧ c ≤ maxLen ∧ IsInts w' l a ∧ (∀ x, x ∈ l ↔ x ∈ L) ∧ Chg S w w') := by
  have hl : L.length = n := by have := h.1.1; simpa using this
  rcases h.1.2 with ⟨e, h0⟩ | ⟨g, cap, cur, e, h1, hb, hc, hm, hs, hx⟩
  · simp only [Value.slice.injEq] at e
    obtain ⟨rfl, rfl, rfl⟩ := e
    refine (Any.slices_Compact_int_empty Try.lCompact none 0 w).mono ?_
    rintro e w' ⟨rfl, rfl⟩
    obtain rfl : L = [] := List.length_eq_zero_iff.1 hl
    exact ⟨_, rfl, [], none, 0, rfl, Nat.le_refl _, Nat.zero_le _, fun k hk => by simp at hk, fun _ => Iff.rfl, .refl _ _⟩
  · simp only [Value.slice.injEq, true_and] at e
    obtain ⟨rfl, rfl⟩ := e
    subst hl
    refine (Any.slices_Compact_int Try.lCompact g 0 rc L w (holds_own h.1) (by omega) hc).mono ?_
    rintro e w' ⟨rfl, m, rfl⟩
    have hle := compact_le L
    have hS : S g := h.2 g rfl
    have hlen : (Lib.compact L ++ List.replicate (L.length - (Lib.compact L).length) (0 : Int)).length = L.length := by simp; omega
    have hG := grownBy_sortedI (w := w) (g := g) (n := m) (os := #[]) (Lib.compact L ++ List.replicate (L.length - (Lib.compact L).length) 0).toArray
    have hO := ownsRow_sortedI (w := w) (n := m) (os := #[]) hlen h1 hb hc hm hs
    rw [grow_empty] at hG hO
    have hH := holds_own hO
    refine ⟨_, rfl, Lib.compact L, _, rc, rfl, by omega, hm, fun k hk => ⟨g, 0, [.int .i64 (Lib.compact L)[k]], rfl, rfl, fun j hj => ?_, rfl, hw _ ((compact_mem L _).1 (List.getElem_mem hk))⟩, fun x => compact_mem L x, ⟨hG.os, hG.tape, hG.output, hG.size, fun k hk hn => hG.block k hk (fun e => hn (Option.some.inj e ▸ hS))⟩⟩
    obtain rfl : j = 0 := by omega
    have := (hH k (by simp; omega)).1
    simp only [Nat.zero_add, Nat.mul_one, Nat.add_zero, List.getElem?_cons_zero] at this ⊢
    rw [this]
    simp [List.getElem_append, hk, List.getElem?_append_left hk]

theorem contains_any (l : List Int) (x : Int) (w : World) (a : Option Addr) (c : Nat) (hc : l.length ≤ c) (hm : c ≤ maxLen) (hl : IsInts w l a) :
    Calls Try.prog 56 #[.slice a l.length c, .int .i64 x] w (Ret fun v' w' => v' = .bool (decide (x ∈ l)) ∧ Below w.heap.size w w') := by
  unfold maxLen at hm
  rcases Nat.eq_zero_or_pos l.length with h0 | h0
  · obtain rfl : l = [] := List.length_eq_zero_iff.1 h0
    refine (Any.slices_Contains_int_empty Try.lContains a c x w).mono ?_
    rintro e w' ⟨rfl, rfl⟩
    exact ⟨_, rfl, by simp, Below.refl _ _⟩
  · obtain ⟨b, o, ha, hcell⟩ := hl.open
    obtain rfl := ha 0 h0
    refine (Any.slices_Contains_int Try.lContains b o l.length c l x w (Nat.le_refl _) (by omega) (fun j hj => hcell j hj)).mono ?_
    rintro e w' ⟨rfl, rfl⟩
    exact ⟨_, rfl, by rw [List.take_length]; simp, Below.refl _ _⟩
end

end Go.Proofs.Ytlkiabgpnboicaa
