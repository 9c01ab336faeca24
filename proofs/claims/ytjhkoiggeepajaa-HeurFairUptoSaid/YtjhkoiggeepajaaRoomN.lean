/- A room that is made: the row of heaps grows. -/
import Derived.Test.YtjhkoiggeepajaaRoomM
namespace Go.Proofs.Ytjhkoiggeepajaa
open Go.RowKit Go
set_option linter.unusedVariables false
set_option linter.unusedSimpArgs false

abbrev ptrV (h : Nat) : Value := .pointer (some ⟨h, 0, none⟩)
theorem own_blk {w : World} {S : Nat → Prop} {e size : Nat} {ra : Option Addr} {rc n : Nat} {xs : List Value} (h : Own w S e size ra rc n xs) {b : Nat} (hb : rbOf ra n rc b) : S b ∧ ∃ cur, Blk w b e cur := by
  refine ⟨h.2 b hb, ?_⟩
  rcases h.1.2 with ⟨e1, _⟩ | ⟨g, cap, cur, e1, _, h1, _⟩
  · unfold rbOf at hb; rw [e1] at hb; cases hb
  · unfold rbOf at hb
    rw [e1] at hb
    obtain rfl : g = b := by simpa [Value.ownBlock] using hb
    exact ⟨cur, h1⟩
/-- New heaps, all of them empty, and the row that names them. -/
structure NHs (w W : World) (bs : List Nat) (ra : Option Addr) (rc : Nat) : Prop where
  nd : bs.Nodup
  box : ∀ h ∈ bs, HBox W h none 0 0 ∧ w.heap.size ≤ h
  own : Own W (rbOf ra bs.length rc) 73 1 ra rc bs.length (bs.map ptrV)
  new : ∀ b, rbOf ra bs.length rc b → w.heap.size ≤ b
section
variable {w W W' : World} {bs : List Nat} {ra ra' : Option Addr} {rc rc' g h : Nat}
theorem NHs.nil (w W : World) : NHs w W [] none 0 := ⟨List.nodup_nil, fun h hh => by simp at hh, own_nil, fun b hb => by cases hb⟩
theorem NHs.chg {S : Nat → Prop} (k : NHs w W bs ra rc) (hc : Chg S W W') (h1 : ∀ h ∈ bs, ¬ S h) (h2 : ∀ b, rbOf ra bs.length rc b → ¬ S b) : NHs w W' bs ra rc :=
  ⟨k.nd, fun h hh => ⟨chg_blk (k.box h hh).1 hc (h1 h hh), (k.box h hh).2⟩, k.own.chg hc h2, k.new⟩
theorem NHs.below (k : NHs w W bs ra rc) (hb : Below W.heap.size W W') : NHs w W' bs ra rc := k.chg (.ofBelow (S := fun _ => False) hb) (fun _ _ e => e) (fun _ _ e => e)
theorem NHs.upd (k : NHs w W bs ra rc) (hu : Upd g W W') (hg : ∃ t cs, Blk W g t cs ∧ t ≠ 73 ∧ t ≠ 81) : NHs w W' bs ra rc := by
  obtain ⟨t, cs, hB, h1, h2⟩ := hg
  refine k.chg (.ofUpd (S := fun b => b = g) hu rfl) (fun h hh e => ?_) (fun b hb e => ?_)
  · exact blk_ne (k.box h hh).1 hB (Ne.symm h2) e
  · obtain ⟨_, cur, hc⟩ := own_blk k.own hb
    exact blk_ne hc hB (Ne.symm h1) e
theorem NHs.rb (k : NHs w W bs ra rc) {t : TypeId} {cs : Array Value} (hB : Blk W g t cs) (ht : t ≠ 73) : ¬ (rbOf ra bs.length rc g ∨ W.heap.size ≤ g) := by
  rintro (q | q)
  · obtain ⟨_, cur, hc⟩ := own_blk k.own q
    exact blk_ne hc hB (Ne.symm ht) rfl
  · have := hB.lt; omega
theorem NHs.lt (k : NHs w W bs ra rc) : ∀ x ∈ bs, x < W.heap.size := fun x hx => (k.box x hx).1.lt
theorem NHs.add (k : NHs w W bs ra rc) (hB : HBox W h none 0 0) (hw : w.heap.size ≤ W.heap.size) (hh : w.heap.size ≤ h) (hn : ∀ x ∈ bs, x < h) (ho : Own W' (fun b => rbOf ra bs.length rc b ∨ W.heap.size ≤ b) 73 1 ra' rc' (bs.length + 1) (bs.map ptrV ++ [ptrV h])) (hc : Chg (fun b => rbOf ra bs.length rc b ∨ W.heap.size ≤ b) W W') : NHs w W' (bs ++ [h]) ra' rc' := by
  refine ⟨?_, fun x hx => ?_, ?_, fun b hb => ?_⟩
  · rw [List.nodup_append]
    refine ⟨k.nd, by simp, fun a ha b hb e => ?_⟩
    obtain rfl : b = h := by simpa using hb
    have := hn a ha; omega
  · rcases List.mem_append.1 hx with q | q
    · exact ⟨chg_blk (k.box x q).1 hc (k.rb (k.box x q).1 (by decide)), (k.box x q).2⟩
    · obtain rfl : x = h := by simpa using q
      exact ⟨chg_blk hB hc (k.rb hB (by decide)), hh⟩
  · have := own_rb ho
    rw [List.length_append, List.map_append]
    exact this
  · rw [List.length_append] at hb
    rcases (own_blk ho hb).1 with q | q
    · exact k.new b q
    · omega
theorem NHs.row (k : NHs w W bs ra rc) (hp : 0 < bs.length) : ∃ gh, ra = some ⟨gh, 0, none⟩ ∧ w.heap.size ≤ gh ∧ HB W gh bs.length (fun i => bs.getD i 0) := by
  rcases k.own.1.2 with ⟨_, e⟩ | ⟨g, cap, cur, e1, _, h1, h2, h3, h4, h5⟩
  · omega
  · simp only [Value.slice.injEq] at e1
    obtain ⟨rfl, _, rfl⟩ := e1
    refine ⟨g, rfl, k.new g rfl, ⟨cur, h1⟩, fun i hi => ?_⟩
    have hB : Blk W g 73 cur := h1
    have : (bs.map ptrV)[i]? = cur[0 + i]? := by
      rw [← h5, List.getElem?_take, if_pos (by omega), Array.getElem?_toList, Nat.zero_add]
    rw [hB.cell, ← this]
    simp [hi]
theorem NHs.hps {r mb gq gh : Nat} {cr cq : Array Value} {es : Array MapEntry} {cl : Nat} (k : NHs w W bs ra rc) (h1 : Blk W r 72 cr) (h2 : ObjAt W mb (.map es cl)) (h3 : Blk W gq 38 cq) (h4 : HB W gh bs.length (fun i => bs.getD i 0)) : Hps W [r, mb, gq, gh] bs.length (fun i => bs.getD i 0) (fun _ _ => False) (fun _ => []) := by
  have hm : ∀ i, i < bs.length → bs.getD i 0 ∈ bs := fun i hi => by
    rw [List.getD_eq_getElem?_getD, List.getElem?_eq_getElem hi]; exact List.getElem_mem hi
  obtain ⟨ch, h5⟩ := h4.blk
  refine ⟨fun i hi => ⟨none, 0, (k.box _ (hm i hi)).1, own_nil⟩, fun _ _ i h0 hi => by simp at hi, fun _ _ _ e => e.elim, fun i j hi hj hij e => ?_, fun _ _ _ _ _ _ e => e.elim, fun _ _ _ _ e => e, fun f hf => ?_⟩
  · have e2 : bs[i] = bs[j] := by simpa [List.getD_eq_getElem?_getD, hi, hj] using e
    have hp := List.pairwise_iff_getElem.1 k.nd
    rcases Nat.lt_or_gt_of_ne hij with q | q
    · exact hp i j hi hj q e2
    · exact hp j i hj hi q e2.symm
  · simp only [List.mem_cons, List.not_mem_nil, or_false] at hf
    rcases hf with rfl | rfl | rfl | rfl
    · exact ⟨h1.lt, fun i hi => blk_ne h1 (k.box _ (hm i hi)).1 (by decide), fun _ _ e => e⟩
    · exact ⟨h2.lt, fun i hi => (h2.neBlk (k.box _ (hm i hi)).1).symm, fun _ _ e => e⟩
    · exact ⟨h3.lt, fun i hi => blk_ne h3 (k.box _ (hm i hi)).1 (by decide), fun _ _ e => e⟩
    · exact ⟨h5.lt, fun i hi => blk_ne h5 (k.box _ (hm i hi)).1 (by decide), fun _ _ e => e⟩
end
end Go.Proofs.Ytjhkoiggeepajaa
