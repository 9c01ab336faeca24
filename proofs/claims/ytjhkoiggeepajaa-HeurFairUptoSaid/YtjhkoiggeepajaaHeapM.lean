/- Heaps in memory: a box with a row and a comparison; the row's blocks. -/
import Derived.Test.YtjhkoiggeepajaaHeapP
import Derived.Test.YtjhkoiggeepajaaNums
namespace Go.Proofs.Ytjhkoiggeepajaa
open Go.RowKit Go
set_option linter.unusedVariables false
set_option linter.unusedSimpArgs false

def itC (x : It) : List Value := [.int .i64 x.b0, .int .i64 x.b1, .int .i64 x.id, .int .i64 x.tm]
def itsC (L : List It) : List Value := L.flatMap itC
theorem itsC_len : ∀ (L : List It), (itsC L).length = L.length * 4
  | [] => rfl
  | x :: r => by have := itsC_len r; simp [itsC, itC] at this ⊢; omega
theorem itsC_app (L M : List It) : itsC (L ++ M) = itsC L ++ itsC M := by simp [itsC]
theorem itsC_one (x : It) : itsC [x] = [.int .i64 x.b0, .int .i64 x.b1, .int .i64 x.id, .int .i64 x.tm] := by simp [itsC, itC]
theorem itsC_take (L : List It) (n : Nat) : itsC (L.take n) = (itsC L).take (n * 4) := by
  induction L generalizing n with
  | nil => simp [itsC]
  | cons x r ih =>
    cases n with
    | zero => simp [itsC]
    | succ n =>
      have := ih n
      simp only [itsC, List.take_succ_cons, List.flatMap_cons] at this ⊢
      rw [this, List.take_append]
      rw [show (n + 1) * 4 - (itC x).length = n * 4 by simp [itC]; omega, List.take_of_length_le (show (itC x).length ≤ (n + 1) * 4 by simp [itC]; omega)]
theorem itsC_at : ∀ (L : List It) (i : Nat), i < L.length → (itsC L)[i * 4]? = some (.int .i64 (hget L i).b0) ∧ (itsC L)[i * 4 + 1]? = some (.int .i64 (hget L i).b1) ∧ (itsC L)[i * 4 + 2]? = some (.int .i64 (hget L i).id) ∧ (itsC L)[i * 4 + 3]? = some (.int .i64 (hget L i).tm)
  | [], i, h => by simp at h
  | x :: r, 0, _ => by simp [itsC, itC, hget]
  | x :: r, i + 1, h => by
    have := itsC_at r i (by simpa using h)
    have e : ∀ q, (itsC (x :: r))[(i + 1) * 4 + q]? = (itsC r)[i * 4 + q]? := fun q => by
      simp only [itsC, List.flatMap_cons]
      rw [List.getElem?_append_right (by simp [itC]; omega)]
      congr 1; simp [itC]; omega
    have e0 := e 0
    simp only [Nat.add_zero] at e0
    rw [e0, e 1, e 2, e 3]
    exact this
theorem itsC_set : ∀ (L : List It) (i : Nat) (x : It), i < L.length → ((((itsC L).set (i * 4) (.int .i64 x.b0)).set (i * 4 + 1) (.int .i64 x.b1)).set (i * 4 + 2) (.int .i64 x.id)).set (i * 4 + 3) (.int .i64 x.tm) = itsC (L.set i x)
  | [], i, x, h => by simp at h
  | y :: r, 0, x, _ => by simp [itsC, itC]
  | y :: r, i + 1, x, h => by
    have ih := itsC_set r i x (by simpa using h)
    have e : ∀ (l : List Value) (q : Nat) (v : Value), (itC y ++ l).set ((i + 1) * 4 + q) v = itC y ++ l.set (i * 4 + q) v := fun l q v => by
      rw [List.set_append_right _ _ (by simp [itC]; omega)]
      congr 2; simp [itC]; omega
    have e0 := fun l v => e l 0 v
    simp only [Nat.add_zero] at e0
    simp only [List.set_cons_succ]
    show ((((itC y ++ itsC r).set _ _).set _ _).set _ _).set _ _ = itC y ++ itsC (r.set i x)
    rw [e0, e, e, e, ih]
/-- The row of a heap, in the block 'g'. -/
structure HR (w : World) (g rc : Nat) (L : List It) : Prop where
  ex : ∃ cur : Array Value, Blk w g 75 cur ∧ cur.size = rc * 4 ∧ cur.toList.take (L.length * 4) = itsC L
  cap : L.length ≤ rc
  max : rc ≤ maxLen
section
variable {w w' : World} {g rc : Nat} {L : List It}
theorem HR.lt (h : HR w g rc L) : g < w.heap.size := by obtain ⟨_, h1, _⟩ := h.ex; exact h1.lt
theorem HR.below (h : HR w g rc L) (hb : Below w.heap.size w w') : HR w' g rc L := by
  obtain ⟨c, h1, h2⟩ := h.ex; exact ⟨⟨c, h1.below hb, h2⟩, h.cap, h.max⟩
theorem HR.chg {S : Nat → Prop} (h : HR w g rc L) (hc : Chg S w w') (hS : ¬ S g) : HR w' g rc L := by
  obtain ⟨c, h1, h2⟩ := h.ex; exact ⟨⟨c, chg_blk h1 hc hS, h2⟩, h.cap, h.max⟩
theorem HR.upd {q : Nat} (h : HR w g rc L) (hu : Upd q w w') (hq : g ≠ q) : HR w' g rc L := by
  obtain ⟨c, h1, h2⟩ := h.ex; exact ⟨⟨c, upd_blk h1 hu hq, h2⟩, h.cap, h.max⟩
theorem HR.cells (h : HR w g rc L) : ∀ i, i < L.length → w.cell? ⟨g, 0 + i * 4, none⟩ = some (.int .i64 (hget L i).b0) ∧ w.cell? ⟨g, 0 + i * 4 + 1, none⟩ = some (.int .i64 (hget L i).b1) ∧ w.cell? ⟨g, 0 + i * 4 + 2, none⟩ = some (.int .i64 (hget L i).id) ∧ w.cell? ⟨g, 0 + i * 4 + 3, none⟩ = some (.int .i64 (hget L i).tm) := fun i hi => by
  obtain ⟨c, h1, h2, h3⟩ := h.ex
  have key : ∀ q, q < 4 → w.cell? ⟨g, i * 4 + q, none⟩ = (itsC L)[i * 4 + q]? := fun q hq => by
    rw [h1.cell, ← h3, List.getElem?_take, if_pos (by omega), Array.getElem?_toList]
  have k0 := key 0 (by omega)
  simp only [Nat.add_zero] at k0
  rw [Nat.zero_add, k0, key 1 (by omega), key 2 (by omega), key 3 (by omega)]
  exact itsC_at L i hi
theorem HR.size (h : HR w g rc L) {i : Nat} (hi : i < L.length) : ∃ c, Blk w g 75 c ∧ 0 + i * 4 + 3 < c.size := by
  obtain ⟨c, h1, h2, h3⟩ := h.ex
  have := h.cap
  exact ⟨c, h1, by omega⟩
theorem HR.set (h : HR w g rc L) {i : Nat} (x : It) (hi : i < L.length) : HR ((((w.setCell ⟨g, 0 + i * 4, none⟩ (.int .i64 x.b0)).setCell ⟨g, 0 + i * 4 + 1, none⟩ (.int .i64 x.b1)).setCell ⟨g, 0 + i * 4 + 2, none⟩ (.int .i64 x.id)).setCell ⟨g, 0 + i * 4 + 3, none⟩ (.int .i64 x.tm)) g rc (L.set i x) := by
  obtain ⟨c, h1, h2, h3⟩ := h.ex
  have hcap := h.cap
  refine ⟨⟨_, (((h1.set_ _ _).set_ _ _).set_ _ _).set_ _ _, by simp [h2], ?_⟩, by simpa using hcap, h.max⟩
  rw [List.length_set, ← itsC_set L i x hi, ← h3]
  simp only [Array.toList_setIfInBounds, Nat.zero_add]
  rw [List.take_set, List.take_set, List.take_set, List.take_set]
theorem HR.take (h : HR w g rc L) (n : Nat) (hn : n ≤ L.length) : HR w g rc (L.take n) := by
  obtain ⟨c, h1, h2, h3⟩ := h.ex
  have hcap := h.cap
  refine ⟨⟨c, h1, h2, ?_⟩, by simp; omega, h.max⟩
  rw [itsC_take, ← h3, List.take_take, List.length_take, show min n L.length * 4 = min (n * 4) (L.length * 4) by omega]
theorem HR.own {S : Nat → Prop} (h : HR w g rc L) (hS : S g) : Own w S 75 4 (some ⟨g, 0, none⟩) rc L.length (itsC L) := by
  obtain ⟨c, h1, h2, h3⟩ := h.ex
  exact ⟨⟨itsC_len L, .inr ⟨g, rc, c, rfl, Nat.zero_le _, h1, h.cap, h.max, h2, h3⟩⟩, fun b hb => by
    have : g = b := by simpa [Value.ownBlock] using hb
    exact this ▸ hS⟩
theorem HR.of {S : Nat → Prop} {ra : Option Addr} (h : Own w S 75 4 ra rc L.length (itsC L)) (hn : 0 < L.length) : ∃ g, ra = some ⟨g, 0, none⟩ ∧ S g ∧ HR w g rc L := by
  rcases h.1.2 with ⟨_, e⟩ | ⟨g, cap, cur, e1, _, h1, h2, h3, h4, h5⟩
  · omega
  · simp only [Value.slice.injEq] at e1
    obtain ⟨rfl, _, rfl⟩ := e1
    exact ⟨g, rfl, h.2 g rfl, ⟨cur, h1, h4, h5⟩, h2, h3⟩
end
theorem HR.ne {t : TypeId} {cs : Array Value} {w : World} {g h rc : Nat} {L : List It} (k : HR w g rc L) (hB : Blk w h t cs) (ht : t ≠ 75) : g ≠ h := by
  rintro rfl
  obtain ⟨c, h1, _⟩ := k.ex
  unfold Blk at h1 hB
  rw [h1] at hB
  simp only [Option.some.injEq, Obj.cells.injEq] at hB
  exact ht hB.2.1.symm
/-- What the row holds, by how many have been stored. -/
def HV (g rc : Nat) (Ls : List (List It)) (vals : List Value) (w : World) : Prop := HR w g rc (Ls.getD vals.length [])
theorem HV.below {g rc : Nat} {Ls : List (List It)} (vals : List Value) (w w' : World) (hb : Below w.heap.size w w') (h : HV g rc Ls vals w) : HV g rc Ls vals w' := HR.below h hb
/-- A heap's box. -/
abbrev HBox (w : World) (h : Nat) (ra : Option Addr) (n rc : Nat) : Prop := Blk w h 81 #[.slice ra n rc, .func (.func 25) #[] #[]]
/-- Where an append to a heap's row stands. -/
def PushV (h : Nat) (S : Nat → Prop) (x : It) (L : List It) (ra : Option Addr) (rc : Nat) : List Value → World → Prop
  | [], w => HBox w h ra L.length rc ∧ Own w S 75 4 ra rc L.length (itsC L)
  | [v], w => HBox w h ra L.length rc ∧ Own w S 75 4 ra rc L.length (itsC L) ∧ ∃ g, v = .slice (some ⟨g, 0, none⟩) 1 1 ∧ Blk w g 75 #[.int .i64 x.b0, .int .i64 x.b1, .int .i64 x.id, .int .i64 x.tm]
  | [_, v], w => HBox w h ra L.length rc ∧ ∃ ra' rc', v = .slice ra' (L.length + 1) rc' ∧ Own w S 75 4 ra' rc' (L.length + 1) (itsC (L ++ [x]))
  | _, w => ∃ ra' rc', HBox w h ra' (L.length + 1) rc' ∧ Own w S 75 4 ra' rc' (L.length + 1) (itsC (L ++ [x]))
theorem PushV.below {h : Nat} {S : Nat → Prop} {x : It} {L : List It} {ra : Option Addr} {rc : Nat} (vals : List Value) (w w' : World) (hb : Below w.heap.size w w') (k : PushV h S x L ra rc vals w) : PushV h S x L ra rc vals w' := by
  match vals, k with
  | [], k => exact ⟨k.1.below hb, k.2.below hb⟩
  | [v], k => obtain ⟨k1, k2, g, k3, k4⟩ := k; exact ⟨k1.below hb, k2.below hb, g, k3, k4.below hb⟩
  | [_, v], k => obtain ⟨k1, r, c, k2, k3⟩ := k; exact ⟨k1.below hb, r, c, k2, k3.below hb⟩
  | _ :: _ :: _ :: _, k => obtain ⟨r, c, k1, k2⟩ := k; exact ⟨r, c, k1.below hb, k2.below hb⟩
/-- A heap: its box 'h', its row in a block that 'S' holds of. -/
structure HeapAt (w : World) (h : Nat) (S : Nat → Prop) (L : List It) : Prop where
  ex : ∃ ra rc, Blk w h 81 #[.slice ra L.length rc, .func (.func 25) #[] #[]] ∧ Own w S 75 4 ra rc L.length (itsC L)
section
variable {w w' : World} {h : Nat} {S S' : Nat → Prop} {L : List It}
theorem HeapAt.lt (k : HeapAt w h S L) : h < w.heap.size := by obtain ⟨_, _, h1, _⟩ := k.ex; exact h1.lt
theorem HeapAt.below (k : HeapAt w h S L) (hb : Below w.heap.size w w') : HeapAt w' h S L := by
  obtain ⟨a, c, h1, h2⟩ := k.ex; exact ⟨a, c, h1.below hb, h2.below hb⟩
theorem HeapAt.chg {S2 : Nat → Prop} (k : HeapAt w h S L) (hc : Chg S2 w w') (h0 : ¬ S2 h) (hS : ∀ b, S b → ¬ S2 b) : HeapAt w' h S L := by
  obtain ⟨a, c, h1, h2⟩ := k.ex; exact ⟨a, c, chg_blk h1 hc h0, h2.chg hc hS⟩
theorem HeapAt.mono (k : HeapAt w h S L) (hS : ∀ b, S b → b < w.heap.size → S' b) : HeapAt w h S' L := by
  obtain ⟨a, c, h1, h2⟩ := k.ex; exact ⟨a, c, h1, h2.mono hS⟩
end
/-- The row's own block. -/
def rbOf (ra : Option Addr) (n rc : Nat) : Nat → Prop := fun b => (Value.slice ra n rc).ownBlock = some b
theorem own_rb {w : World} {S : Nat → Prop} {e size : Nat} {ra : Option Addr} {rc n : Nat} {xs : List Value} (h : Own w S e size ra rc n xs) : Own w (rbOf ra n rc) e size ra rc n xs := ⟨h.1, fun b hb => hb⟩
/-- The first that is not nought. -/
def firstI : List Int → Int
  | [] => 0
  | x :: r => if x = 0 then firstI r else x
theorem firstI_or (a b c d : Int) : firstI [a, b, c, d] = orI a (orI b (orI c d)) := by
  simp only [firstI, orI]
  repeat' split
  all_goals omega
theorem firstI_skip {l : List Int} {k : Nat} (hk : k < l.length) (h0 : nget l k = 0) : firstI (l.drop k) = firstI (l.drop (k + 1)) := by
  rw [List.drop_eq_getElem_cons hk, firstI, if_pos (by rw [← nget_lt hk]; exact h0)]
theorem firstI_found {l : List Int} {k : Nat} (hk : k < l.length) (h0 : nget l k ≠ 0) : firstI (l.drop k) = nget l k := by
  rw [List.drop_eq_getElem_cons hk, firstI, if_neg (by rw [← nget_lt hk]; exact h0), nget_lt hk]
theorem firstI_end {l : List Int} {k : Nat} (hk : l.length ≤ k) : firstI (l.drop k) = 0 := by rw [List.drop_eq_nil_of_le hk]; rfl
end Go.Proofs.Ytjhkoiggeepajaa
