/- Rows of one's own whose elements lie in blocks that are told. -/
import Derived.Test.YtcmfjnadjddboaaMatSt
namespace Go.Proofs.Ytcmfjnadjddboaa
open Go.RowKit Go

section
variable {α β : Type} {E : Elt α} {E2 : Elt β} {S S' : Nat → Prop} {w w' : World} {e e2 c c2 n n2 : Nat} {a a2 : Option Addr} {l : List α} {l2 : List β}
/-- A row of one's own: its elements lie in blocks of 'S', none of which is the row's. -/
structure RowD (E : Elt α) (S : Nat → Prop) (w : World) (e : Nat) (a : Option Addr) (c n : Nat) (l : List α) : Prop where
  row : ∃ xs, w.ownsRow 0 e E.k (.slice a n c) n xs ∧ Elts E S w l xs
  len : n = l.length
  ne : ∀ b, S b → (Value.slice a n c).ownBlock ≠ some b
theorem RowD.nil : RowD E S w e none 0 0 ([] : List α) := ⟨⟨[], World.ownsRow_nil _ _ _ _, rfl⟩, rfl, fun _ _ h => (nomatch h)⟩
theorem RowD.rowE (h : RowD E S w e a c n l) : RowE E w 0 e a c n l := by
  obtain ⟨⟨xs, h1, h2⟩, h3, h4⟩ := h
  exact ⟨⟨xs, h1, Elts.mono (fun b hb _ => ⟨Nat.zero_le _, h4 b hb⟩) h2⟩, h3⟩
theorem RowD.lt (h : RowD E S w e a c n l) : ∀ b, (Value.slice a n c).ownBlock = some b → b < w.heap.size := fun b hb => (h.rowE.lt b hb).2
theorem RowD.mono (h : RowD E S w e a c n l) (hb : ∀ b, S b → b < w.heap.size → S' b) (hne : ∀ b, S' b → (Value.slice a n c).ownBlock ≠ some b) : RowD E S' w e a c n l := by
  obtain ⟨⟨xs, h1, h2⟩, h3, h4⟩ := h
  exact ⟨⟨xs, h1, Elts.mono hb h2⟩, h3, hne⟩
/-- Blocks of the row and of its elements are as they were. -/
theorem RowD.chg {Z : Nat → Prop} (h : RowD E S w e a c n l) (hc : Chg Z w w') (h1 : ∀ b, (Value.slice a n c).ownBlock = some b → ¬ Z b) (h2 : ∀ b, S b → ¬ Z b) : RowD E S w' e a c n l := by
  obtain ⟨⟨xs, k1, k2⟩, k3, k4⟩ := h
  refine ⟨⟨xs, ⟨k1.1, k1.2.imp id ?_⟩, Elts.keep (fun p v hp hv => ?_) k2⟩, k3, k4⟩
  · rintro ⟨g, cap, cur, e1, e2, e3, r⟩
    refine ⟨g, cap, cur, e1, e2, ?_, r⟩
    rw [hc.block g (Array.getElem?_eq_some_iff.1 e3).1 (h1 g (by rw [e1]; rfl))]; exact e3
  · have hb := World.block_lt_of_cell? _ _ hv
    unfold World.cell? at hv ⊢
    rw [hc.block p.block hb (h2 _ hp)]; exact hv
theorem RowD.below (h : RowD E S w e a c n l) (hb : Below w.heap.size w w') : RowD E S w' e a c n l := h.chg (Z := fun _ => False) (.ofBelow hb) (fun _ _ => id) (fun _ _ => id)
theorem RowD.inRow (h : RowD E S w e a c n l) : InRow E (fun _ => True) w l a ∧ n ≤ c ∧ c ≤ maxLen := by
  obtain ⟨h1, h2, h3, h4⟩ := h.rowE.inRow
  rcases Nat.eq_zero_or_pos E.k with hk | hk
  · exact ⟨fun i hi => by
      obtain ⟨b, o, cs, e1, _, e3, e4⟩ := h1 i hi
      exact ⟨b, o, cs, e1, trivial, E.mono (fun _ _ _ => trivial) e3, e4⟩, h3, h4⟩
  · exact ⟨h1.mono hk (fun _ _ _ => trivial), h3, h4⟩
theorem Elts.take : ∀ {l : List α} {xs : List Value} (k : Nat), Elts E S w l xs → Elts E S w (l.take k) (xs.take (k * E.k))
  | [], xs, k, h => by have : xs = [] := h; subst this; simp; exact rfl
  | x :: l, xs, 0, _ => by simp; exact rfl
  | x :: l, xs, k + 1, ⟨cs, r, e, h3, h4⟩ => by
    subst e
    refine ⟨cs, r.take (k * E.k), ?_, h3, Elts.take k h4⟩
    rw [List.take_append, E.len h3, Nat.add_mul, Nat.one_mul, Nat.add_sub_cancel, List.take_of_length_le (by rw [E.len h3]; omega)]
theorem RowD.take (h : RowD E S w e a c n l) (k : Nat) (hk : k ≤ n) : RowD E S w e a c k (l.take k) := by
  obtain ⟨⟨xs, h1, h2⟩, rfl, h4⟩ := h
  refine ⟨⟨xs.take (k * E.k), ⟨by rw [List.length_take, h1.1]; exact Nat.min_eq_left (Nat.mul_le_mul_right _ hk), ?_⟩, Elts.take k h2⟩, by simp; omega, fun b hb => by
    have := h4 b hb
    cases a <;> exact this⟩
  rcases h1.2 with ⟨e1, h0⟩ | ⟨g, cap, cur, e1, e2, e3, e4, e5, e6, e7⟩
  · simp only [Value.slice.injEq] at e1
    obtain ⟨rfl, e, rfl⟩ := e1
    left
    have : k = 0 := by omega
    subst this
    exact ⟨rfl, by simp⟩
  · right
    simp only [Value.slice.injEq, true_and] at e1
    obtain ⟨rfl, rfl⟩ := e1
    exact ⟨g, _, cur, rfl, e2, e3, by omega, e5, e6, by rw [← e7, List.take_take, Nat.min_eq_left (Nat.mul_le_mul_right _ hk)]⟩
theorem RowD.neBlk {g ty : Nat} {cs : Array Value} (h : RowD E S w e a c n l) (hB : Blk w g ty cs) (he : e ≠ ty) : (Value.slice a n c).ownBlock ≠ some g := h.rowE.neBlk hB he
end
section
variable {α : Type} {E : Elt α} {P : Program} {w : World} {a : Act} {K : Act → World → Prop} {Q : Exit → Act → World → Prop} {o : Oper} {S S2 : Nat → Prop}
/-- One element more, by append. -/
theorem wp_appD {s x : Operand} {t e : Nat} {z : Value} {size bytes n rc g1 : Nat} {ra : Option Addr} {l : List α} {y : α} {cs : List Value} (hk : E.k = size) (ht : P.underlying t = some (.slice e)) (hinfo : (P.info? e).map (fun i => (i.zero, i.size, i.bytes)) = some (some z, size, bytes)) (hzs : z.cells.size = size) (hsz : 0 < size)
    (ho : o.op = .call { callee := .builtin .append, args := #[s, x], argTypes := #[t, t] }) (hs : a.eval s = .slice ra n rc) (hx : a.eval x = .slice (some ⟨g1, 0, none⟩) 1 1) (hrow : RowD E S w e ra rc n l) (hB : Blk w g1 e cs.toArray) (hin : E.In S2 w y cs) (hS2 : ∀ b, S2 b → (Value.slice ra n rc).ownBlock ≠ some b)
    (hb : (n + 1) * bytes ≤ 140737488355328) (hn : n + 1 ≤ 9223372036854775807) (hK : ∀ ra' rc' w', RowD E (fun b => (S b ∨ S2 b) ∧ b < w.heap.size) w' e ra' rc' (n + 1) (l ++ [y]) → Chg (fun b => (Value.slice ra n rc).ownBlock = some b) w w' → (∀ b, (Value.slice ra' (n + 1) rc').ownBlock = some b → (Value.slice ra n rc).ownBlock = some b ∨ w.heap.size ≤ b) → K (a.put o.dst (.slice ra' (n + 1) rc')) w') : o.wp P a w K Q := by
  subst hk
  obtain ⟨⟨xs, h1, h2⟩, rfl, h4⟩ := hrow
  refine wp_app (m := 1) (news := cs) ht hinfo hzs hsz ho hs hx h1 (SrcIs.ofBlk hB) (by rw [E.len hin]; omega) (E.one hin) hb hn (Nat.zero_le _) (fun ra' rc' w' h => hK _ _ _ ?_ ⟨h.grow.os, h.grow.tape, h.grow.output, h.grow.size, fun k hk hSk => h.grow.block k hk (fun e => hSk e.symm)⟩ ?_)
  · have key : ∀ (p : Addr) (v : Value), (Value.slice ra l.length rc).ownBlock ≠ some p.block → w.cell? p = some v → w'.cell? p = some v := fun p v hp hv => h.grow.cell hv (Ne.symm hp)
    have ne2 : ∀ b, (S b ∨ S2 b) → (Value.slice ra l.length rc).ownBlock ≠ some b := fun b q => q.elim (h4 b) (hS2 b)
    refine ⟨⟨xs ++ cs, h.own, ?_⟩, by simp, fun b hb e => ?_⟩
    · refine Elts.keep (w := w) (fun p v hp hv => key p v (ne2 _ hp.1) hv) ?_
      exact Elts.snoc (E.mono (fun b hb hlt => ⟨.inr hb, hlt⟩) hin) (Elts.mono (fun b hb hlt => ⟨.inl hb, hlt⟩) h2)
    · rcases h.at_ with e2 | e2
      · exact ne2 b hb.1 (e2 ▸ e)
      · rw [e2] at e; have := Option.some.inj e; have := hb.2; omega
  · intro b hb
    rcases h.at_ with e2 | e2
    · exact .inl (e2 ▸ hb)
    · rw [e2] at hb; exact .inr (Nat.le_of_eq (Option.some.inj hb))
end

end Go.Proofs.Ytcmfjnadjddboaa
